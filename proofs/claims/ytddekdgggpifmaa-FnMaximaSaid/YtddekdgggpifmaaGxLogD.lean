/-
  How far the logarithms of two numbers are apart.
-/
import Derived.Test.YtddekdgggpifmaaGxLogV
namespace Go.Gx
set_option linter.unusedSimpArgs false
set_option linter.unusedVariables false
open Ieee

/-- What the loops leave of a number, and its logarithm. -/
structure Lg (Z S V : Rat) (E : Int) : Prop where
  z0 : 3 / 4 ≤ Z
  z1 : Z ≤ 3 / 2
  s0 : -(144 / 1000) ≤ S
  s1 : S ≤ 2001 / 10000
  e : Bd (S * (Z + 1) - (Z - 1)) (1 / 1000000000)
  up : 0 ≤ S → -(1 / 100000000) ≤ V - 2 * S - (E : Rat) * lnR ∧ V - 2 * S - (E : Rat) * lnR ≤ 61 / 10000
  dn : S ≤ 0 → -(44 / 10000) ≤ V - 2 * S - (E : Rat) * lnR ∧ V - 2 * S - (E : Rat) * lnR ≤ 1 / 100000000
theorem lg_of {x : Nat} (hx : FinW .f32 x) (h0 : p2 (-149) ≤ fval .f32 x) : ∃ Z S E, Lg Z S (fval .f64 (logW (f64 x))) E ∧ fval .f32 x = Z * p2 E := by
  obtain ⟨z1, z2, z3, z4, _⟩ := logZ_val hx h0
  obtain ⟨_, s2, s3, s4⟩ := logS_val z1 z2 z3
  obtain ⟨_, w2, w3⟩ := logW_near hx h0
  exact ⟨_, _, _, ⟨z2, z3, s2, s3, s4, w2, w3⟩, z4⟩
section
variable {Z S V Z' S' V' : Rat} {E E' : Int}
theorem Lg.d (h : Lg Z S V E) : -(44 / 10000) ≤ V - 2 * S - (E : Rat) * lnR ∧ V - 2 * S - (E : Rat) * lnR ≤ 61 / 10000 := by
  rcases Rat.le_total (a := 0) (b := S) with c | c
  · have := h.up c
    exact ⟨by grind_linarith, by grind_linarith⟩
  · have := h.dn c
    exact ⟨by grind_linarith, by grind_linarith⟩
theorem lg_key (S S' Z Z' : Rat) : (S' - S) * (Z' + 1) = (Z' - Z) * (1 - S) + ((S' * (Z' + 1) - (Z' - 1)) - (S * (Z + 1) - (Z - 1))) := by grind_linarith
theorem div_le {D W c : Rat} (hW : 7 / 4 ≤ W) (hc : 0 ≤ c) (h : D * W ≤ c) : D ≤ c := by
  rcases Rat.le_total (a := D) (b := 0) with p | p
  · grind_linarith
  · have h1 := Rat.mul_le_mul_of_nonneg_left (show (1 : Rat) ≤ W by grind_linarith) p
    grind_linarith
theorem Lg.mono (h : Lg Z S V E) (g : Lg Z' S' V' E') (hz : Z' ≤ Z) : S' ≤ S + 1 / 100000000 := by
  have k := lg_key S S' Z Z'
  have a := h.e
  have b := g.e
  have p : 0 ≤ (Z - Z') * (1 - S) := Rat.mul_nonneg (by grind_linarith) (by have := h.s1; grind_linarith)
  have e : (Z' - Z) * (1 - S) = -((Z - Z') * (1 - S)) := by grind_linarith
  have := div_le (D := S' - S) (W := Z' + 1) (c := 1 / 100000000) (by have := g.z0; grind_linarith) (by grind_linarith) (by
    rw [k, e]
    have a1 := a.1
    have b2 := b.2
    generalize (Z - Z') * (1 - S) = t at *
    generalize S' * (Z' + 1) - (Z' - 1) = u at *
    generalize S * (Z + 1) - (Z - 1) = v at *
    grind_linarith)
  grind_linarith
theorem Lg.lip (h : Lg Z S V E) (g : Lg Z' S' V' E') {η : Rat} (h0 : 0 ≤ η) (hz : Bd (Z' - Z) η) : Bd (S' - S) (115 / 100 * η + 1 / 100000000) := by
  have k := lg_key S S' Z Z'
  have a := h.e
  have b := g.e
  have p := bd_mul hz (show Bd (1 - S) (115 / 100) from ⟨by have := h.s1; grind_linarith, by have := h.s0; grind_linarith⟩)
  have hW : 7 / 4 ≤ Z' + 1 := by have := g.z0; grind_linarith
  obtain ⟨a1, a2⟩ := a
  obtain ⟨b1, b2⟩ := b
  obtain ⟨p1, p2⟩ := p
  have n : (S - S') * (Z' + 1) = -((S' - S) * (Z' + 1)) := by grind_linarith
  constructor
  · have := div_le (D := S - S') (W := Z' + 1) (c := 115 / 100 * η + 1 / 100000000) hW (by grind_linarith) (by
      rw [n, k]
      generalize (Z' - Z) * (1 - S) = t at *
      generalize S' * (Z' + 1) - (Z' - 1) = u at *
      generalize S * (Z + 1) - (Z - 1) = v at *
      grind_linarith)
    grind_linarith
  · refine div_le (D := S' - S) (W := Z' + 1) hW (by grind_linarith) ?_
    rw [k]
    generalize (Z' - Z) * (1 - S) = t at *
    generalize S' * (Z' + 1) - (Z' - 1) = u at *
    generalize S * (Z + 1) - (Z - 1) = v at *
    grind_linarith
theorem lg_top (h : Lg Z S V E) {η : Rat} (h0 : 0 ≤ η) (hz : 3 / 2 - η ≤ Z) : Bd (S - 1 / 5) (115 / 100 * η + 1 / 100000000) := by
  have g : Lg (3 / 2) (1 / 5) (2 / 5) 0 := ⟨by grind_linarith, by grind_linarith, by grind_linarith, by grind_linarith, by constructor <;> decide +kernel, fun _ => by constructor <;> decide +kernel, fun h => absurd h (by decide +kernel)⟩
  have a := g.lip h h0 ⟨by grind_linarith, by have := h.z1; grind_linarith⟩
  exact a
theorem lg_bot (h : Lg Z S V E) {η : Rat} (h0 : 0 ≤ η) (hz : Z ≤ 3 / 4 + η) : Bd (S + 1 / 7) (115 / 100 * η + 1 / 100000000) := by
  have g : Lg (3 / 4) (-(1 / 7)) (-(2 / 7)) 0 := ⟨by grind_linarith, by grind_linarith, by grind_linarith, by grind_linarith, by constructor <;> decide +kernel, fun h => absurd h (by decide +kernel), fun _ => by constructor <;> decide +kernel⟩
  have a := g.lip h h0 ⟨by have := h.z0; grind_linarith, by grind_linarith⟩
  obtain ⟨a1, a2⟩ := a
  exact ⟨by grind_linarith, by grind_linarith⟩
theorem ln_bd : 6931471 / 10000000 ≤ lnR ∧ lnR ≤ 6931472 / 10000000 := by constructor <;> decide +kernel
/-- A number that is four times another one, nearly. -/
theorem lg_four (h : Lg Z S V E) (g : Lg Z' S' V' E') {R : Rat} (hR : Bd (R - 1) (1 / 4000)) (hv : Z' * p2 E' = R * (4 * (Z * p2 E))) : Bd (V' - V - 2 * lnR) (115 / 10000) := by
  obtain ⟨k, hk⟩ : ∃ k : Int, k = E' - E - 2 := ⟨_, rfl⟩
  have hE : E' = k + (2 + E) := by omega
  have e4 : p2 2 = 4 := by unfold p2; decide +kernel
  have hc : Z' * p2 k = R * Z := by
    have h1 : Z' * p2 k * p2 (2 + E) = R * Z * p2 (2 + E) := by
      rw [Rat.mul_assoc, ← p2_add, ← hE, hv, p2_add, e4]
      grind_linarith
    exact Rat.le_antisymm (p2_cancel (by rw [h1]; exact Rat.le_refl)) (p2_cancel (by rw [h1]; exact Rat.le_refl))
  have hEr : (E' : Rat) * lnR = (k : Rat) * lnR + 2 * lnR + (E : Rat) * lnR := by
    rw [hE, Rat.intCast_add, Rat.intCast_add]
    have : ((2 : Int) : Rat) = 2 := rfl
    rw [this]
    grind_linarith
  have hRZ := bd_mul hR (show Bd Z (3 / 2) from ⟨by have := h.z0; grind_linarith, h.z1⟩)
  have eRZ : R * Z = Z + (R - 1) * Z := by grind_linarith
  rw [eRZ] at hc
  obtain ⟨r1, r2⟩ := hRZ
  generalize (R - 1) * Z = t at *
  have hz0 := h.z0
  have hz1 := h.z1
  have gz0 := g.z0
  have gz1 := g.z1
  obtain ⟨d1, d2⟩ := h.d
  obtain ⟨d3, d4⟩ := g.d
  obtain ⟨l1, l2⟩ := ln_bd
  rw [hEr] at d3 d4
  rcases ilg k (-1) with c | c
  · exfalso
    have := p2_le (show k ≤ -2 by omega)
    have e2 : p2 (-2) = 1 / 4 := by unfold p2; decide +kernel
    have := Rat.mul_le_mul_of_nonneg_left this (show 0 ≤ Z' by grind_linarith)
    rw [e2] at this
    grind_linarith
  rcases ilg 1 k with c' | c'
  · exfalso
    have := p2_le (show 2 ≤ k by omega)
    have := Rat.mul_le_mul_of_nonneg_left this (show 0 ≤ Z' by grind_linarith)
    rw [e4] at this
    grind_linarith
  obtain rfl | rfl | rfl : k = -1 ∨ k = 0 ∨ k = 1 := by omega
  · have e2 : p2 (-1) = 1 / 2 := by unfold p2; decide +kernel
    have ek : ((-1 : Int) : Rat) = -1 := rfl
    rw [e2] at hc
    obtain ⟨a1, a2⟩ := lg_bot h (η := 4 / 10000) (by grind_linarith) (by grind_linarith)
    obtain ⟨b1, b2⟩ := lg_top g (η := 8 / 10000) (by grind_linarith) (by grind_linarith)
    have u := h.dn (by grind_linarith)
    have v := g.up (by grind_linarith)
    rw [hEr] at v
    rw [ek] at v
    constructor <;> grind_linarith
  · rw [p2_zero] at hc
    have ek : ((0 : Int) : Rat) = 0 := rfl
    obtain ⟨a1, a2⟩ := h.lip g (η := 375 / 1000000) (by grind_linarith) ⟨by grind_linarith, by grind_linarith⟩
    rw [ek] at d3 d4
    constructor <;> grind_linarith
  · rw [p2_one] at hc
    have ek : ((1 : Int) : Rat) = 1 := rfl
    obtain ⟨a1, a2⟩ := lg_top h (η := 4 / 10000) (by grind_linarith) (by grind_linarith)
    obtain ⟨b1, b2⟩ := lg_bot g (η := 4 / 10000) (by grind_linarith) (by grind_linarith)
    have u := h.up (by grind_linarith)
    have v := g.dn (by grind_linarith)
    rw [hEr] at v
    rw [ek] at v
    constructor <;> grind_linarith
/-- A number that is between twice and eight times another one. -/
theorem lg_rough (h : Lg Z S V E) (g : Lg Z' S' V' E') {R : Rat} (hR1 : 1 / 2 ≤ R) (hR2 : R ≤ 2) (hv : Z' * p2 E' = R * (4 * (Z * p2 E))) : Bd (V' - V - 2 * lnR) (lnR + 12 / 1000) := by
  obtain ⟨k, hk⟩ : ∃ k : Int, k = E' - E - 2 := ⟨_, rfl⟩
  have hE : E' = k + (2 + E) := by omega
  have e4 : p2 2 = 4 := by unfold p2; decide +kernel
  have hc : Z' * p2 k = R * Z := by
    have h1 : Z' * p2 k * p2 (2 + E) = R * Z * p2 (2 + E) := by
      rw [Rat.mul_assoc, ← p2_add, ← hE, hv, p2_add, e4]
      grind_linarith
    exact Rat.le_antisymm (p2_cancel (by rw [h1]; exact Rat.le_refl)) (p2_cancel (by rw [h1]; exact Rat.le_refl))
  have hEr : (E' : Rat) * lnR = (k : Rat) * lnR + 2 * lnR + (E : Rat) * lnR := by
    rw [hE, Rat.intCast_add, Rat.intCast_add]
    have : ((2 : Int) : Rat) = 2 := rfl
    rw [this]
    grind_linarith
  have hz0 := h.z0
  have hz1 := h.z1
  have gz0 := g.z0
  have gz1 := g.z1
  have r1 := Rat.mul_le_mul_of_nonneg_right hR1 (show 0 ≤ Z by grind_linarith)
  have r2 := Rat.mul_le_mul_of_nonneg_right hR2 (show 0 ≤ Z by grind_linarith)
  generalize R * Z = t at *
  obtain ⟨d1, d2⟩ := h.d
  obtain ⟨d3, d4⟩ := g.d
  obtain ⟨l1, l2⟩ := ln_bd
  have hs0 := h.s0
  have hs1 := h.s1
  have gs0 := g.s0
  have gs1 := g.s1
  rw [hEr] at d3 d4
  rcases ilg k (-2) with c | c
  · exfalso
    have := p2_le (show k ≤ -3 by omega)
    have e2 : p2 (-3) = 1 / 8 := by unfold p2; decide +kernel
    have := Rat.mul_le_mul_of_nonneg_left this (show 0 ≤ Z' by grind_linarith)
    rw [e2] at this
    grind_linarith
  rcases ilg 2 k with c' | c'
  · exfalso
    have := p2_le (show 3 ≤ k by omega)
    have e2 : p2 3 = 8 := by unfold p2; decide +kernel
    have := Rat.mul_le_mul_of_nonneg_left this (show 0 ≤ Z' by grind_linarith)
    rw [e2] at this
    grind_linarith
  obtain rfl | rfl | rfl | rfl | rfl : k = -2 ∨ k = -1 ∨ k = 0 ∨ k = 1 ∨ k = 2 := by omega
  · have e2 : p2 (-2) = 1 / 4 := by unfold p2; decide +kernel
    have ek : ((-2 : Int) : Rat) = -2 := rfl
    rw [e2] at hc
    obtain ⟨a1, a2⟩ := lg_bot h (η := 0) (by grind_linarith) (by grind_linarith)
    obtain ⟨b1, b2⟩ := lg_top g (η := 0) (by grind_linarith) (by grind_linarith)
    have u := h.dn (by grind_linarith)
    have v := g.up (by grind_linarith)
    rw [hEr] at v
    rw [ek] at v
    constructor <;> grind_linarith
  · have e2 : p2 (-1) = 1 / 2 := by unfold p2; decide +kernel
    have ek : ((-1 : Int) : Rat) = -1 := rfl
    rw [e2] at hc
    have m := g.mono h (by grind_linarith)
    rw [ek] at d3 d4
    constructor <;> grind_linarith
  · have ek : ((0 : Int) : Rat) = 0 := rfl
    rw [ek] at d3 d4
    constructor <;> grind_linarith
  · rw [p2_one] at hc
    have ek : ((1 : Int) : Rat) = 1 := rfl
    have m := h.mono g (by grind_linarith)
    rw [ek] at d3 d4
    constructor <;> grind_linarith
  · have ek : ((2 : Int) : Rat) = 2 := rfl
    rw [e4] at hc
    obtain ⟨a1, a2⟩ := lg_top h (η := 0) (by grind_linarith) (by grind_linarith)
    obtain ⟨b1, b2⟩ := lg_bot g (η := 0) (by grind_linarith) (by grind_linarith)
    have u := h.up (by grind_linarith)
    have v := g.dn (by grind_linarith)
    rw [hEr] at v
    rw [ek] at v
    constructor <;> grind_linarith
end
end Go.Gx
