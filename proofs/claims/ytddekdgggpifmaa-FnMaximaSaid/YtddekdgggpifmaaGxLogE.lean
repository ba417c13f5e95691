/-
  The logarithms of a number and of exactly four times it; small energies.
-/
import Derived.Test.YtddekdgggpifmaaGxLogD
import Derived.Test.YtddekdgggpifmaaGxDbl
namespace Go.Gx
set_option linter.unusedSimpArgs false
set_option linter.unusedVariables false
open Ieee

/-- What the loops leave is below their bound. -/
theorem logZ_lt {x : Nat} (hx : FinW .f32 x) (h0 : p2 (-149) ≤ fval .f32 x) : fval .f64 (logZ (f64 x)) < 3 / 2 := by
  obtain ⟨f1, f2⟩ := f64_fin hx
  have ht := hx.bd.2
  have h128 := top64
  have hpos := p2_pos (-149)
  obtain ⟨n, j, hv, hn, hj⟩ := hx.rep
  have hn' : n.natAbs ≤ 2 ^ 53 := by
    have : 2 * FloatKind.f32.format.binade = 16777216 := by decide
    omega
  have hj' : -149 ≤ j := by
    have : FloatKind.f32.format.leastPlace = -149 := by decide
    omega
  have a0 : p2 (-149) ≤ fval .f64 (f64 x) := by rw [f2]; exact h0
  have a1 : fval .f64 (f64 x) ≤ p2 128 := by rw [f2]; grind_linarith
  obtain ⟨r1, r2, r3⟩ := nHalf_ok f1 (by grind_linarith) a1
  obtain ⟨y1, y2, y3⟩ := logY_ok f1 a0 a1
  obtain ⟨d1, d2, d3⟩ := nDbl_ok y1 y2 y3
  have hY : fval .f64 (logY (f64 x)) = (n : Rat) * p2 (j - nHalf (f64 x)) := half_val f1 (by rw [f2]; exact hv) hn' hj' (by grind_linarith) a1 (nHalf (f64 x)) (by omega)
  have hD : ∀ t, t ≤ nDbl (logY (f64 x)) → fval .f64 (dblS (logY (f64 x)) t) = (n : Rat) * p2 (j - nHalf (f64 x) + t) := fun t ht => dbl_val y1 hY hn' (by omega) y2 y3 t (by omega) (fun s hs => d2 s (by omega))
  unfold logZ
  cases hk : nDbl (logY (f64 x)) with
  | zero =>
    show fval .f64 (logY (f64 x)) < 3 / 2
    obtain ⟨c1, c2⟩ := c15_val
    rw [fcB_geq y1 c1, c2] at r1
    exact Rat.not_le.1 (of_decide_eq_false r1)
  | succ t =>
    have a := hD (t + 1) (by omega)
    have b := hD t (by omega)
    have c := d2 t (by omega)
    obtain ⟨e1, _⟩ := dbl_ok y1 y2 y3 t (by omega) (fun s hs => d2 s (by omega))
    obtain ⟨c1, c2⟩ := c34_val
    rw [fcB_lss e1 c1, c2] at c
    have c := of_decide_eq_true c
    have e : fval .f64 (dblS (logY (f64 x)) (t + 1)) = 2 * fval .f64 (dblS (logY (f64 x)) t) := by
      rw [a, b, show j - (nHalf (f64 x) : Int) + ((t + 1 : Nat) : Int) = 1 + (j - (nHalf (f64 x) : Int) + (t : Int)) by omega, p2_add 1, p2_one]
      grind_linarith
    rw [e]
    grind_linarith
/-- The series, for two arguments that are close. -/
theorem logQ_lip {u w : Nat} (hu : FinW .f64 u) (u0 : 0 ≤ fval .f64 u) (u1 : fval .f64 u ≤ 401 / 10000) (hw : FinW .f64 w) (w0 : 0 ≤ fval .f64 w) (w1 : fval .f64 w ≤ 401 / 10000) {η : Rat} (h0 : 0 ≤ η) (h1 : η ≤ 1 / 1000) (hz : Bd (fval .f64 w - fval .f64 u) η) :
    Bd (fval .f64 (logQ w 13) - fval .f64 (logQ u 13)) (2 * η + 1 / 1000000000000) := by
  have all : ∀ j : Nat, j ≤ 13 → (FinW .f64 (logQ u j) ∧ 0 ≤ fval .f64 (logQ u j) ∧ fval .f64 (logQ u j) ≤ 105 / 100) ∧ (FinW .f64 (logQ w j) ∧ 0 ≤ fval .f64 (logQ w j) ∧ fval .f64 (logQ w j) ≤ 105 / 100) ∧ Bd (fval .f64 (logQ w j) - fval .f64 (logQ u j)) (2 * η + 1 / 1000000000000) := by
    intro j
    induction j with
    | zero =>
      intro _
      obtain ⟨z1, z2⟩ := zero_f64
      have e1 : logQ u 0 = 0 := rfl
      have e2 : logQ w 0 = 0 := rfl
      rw [e1, e2, z2]
      exact ⟨⟨z1, Rat.le_refl, by grind_linarith⟩, ⟨z1, Rat.le_refl, by grind_linarith⟩, by constructor <;> grind_linarith⟩
    | succ j ih =>
      intro hj
      obtain ⟨⟨a1, a2, a3⟩, ⟨b1, b2, b3⟩, c1, c2⟩ := ih (by omega)
      obtain ⟨i1, i2⟩ := inv_k ⟨j, by omega⟩
      simp only at i1 i2
      have fi := inv_fin (show j < 13 by omega)
      obtain ⟨s1, s2, s3⟩ := step_q hu u0 u1 a1 a2 a3 (by grind_linarith) fi i1 i2 (by grind_linarith)
      obtain ⟨t1, t2, t3⟩ := step_q hw w0 w1 b1 b2 b3 (by grind_linarith) fi i1 i2 (by grind_linarith)
      rw [logQ_succ, logQ_succ]
      refine ⟨⟨s1, by grind_linarith, by grind_linarith⟩, ⟨t1, by grind_linarith, by grind_linarith⟩, ?_⟩
      obtain ⟨p0, p1⟩ := prod_bd u0 u1 a2 a3
      obtain ⟨q0, q1⟩ := prod_bd w0 w1 b2 b3
      obtain ⟨m1, m2, m3⟩ := mul_near (k := .f64) (M := 1) hu a1 (okM_one (by grind_linarith) (by grind_linarith)) ⟨by grind_linarith, by grind_linarith⟩
      obtain ⟨n1, n2, n3⟩ := mul_near (k := .f64) (M := 1) hw b1 (okM_one (by grind_linarith) (by grind_linarith)) ⟨by grind_linarith, by grind_linarith⟩
      simp only [epsK] at m2 m3 n2 n3
      have e : fval .f64 w * fval .f64 (logQ w j) - fval .f64 u * fval .f64 (logQ u j) = fval .f64 w * (fval .f64 (logQ w j) - fval .f64 (logQ u j)) + (fval .f64 w - fval .f64 u) * fval .f64 (logQ u j) := by grind_linarith
      have k1 := bd_mul (show Bd (fval .f64 w) (401 / 10000) from ⟨by grind_linarith, w1⟩) (show Bd (fval .f64 (logQ w j) - fval .f64 (logQ u j)) (2 * η + 1 / 1000000000000) from ⟨c1, c2⟩)
      have k2 := bd_mul hz (show Bd (fval .f64 (logQ u j)) (105 / 100) from ⟨by grind_linarith, a3⟩)
      obtain ⟨k3, k4⟩ := k1
      obtain ⟨k5, k6⟩ := k2
      generalize fval .f64 w * (fval .f64 (logQ w j) - fval .f64 (logQ u j)) = P at *
      generalize (fval .f64 w - fval .f64 u) * fval .f64 (logQ u j) = R at *
      generalize fval .f64 w * fval .f64 (logQ w j) = W at *
      generalize fval .f64 u * fval .f64 (logQ u j) = U at *
      generalize fbin .mul .f64 w (logQ w j) = n at *
      generalize fbin .mul .f64 u (logQ u j) = m at *
      obtain ⟨g1, g2, g3⟩ := add_near (k := .f64) (M := 2) fi m1 (okM_one (by grind_linarith) (by grind_linarith)) ⟨by grind_linarith, by grind_linarith⟩
      obtain ⟨l1, l2, l3⟩ := add_near (k := .f64) (M := 2) fi n1 (okM_one (by grind_linarith) (by grind_linarith)) ⟨by grind_linarith, by grind_linarith⟩
      simp only [epsK] at g2 g3 l2 l3
      constructor <;> grind_linarith
  exact (all 13 (by omega)).2.2
/-- The logarithm as the series has it. -/
theorem logW_prod {x : Nat} (hx : FinW .f32 x) (h0 : p2 (-149) ≤ fval .f32 x) : ∃ q u : Nat, q = logQ u 13 ∧ FinW .f64 q ∧ 1 ≤ fval .f64 q ∧ fval .f64 q ≤ 152 / 10000 + 1 ∧ FinW .f64 u ∧ 0 ≤ fval .f64 u ∧ fval .f64 u ≤ 401 / 10000 ∧
    Bd (fval .f64 u - fval .f64 (logS (logZ (f64 x))) * fval .f64 (logS (logZ (f64 x)))) (1 / 1000000000) ∧ FinW .f64 (logW (f64 x)) ∧
    Bd (fval .f64 (logW (f64 x)) - 2 * (fval .f64 (logS (logZ (f64 x))) * fval .f64 q) - (logE (f64 x) : Rat) * lnR) (1 / 100000000) := by
  obtain ⟨z1, z2, z3, _, e1⟩ := logZ_val hx h0
  obtain ⟨s1, s2, s3, _⟩ := logS_val z1 z2 z3
  have hW : logW (f64 x) = fbin .add .f64 (fbin .mul .f64 4611686018427387904 (fbin .mul .f64 (logS (logZ (f64 x))) (logQ (fbin .mul .f64 (logS (logZ (f64 x))) (logS (logZ (f64 x)))) 13))) (fbin .mul .f64 (i2f .f64 (logE (f64 x))) 4604418534313441775) := rfl
  rw [hW]
  generalize logS (logZ (f64 x)) = s at *
  have hE1 : (logE (f64 x) : Rat) ≤ 200 := by
    have : (logE (f64 x) : Rat) ≤ ((200 : Int) : Rat) := Rat.intCast_le_intCast.2 (by omega)
    exact this
  have hE2 : -200 ≤ (logE (f64 x) : Rat) := by
    have : ((-200 : Int) : Rat) ≤ (logE (f64 x) : Rat) := Rat.intCast_le_intCast.2 (by omega)
    exact this
  obtain ⟨i1, i2⟩ := i2f_fval (z := logE (f64 x)) (by omega)
  generalize logE (f64 x) = E at *
  have hsq : 0 ≤ fval .f64 s * fval .f64 s ∧ fval .f64 s * fval .f64 s ≤ 2001 / 10000 * (2001 / 10000) := by
    refine ⟨sq_nonneg _, ?_⟩
    exact sq_bd (M := 2001 / 10000) ⟨by grind_linarith, s3⟩
  have e9 : (2001 / 10000 : Rat) * (2001 / 10000) ≤ 40041 / 1000000 := by decide +kernel
  have ht := top_ge (show (0 : Int) ≤ 1023 by omega)
  rw [p2_zero] at ht
  have gu := fmul_val s1 s1 (show Bd (fval .f64 s * fval .f64 s) (topK .f64) from ⟨by grind_linarith, by grind_linarith⟩)
  have u0 := gu.ge (Rep.int (by decide) 0 (by decide)) (by have z0 : ((0 : Int) : Rat) = 0 := rfl
                                                           rw [z0]; exact hsq.1)
  have z0 : ((0 : Int) : Rat) = 0 := rfl
  rw [z0] at u0
  obtain ⟨u1, u2, u3⟩ := mul_near (k := .f64) (M := 1) s1 s1 (okM_one (by grind_linarith) (by grind_linarith)) ⟨by grind_linarith, by grind_linarith⟩
  simp only [epsK] at u2 u3
  generalize fval .f64 s * fval .f64 s = SS at *
  generalize fbin .mul .f64 s s = u at *
  obtain ⟨q1, q2, q3⟩ := logQ_val u1 u0 (by grind_linarith)
  refine ⟨logQ u 13, u, rfl, q1, q2, q3, u1, u0, by grind_linarith, ⟨by grind_linarith, by grind_linarith⟩, ?_⟩
  generalize logQ u 13 = q at *
  have hsb : Bd (fval .f64 s) (2001 / 10000) := ⟨by grind_linarith, s3⟩
  have hqb : Bd (fval .f64 q) (152 / 10000 + 1) := ⟨by grind_linarith, q3⟩
  obtain ⟨b1, b2⟩ := bd_mul hsb hqb
  obtain ⟨m1, m2, m3⟩ := mul_near (k := .f64) (M := 1) s1 q1 (okM_one (by grind_linarith) (by grind_linarith)) (by constructor <;> grind_linarith)
  simp only [epsK] at m2 m3
  generalize fbin .mul .f64 s q = m at *
  generalize fval .f64 s * fval .f64 q = SQ at *
  obtain ⟨t1, t2⟩ := two_val
  obtain ⟨n1, n2, n3⟩ := mul_near (k := .f64) (M := 1) t1 m1 (okM_one (by grind_linarith) (by grind_linarith)) (by rw [t2]; constructor <;> grind_linarith)
  rw [t2] at n2 n3
  simp only [epsK] at n2 n3
  generalize fbin .mul .f64 4611686018427387904 m = n at *
  obtain ⟨l1, l2⟩ := ln2_val
  have hl : lnR = 6243314768165359 / 9007199254740992 := rfl
  obtain ⟨p1, p2', p3⟩ := mul_near (k := .f64) (M := 200) i1 l1 (okM_one (by grind_linarith) (by grind_linarith)) (by rw [i2, l2]; constructor <;> grind_linarith)
  rw [i2, l2] at p2' p3
  simp only [epsK] at p2' p3
  generalize fbin .mul .f64 (i2f .f64 E) 4604418534313441775 = p at *
  obtain ⟨r1, r2, r3⟩ := add_near (k := .f64) (M := 300) n1 p1 (okM_one (by grind_linarith) (by grind_linarith)) (by constructor <;> grind_linarith)
  simp only [epsK] at r2 r3
  generalize fbin .add .f64 n p = r at *
  rw [hl]
  exact ⟨r1, by constructor <;> grind_linarith⟩
/-- The logarithm of exactly four times a number. -/
theorem lg_same {x y : Nat} (hx : FinW .f32 x) (hy : FinW .f32 y) (h0 : p2 (-149) ≤ fval .f32 x) (h : fval .f32 y = 4 * fval .f32 x) :
    Bd (fval .f64 (logW (f64 y)) - fval .f64 (logW (f64 x)) - 2 * lnR) (1 / 1000000) := by
  have hp := p2_pos (-149)
  have h0' : p2 (-149) ≤ fval .f32 y := by rw [h]; grind_linarith
  obtain ⟨a1, a2, _, a4, _⟩ := logZ_val hx h0
  obtain ⟨b1, b2, _, b4, _⟩ := logZ_val hy h0'
  have a3 := logZ_lt hx h0
  have b3 := logZ_lt hy h0'
  obtain ⟨s1, s2, s3, s4⟩ := logS_val a1 a2 (Rat.le_of_lt a3)
  obtain ⟨t1, t2, t3, t4⟩ := logS_val b1 b2 (Rat.le_of_lt b3)
  obtain ⟨q, u, rfl, q1, q2, q3, u1, u2, u3, u4, _, v⟩ := logW_prod hx h0
  obtain ⟨r, w, rfl, r1, r2, r3, w1, w2, w3, w4, _, v'⟩ := logW_prod hy h0'
  have e4 : p2 2 = 4 := by unfold p2; decide +kernel
  rw [a4, b4] at h
  obtain ⟨k, hk⟩ : ∃ k : Int, k = logE (f64 y) - logE (f64 x) - 2 := ⟨_, rfl⟩
  have hE : logE (f64 y) = k + (2 + logE (f64 x)) := by omega
  have hc : fval .f64 (logZ (f64 y)) * p2 k = fval .f64 (logZ (f64 x)) := by
    have h1 : fval .f64 (logZ (f64 y)) * p2 k * p2 (2 + logE (f64 x)) = fval .f64 (logZ (f64 x)) * p2 (2 + logE (f64 x)) := by
      rw [Rat.mul_assoc, ← p2_add, ← hE, h, p2_add, e4]
      grind_linarith
    exact Rat.le_antisymm (p2_cancel (by rw [h1]; exact Rat.le_refl)) (p2_cancel (by rw [h1]; exact Rat.le_refl))
  have hEr : (logE (f64 y) : Rat) * lnR = (k : Rat) * lnR + 2 * lnR + (logE (f64 x) : Rat) * lnR := by
    rw [hE, Rat.intCast_add, Rat.intCast_add]
    have : ((2 : Int) : Rat) = 2 := rfl
    rw [this]
    grind_linarith
  rw [hEr] at v'
  generalize fval .f64 (logZ (f64 y)) = Z' at *
  generalize fval .f64 (logZ (f64 x)) = Z at *
  have k0 : k = 0 := by
    rcases ilg k 0 with c | c
    · exfalso
      have := p2_le (show k ≤ -1 by omega)
      have e2 : p2 (-1) = 1 / 2 := by unfold p2; decide +kernel
      have := Rat.mul_le_mul_of_nonneg_left this (show 0 ≤ Z' by grind_linarith)
      rw [e2] at this
      grind_linarith
    · rcases ilg 0 k with c' | c'
      · exfalso
        have := p2_le (show 1 ≤ k by omega)
        rw [p2_one] at this
        have := Rat.mul_le_mul_of_nonneg_left this (show 0 ≤ Z' by grind_linarith)
        grind_linarith
      · omega
  subst k0
  rw [p2_zero] at hc
  have ez : ((0 : Int) : Rat) = 0 := rfl
  rw [ez] at v'
  have hZ : Z' = Z := by grind_linarith
  subst hZ
  generalize fval .f64 (logS (logZ (f64 x))) = S at *
  generalize fval .f64 (logS (logZ (f64 y))) = T at *
  have dS : Bd (T - S) (1 / 100000000) := by
    have e : (T - S) * (Z' + 1) = (T * (Z' + 1) - (Z' - 1)) - (S * (Z' + 1) - (Z' - 1)) := by grind_linarith
    have e' : (S - T) * (Z' + 1) = (S * (Z' + 1) - (Z' - 1)) - (T * (Z' + 1) - (Z' - 1)) := by grind_linarith
    obtain ⟨t5, t6⟩ := t4
    obtain ⟨s5, s6⟩ := s4
    have i1 := div_le (D := T - S) (W := Z' + 1) (c := 1 / 100000000) (by grind_linarith) (by grind_linarith) (by
      rw [e]
      generalize T * (Z' + 1) - (Z' - 1) = g1 at *
      generalize S * (Z' + 1) - (Z' - 1) = g2 at *
      grind_linarith)
    have i2 := div_le (D := S - T) (W := Z' + 1) (c := 1 / 100000000) (by grind_linarith) (by grind_linarith) (by
      rw [e']
      generalize T * (Z' + 1) - (Z' - 1) = g1 at *
      generalize S * (Z' + 1) - (Z' - 1) = g2 at *
      grind_linarith)
    constructor <;> grind_linarith
  have dU : Bd (fval .f64 w - fval .f64 u) (1 / 100000000) := by
    have e : T * T - S * S = (T - S) * (T + S) := by grind_linarith
    have m := bd_mul dS (show Bd (T + S) (41 / 100) from ⟨by grind_linarith, by grind_linarith⟩)
    rw [← e] at m
    obtain ⟨m1, m2⟩ := m
    obtain ⟨w5, w6⟩ := w4
    obtain ⟨u5, u6⟩ := u4
    generalize T * T = TT at *
    generalize S * S = SS at *
    constructor <;> grind_linarith
  have dQ := logQ_lip u1 u2 u3 w1 w2 w3 (by grind_linarith) (by grind_linarith) dU
  generalize fval .f64 (logQ u 13) = Q at *
  generalize fval .f64 (logQ w 13) = R at *
  have e : T * R - S * Q = (T - S) * R + S * (R - Q) := by grind_linarith
  have m := bd_mul dS (show Bd R (102 / 100) from ⟨by grind_linarith, by grind_linarith⟩)
  have n := bd_mul (show Bd S (21 / 100) from ⟨by grind_linarith, by grind_linarith⟩) dQ
  obtain ⟨m1, m2⟩ := m
  obtain ⟨n1, n2⟩ := n
  obtain ⟨v1, v2⟩ := v
  obtain ⟨v3, v4⟩ := v'
  generalize (T - S) * R = g1 at *
  generalize S * (R - Q) = g2 at *
  generalize T * R = g3 at *
  generalize S * Q = g4 at *
  constructor <;> grind_linarith
end Go.Gx
