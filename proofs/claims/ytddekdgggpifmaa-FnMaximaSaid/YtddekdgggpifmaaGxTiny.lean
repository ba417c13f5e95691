/-
  Energies of two small numbers, and of their doubles.
-/
import Derived.Test.YtddekdgggpifmaaGxDbl
namespace Go.Gx
set_option maxRecDepth 100000
set_option linter.unusedSimpArgs false
set_option linter.unusedVariables false
open Ieee

/-- A square, rounded: within half a unit, nearly. -/
theorem sq_half {x : Nat} (hx : FinW .f32 x) (hb : fval .f32 x * fval .f32 x ≤ p2 119) :
    FinW .f32 (fbin .mul .f32 x x) ∧ 0 ≤ fval .f32 (fbin .mul .f32 x x) ∧ 2 * fval .f32 (fbin .mul .f32 x x) ≤ 2 * (fval .f32 x * fval .f32 x) + (fval .f32 x * fval .f32 x * p2 (-23) + p2 (-149)) ∧
      2 * (fval .f32 x * fval .f32 x) ≤ 2 * fval .f32 (fbin .mul .f32 x x) + (fval .f32 x * fval .f32 x * p2 (-23) + p2 (-149)) := by
  have h0 := sq_nonneg (fval .f32 x)
  obtain ⟨s, m, e, w, v⟩ := mul_datum hx hx
  rw [dval_number] at v
  have hn := val_nonneg m e
  have ht : p2 119 ≤ topV single 127 := by unfold topV p2; decide +kernel
  have hle : (m : Rat) * p2 e ≤ fval .f32 x * fval .f32 x := by
    cases s
    · rw [sg_false] at v; grind_linarith
    · rw [sg_true] at v; grind_linarith
  obtain ⟨m', e', r1, r2⟩ := near_val single 127 fok_single s m e (by grind_linarith)
  have hd : FloatKind.f32.decode (fbin .mul .f32 x x) = .number s m' e' := by rw [w]; exact r1
  have hv : fval .f32 (fbin .mul .f32 x x) = sg s * ((m' : Rat) * p2 e') := by unfold fval; rw [hd, dval_number]
  have f1 : (FloatKind.f32.format.fractionBits : Int) = 23 := by decide
  have f2 : FloatKind.f32.format.leastPlace = -149 := by decide
  have g1 := r2.err1
  have g2 := r2.err2
  rw [show (single.fractionBits : Int) = 23 from by decide, show single.leastPlace = -149 from by decide] at g1 g2
  have hn' := val_nonneg m' e'
  have k := r2.hi 0 0 (by decide) (by decide)
  rw [hv]
  refine ⟨⟨_, _, _, hd⟩, ?_⟩
  cases s
  · rw [sg_false, Rat.one_mul] at v ⊢
    rw [← v]
    exact ⟨hn', g1, g2⟩
  · rw [sg_true] at v ⊢
    have z : (m : Rat) * p2 e = 0 := by grind_linarith
    have k' := k (by rw [z]; exact val_nonneg 0 0)
    have e0 : ((0 : Nat) : Rat) = 0 := rfl
    rw [e0, Rat.zero_mul] at k'
    have z' : (m' : Rat) * p2 e' = 0 := by grind_linarith
    have hx0 : fval .f32 x * fval .f32 x = 0 := by grind_linarith
    have hp := p2_pos (-149)
    rw [z', hx0]
    exact ⟨by grind_linarith, by grind_linarith, by grind_linarith⟩
theorem unit_of {x : Nat} (hx : FinW .f32 x) : ∃ z : Int, fval .f32 x = (z : Rat) * p2 (-149) := by
  obtain ⟨n, j, h, _, hj⟩ := hx.rep
  have f2 : FloatKind.f32.format.leastPlace = -149 := by decide
  rw [f2] at hj
  refine ⟨n * ((2 ^ (j - -149).toNat : Nat) : Int), ?_⟩
  rw [h, p2_shift hj, Rat.intCast_mul, Rat.intCast_natCast]
  grind_linarith
theorem unit_le {a b : Int} (h : (a : Rat) * p2 (-149) ≤ (b : Rat) * p2 (-149)) : a ≤ b := Rat.intCast_le_intCast.1 (p2_cancel h)
theorem le_unit {a b : Int} (h : a ≤ b) : (a : Rat) * p2 (-149) ≤ (b : Rat) * p2 (-149) := p2_mul _ (Rat.intCast_le_intCast.2 h)
theorem unit_lt {a b : Int} (h : (a : Rat) * p2 (-149) < (b : Rat) * p2 (-149)) : a < b := by
  rcases ilg a b with c | c
  · exact c
  · exact absurd h (Rat.not_lt.2 (le_unit c))
theorem rep_unit {z : Int} (h : z.natAbs ≤ 16777216) : Rep FloatKind.f32.format ((z : Rat) * p2 (-149)) := ⟨z, -149, rfl, by
  have : 2 * FloatKind.f32.format.binade = 16777216 := by decide
  omega, by decide⟩
/-- Squares of a number and of its double. -/
theorem sq_four {s : Nat} {x y : Nat} (h : Dbl s 512 x y) : FinW .f32 (fbin .mul .f32 x x) ∧ FinW .f32 (fbin .mul .f32 y y) ∧ (0 ≤ fval .f32 (fbin .mul .f32 x x) ∧ fval .f32 (fbin .mul .f32 x x) ≤ 262144) ∧ (0 ≤ fval .f32 (fbin .mul .f32 y y) ∧ fval .f32 (fbin .mul .f32 y y) ≤ 1048576) ∧
    Bd (fval .f32 (fbin .mul .f32 y y) - 4 * fval .f32 (fbin .mul .f32 x x)) (7 * p2 (-149)) ∧
    (fval .f32 (fbin .mul .f32 x x) < p2 (-134) → ∃ a b : Int, fval .f32 (fbin .mul .f32 x x) = (a : Rat) * p2 (-149) ∧ fval .f32 (fbin .mul .f32 y y) = (b : Rat) * p2 (-149) ∧ 4 * a - 2 ≤ b ∧ b ≤ 4 * a + 2) := by
  have hp := p2_pos (-149)
  have h119 : 1048576 ≤ p2 119 := by unfold p2; decide +kernel
  have hq := sq_bd h.b
  have e : fval .f32 y * fval .f32 y = 4 * (fval .f32 x * fval .f32 x) := by rw [h.two]; grind_linarith
  have q0 := sq_nonneg (fval .f32 x)
  have hh := sq_half h.fx (by grind_linarith)
  have gg := sq_half h.fy (by rw [e]; grind_linarith)
  have h120 : 16 * p2 119 ≤ topK .f32 := by unfold topK topV p2; decide +kernel
  have t1 := fmul_val h.fx h.fx (show Bd (fval .f32 x * fval .f32 x) (topK .f32) from ⟨by grind_linarith, by grind_linarith⟩)
  have t2 := fmul_val h.fy h.fy (show Bd (fval .f32 y * fval .f32 y) (topK .f32) from by rw [e]; exact ⟨by grind_linarith, by grind_linarith⟩)
  have r1 : Rep FloatKind.f32.format 262144 := Rep.int (by decide) 262144 (by decide)
  have r2 : Rep FloatKind.f32.format 1048576 := Rep.int (by decide) 1048576 (by decide)
  have b1 := t1.le r1 (by grind_linarith)
  have b2 := t2.le r2 (by rw [e]; grind_linarith)
  obtain ⟨f1, f2, f3, f4⟩ := hh
  obtain ⟨g1, g2, g3, g4⟩ := gg
  rw [e] at g3 g4
  have c2 : p2 (-126) * p2 (-23) = p2 (-149) := by rw [← p2_add]; rfl
  have p23 := p2_pos (-23)
  refine ⟨f1, g1, ⟨f2, b1⟩, ⟨g2, b2⟩, ?_, fun hs => ?_⟩
  · rcases Rat.le_total (a := fval .f32 x * fval .f32 x) (b := p2 (-126)) with c | c
    · have m := Rat.mul_le_mul_of_nonneg_right c (Rat.le_of_lt p23)
      rw [c2] at m
      have e4 : 4 * (fval .f32 x * fval .f32 x) * p2 (-23) = 4 * (fval .f32 x * fval .f32 x * p2 (-23)) := by grind_linarith
      rw [e4] at g3 g4
      generalize fval .f32 x * fval .f32 x * p2 (-23) = t at *
      constructor <;> grind_linarith
    · have hex : fval .f32 (fbin .mul .f32 y y) = 4 * fval .f32 (fbin .mul .f32 x x) := by
        obtain ⟨s1, m1, e1, w1, v1⟩ := mul_datum h.fx h.fx
        obtain ⟨s2, m2, e2, w2, v2⟩ := mul_datum h.fy h.fy
        rw [w1, w2]
        have hd : dval (.number s1 m1 (e1 + 1)) = 2 * (fval .f32 x * fval .f32 x) := by
          rw [← v1, dval_number, dval_number, p2_add, p2_one]
          grind_linarith
        have h120' : p2 120 = 2 * p2 119 := p2_half 120
        have a := gives_dbl v1 hd (.inr (.inl c)) ⟨by grind_linarith, by grind_linarith⟩
        have b := gives_dbl hd (s' := s2) (m' := m2) (e' := e2) (by rw [v2, e]; grind_linarith) (.inr (.inl (by grind_linarith))) ⟨by grind_linarith, by grind_linarith⟩
        rw [b, a]
        grind_linarith
      rw [hex]
      constructor <;> grind_linarith
  · have hv : fval .f32 x * fval .f32 x ≤ p2 (-134) := by
      rcases Rat.le_total (a := fval .f32 x * fval .f32 x) (b := p2 (-134)) with c | c
      · exact c
      · have := t1.ge (Rep.p2 (by decide)) c
        grind_linarith
    obtain ⟨a, ha⟩ := unit_of f1
    obtain ⟨b, hb⟩ := unit_of g1
    refine ⟨a, b, ha, hb, ?_⟩
    have m := Rat.mul_le_mul_of_nonneg_right hv (Rat.le_of_lt p23)
    have c3 : p2 (-134) * p2 (-23) * 256 = p2 (-149) := by
      have e8 : (256 : Rat) = p2 8 := by unfold p2; decide +kernel
      rw [e8, ← p2_add, ← p2_add]; rfl
    have e4 : 4 * (fval .f32 x * fval .f32 x) * p2 (-23) = 4 * (fval .f32 x * fval .f32 x * p2 (-23)) := by grind_linarith
    rw [e4] at g3 g4
    rw [ha] at f3 f4
    rw [hb] at g3 g4
    generalize fval .f32 x * fval .f32 x * p2 (-23) = t at *
    generalize p2 (-134) * p2 (-23) = t' at *
    have k1 : ((b - 4 * a : Int) : Rat) * p2 (-149) < ((3 : Int) : Rat) * p2 (-149) := by
      have : ((3 : Int) : Rat) = 3 := rfl
      have e5 : ((b - 4 * a : Int) : Rat) = (b : Rat) - 4 * (a : Rat) := by rw [Rat.intCast_sub, Rat.intCast_mul]; rfl
      rw [this, e5]
      grind_linarith
    have k2 : ((-3 : Int) : Rat) * p2 (-149) < ((b - 4 * a : Int) : Rat) * p2 (-149) := by
      have : ((-3 : Int) : Rat) = -3 := rfl
      have e5 : ((b - 4 * a : Int) : Rat) = (b : Rat) - 4 * (a : Rat) := by rw [Rat.intCast_sub, Rat.intCast_mul]; rfl
      rw [this, e5]
      grind_linarith
    have := unit_lt k1
    have := unit_lt k2
    omega
/-! ### the energy of two numbers -/
def en2 (d0 d1 : Nat) : Nat := fbin .add .f32 (fbin .add .f32 0 (fbin .mul .f32 d0 d0)) (fbin .mul .f32 d1 d1)
theorem add_zero {x : Nat} (hx : FinW .f32 x) : FinW .f32 (fbin .add .f32 0 x) ∧ fval .f32 (fbin .add .f32 0 x) = fval .f32 x := by
  obtain ⟨z1, z2⟩ := finW_zero
  have e : fval .f32 0 + fval .f32 x = fval .f32 x := by rw [z2]; grind_linarith
  have g := fadd_val z1 hx (by rw [e]; exact hx.bd)
  rw [e] at g
  exact ⟨g.1, g.exact hx.rep⟩
/-- A sum of two numbers that aren't negative. -/
theorem sum_two {a b : Nat} {M : Rat} (ha : FinW .f32 a) (hb : FinW .f32 b) (a0 : 0 ≤ fval .f32 a) (b0 : 0 ≤ fval .f32 b) (hM : fval .f32 a + fval .f32 b ≤ 16777216) : Gives .f32 (fval .f32 a + fval .f32 b) (fbin .add .f32 (fbin .add .f32 0 a) b) := by
  obtain ⟨z1, z2⟩ := add_zero ha
  have h120 : 16777216 ≤ topK .f32 := by unfold topK topV p2; decide +kernel
  have g := fadd_val z1 hb (by rw [z2]; exact ⟨by grind_linarith, by grind_linarith⟩)
  rw [z2] at g
  exact g
theorem rel_err {v : Rat} {r : Nat} (g : Gives .f32 v r) (h0 : 0 ≤ v) : v - (v / 8388608 + p2 (-149)) ≤ fval .f32 r ∧ fval .f32 r ≤ v + (v / 8388608 + p2 (-149)) := by
  have e := g.2.err v (by grind_linarith) Rat.le_refl
  have f1 : p2 (-(FloatKind.f32.format.fractionBits : Int)) = 1 / 8388608 := p2_m23
  have f2 : FloatKind.f32.format.leastPlace = -149 := by decide
  rw [f1, f2] at e
  have e2 : v * (1 / 8388608) = v / 8388608 := by grind_linarith
  rw [e2] at e
  exact ⟨by grind_linarith, e.1⟩
theorem two_f32 : FinW .f32 (i2f .f32 (2 : Int)) ∧ fval .f32 (i2f .f32 (2 : Int)) = 2 := by
  have g := i2f_val (k := .f32) (n := 2) (by
    have h120 : 16777216 ≤ topK .f32 := by unfold topK topV p2; decide +kernel
    have : ((2 : Int) : Rat) = 2 := rfl
    rw [this]
    constructor <;> grind_linarith)
  have := g.exact (Rep.int (by decide) 2 (by decide))
  exact ⟨g.1, this⟩
theorem half_gives {e : Nat} (h : FinW .f32 e) (h0 : 0 ≤ fval .f32 e) (h1 : fval .f32 e ≤ 16777216) : Gives .f32 (fval .f32 e / 2) (fbin .quo .f32 e (i2f .f32 (2 : Int))) := by
  obtain ⟨t1, t2⟩ := two_f32
  have h120 : 16777216 ≤ topK .f32 := by unfold topK topV p2; decide +kernel
  exact fdiv_val h t1 (by rw [t2]; decide) (by rw [t2]; exact Rat.div_mul_cancel (by decide)) ⟨by grind_linarith, by grind_linarith⟩
/-- The middle of a unit. -/
theorem unit_half {e : Nat} (h : FinW .f32 e) (hv : fval .f32 e = p2 (-149)) : fbin .quo .f32 e (i2f .f32 (2 : Int)) = 0 := by
  obtain ⟨s, m, x, hd⟩ := h
  obtain ⟨_, r2, _⟩ := read_num fok_single (w := e) hd
  have f2 : single.leastPlace = -149 := by decide
  rw [f2] at r2
  have hp := p2_pos (-149)
  have hx : sg s * ((m : Rat) * p2 x) = p2 (-149) := by
    rw [← hv]
    unfold fval
    rw [hd, dval_number]
  have hn := val_nonneg m x
  have hs : s = false := by
    cases s
    · rfl
    · rw [sg_true] at hx
      exfalso
      grind_linarith
  subst hs
  rw [sg_false, Rat.one_mul, p2_shift r2, ← Rat.mul_assoc, ← Rat.natCast_mul] at hx
  have h1 : ((m * 2 ^ (x - -149).toNat : Nat) : Rat) = ((1 : Nat) : Rat) := by
    refine Rat.le_antisymm (p2_cancel (e := -149) ?_) (p2_cancel (e := -149) ?_)
    · rw [hx]
      have : ((1 : Nat) : Rat) = 1 := rfl
      rw [this, Rat.one_mul]
      exact Rat.le_refl
    · rw [hx]
      have : ((1 : Nat) : Rat) = 1 := rfl
      rw [this, Rat.one_mul]
      exact Rat.le_refl
  have h2 := Rat.natCast_inj.1 h1
  have h3 := Nat.eq_one_of_mul_eq_one_right h2
  have h4 := Nat.eq_one_of_mul_eq_one_left h2
  subst h3
  have h5 : (x - -149).toNat = 0 := by
    rcases Nat.eq_zero_or_pos (x - -149).toNat with c | c
    · exact c
    · have := Nat.pow_le_pow_right (show 0 < 2 by omega) c
      omega
  have h6 : x = -149 := by omega
  subst h6
  have hd1 : FloatKind.f32.decode 1 = .number false 1 (-149) := by decide +kernel
  have hd2 : FloatKind.f32.decode (i2f .f32 (2 : Int)) = .number false 8388608 (-22) := by decide +kernel
  unfold fbin floatBits
  show ((((FloatKind.f32.decode e).quotient _ (FloatKind.f32.decode (i2f .f32 (2 : Int)))).map single.write).getD _) = _
  rw [hd, hd2]
  exact (show single.write (.number false 67108864 (-176)) = 0 by decide +kernel)
/-- The energies of two numbers and of their doubles, halved: four times as much, nearly; or few units. -/
theorem en_three {s : Nat} {d0 d1 y0 y1 : Nat} (h0 : Dbl s 512 d0 y0) (h1 : Dbl s 512 d1 y1) (hpos : 0 < fval .f32 (en2 d0 d1)) :
    FinW .f32 (fbin .quo .f32 (en2 d0 d1) (i2f .f32 (2 : Int))) ∧ FinW .f32 (fbin .quo .f32 (en2 y0 y1) (i2f .f32 (2 : Int))) ∧
    (fval .f32 (fbin .quo .f32 (en2 d0 d1) (i2f .f32 (2 : Int))) = 0 ∨
      (p2 (-149) ≤ fval .f32 (fbin .quo .f32 (en2 d0 d1) (i2f .f32 (2 : Int))) ∧
        (Bd (fval .f32 (fbin .quo .f32 (en2 y0 y1) (i2f .f32 (2 : Int))) - 4 * fval .f32 (fbin .quo .f32 (en2 d0 d1) (i2f .f32 (2 : Int)))) (fval .f32 (fbin .quo .f32 (en2 d0 d1) (i2f .f32 (2 : Int))) / 1000) ∨
          (fval .f32 (en2 d0 d1) < p2 (-134) ∧ fval .f32 (fbin .quo .f32 (en2 d0 d1) (i2f .f32 (2 : Int))) ≤ p2 (-134) ∧ 2 * fval .f32 (fbin .quo .f32 (en2 d0 d1) (i2f .f32 (2 : Int))) ≤ fval .f32 (fbin .quo .f32 (en2 y0 y1) (i2f .f32 (2 : Int))) ∧ fval .f32 (fbin .quo .f32 (en2 y0 y1) (i2f .f32 (2 : Int))) ≤ 8 * fval .f32 (fbin .quo .f32 (en2 d0 d1) (i2f .f32 (2 : Int))))))) := by
  have hp := p2_pos (-149)
  obtain ⟨a1, a2, ⟨a3, a4⟩, ⟨a5, a6⟩, a7, a8⟩ := sq_four h0
  obtain ⟨b1, b2, ⟨b3, b4⟩, ⟨b5, b6⟩, b7, b8⟩ := sq_four h1
  have g1 : Gives .f32 _ (en2 d0 d1) := sum_two (M := 0) a1 b1 a3 b3 (by grind_linarith)
  have g2 : Gives .f32 _ (en2 y0 y1) := sum_two (M := 0) a2 b2 a5 b5 (by grind_linarith)
  have r24 : Rep FloatKind.f32.format 16777216 := Rep.int (by decide) 16777216 (by decide)
  have rz : Rep FloatKind.f32.format 0 := Rep.int (by decide) 0 (by decide)
  have e1 := g1.le r24 (by grind_linarith)
  have e2 := g2.le r24 (by grind_linarith)
  have e3 := g2.ge rz (by grind_linarith)
  have q1 := half_gives g1.1 (Rat.le_of_lt hpos) e1
  have q2 := half_gives g2.1 e3 e2
  refine ⟨q1.1, q2.1, ?_⟩
  by_cases hc : fval .f32 (en2 d0 d1) < p2 (-134)
  · have hs : fval .f32 (fbin .mul .f32 d0 d0) + fval .f32 (fbin .mul .f32 d1 d1) < p2 (-134) := by
      rcases Rat.le_total (a := p2 (-134)) (b := fval .f32 (fbin .mul .f32 d0 d0) + fval .f32 (fbin .mul .f32 d1 d1)) with c | c
      · have := g1.ge (Rep.p2 (by decide)) c
        exfalso
        grind_linarith
      · refine Rat.lt_of_le_of_ne c fun h => ?_
        have := g1.ge (c := p2 (-134)) (Rep.p2 (by decide)) (by rw [h]; exact Rat.le_refl)
        grind_linarith
    obtain ⟨i, i', i1, i2, i3, i4⟩ := a8 (by grind_linarith)
    obtain ⟨j, j', j1, j2, j3, j4⟩ := b8 (by grind_linarith)
    have s1 : fval .f32 (fbin .mul .f32 d0 d0) + fval .f32 (fbin .mul .f32 d1 d1) = ((i + j : Int) : Rat) * p2 (-149) := by rw [i1, j1, Rat.intCast_add]; grind_linarith
    have s2 : fval .f32 (fbin .mul .f32 y0 y0) + fval .f32 (fbin .mul .f32 y1 y1) = ((i' + j' : Int) : Rat) * p2 (-149) := by rw [i2, j2, Rat.intCast_add]; grind_linarith
    have hu : p2 (-134) = ((32768 : Int) : Rat) * p2 (-149) := by
      have e8 : ((32768 : Int) : Rat) = p2 15 := by unfold p2; decide +kernel
      rw [e8, ← p2_add]; rfl
    have i0 : 0 ≤ i := unit_le (by rw [← i1, show ((0 : Int) : Rat) = 0 from rfl]; grind_linarith)
    have j0 : 0 ≤ j := unit_le (by rw [← j1, show ((0 : Int) : Rat) = 0 from rfl]; grind_linarith)
    have i0' : 0 ≤ i' := unit_le (by rw [← i2, show ((0 : Int) : Rat) = 0 from rfl]; grind_linarith)
    have j0' : 0 ≤ j' := unit_le (by rw [← j2, show ((0 : Int) : Rat) = 0 from rfl]; grind_linarith)
    have lt : i + j < 32768 := unit_lt (by rw [← s1, ← hu]; exact hs)
    rw [s1] at g1
    rw [s2] at g2
    have v1 := g1.exact (rep_unit (by omega))
    have v2 := g2.exact (rep_unit (by omega))
    have p1 : 0 < i + j := unit_lt (by rw [← v1, show ((0 : Int) : Rat) = 0 from rfl]; grind_linarith)
    by_cases h1 : i + j = 1
    · refine .inl ?_
      rw [unit_half g1.1 (by rw [v1, h1, show ((1 : Int) : Rat) = 1 from rfl]; grind_linarith)]
      exact finW_zero.2
    · refine .inr ?_
      obtain ⟨c, hc1⟩ := unit_of q1.1
      obtain ⟨c', hc2⟩ := unit_of q2.1
      have two : ((2 : Int) : Rat) = 2 := rfl
      have d1 : c ≤ (i + j + 1) / 2 := unit_le (by
        rw [← hc1]
        refine q1.le (rep_unit (by omega)) ?_
        rw [v1]
        have := le_unit (show i + j ≤ 2 * ((i + j + 1) / 2) by omega)
        rw [Rat.intCast_mul, two] at this
        grind_linarith)
      have d2 : (i + j) / 2 ≤ c := unit_le (by
        rw [← hc1]
        refine q1.ge (rep_unit (by omega)) ?_
        rw [v1]
        have := le_unit (show 2 * ((i + j) / 2) ≤ i + j by omega)
        rw [Rat.intCast_mul, two] at this
        grind_linarith)
      have d3 : c' ≤ (i' + j' + 1) / 2 := unit_le (by
        rw [← hc2]
        refine q2.le (rep_unit (by omega)) ?_
        rw [v2]
        have := le_unit (show i' + j' ≤ 2 * ((i' + j' + 1) / 2) by omega)
        rw [Rat.intCast_mul, two] at this
        grind_linarith)
      have d4 : (i' + j') / 2 ≤ c' := unit_le (by
        rw [← hc2]
        refine q2.ge (rep_unit (by omega)) ?_
        rw [v2]
        have := le_unit (show 2 * ((i' + j') / 2) ≤ i' + j' by omega)
        rw [Rat.intCast_mul, two] at this
        grind_linarith)
      rw [hc1, hc2]
      have l1 := le_unit (show 1 ≤ c by omega)
      have l2 := le_unit (show 2 * c ≤ c' by omega)
      have l3 := le_unit (show c' ≤ 8 * c by omega)
      have l4 := le_unit (show c ≤ 32768 by omega)
      rw [Rat.intCast_mul, two] at l2
      rw [Rat.intCast_mul, show ((8 : Int) : Rat) = 8 from rfl] at l3
      rw [show ((1 : Int) : Rat) = 1 from rfl] at l1
      exact ⟨by grind_linarith, .inr ⟨hc, by rw [hu]; exact l4, by grind_linarith, by grind_linarith⟩⟩
  · have hc := Rat.not_lt.1 hc
    have hu : p2 (-134) = 32768 * p2 (-149) := by
      have e8 : (32768 : Rat) = p2 15 := by unfold p2; decide +kernel
      rw [e8, ← p2_add]; rfl
    rw [hu] at hc
    have u1 := rel_err g1 (by grind_linarith)
    have u2 := rel_err g2 (by grind_linarith)
    have u3 := rel_err q1 (by grind_linarith)
    have u4 := rel_err q2 (by grind_linarith)
    obtain ⟨a7, a7'⟩ := a7
    obtain ⟨b7, b7'⟩ := b7
    obtain ⟨u1, u1'⟩ := u1
    obtain ⟨u2, u2'⟩ := u2
    obtain ⟨u3, u3'⟩ := u3
    obtain ⟨u4, u4'⟩ := u4
    generalize fval .f32 (fbin .quo .f32 (en2 d0 d1) (i2f .f32 (2 : Int))) = A at *
    generalize fval .f32 (fbin .quo .f32 (en2 y0 y1) (i2f .f32 (2 : Int))) = B at *
    generalize fval .f32 (en2 d0 d1) = E at *
    generalize fval .f32 (en2 y0 y1) = F at *
    refine .inr ⟨by grind_linarith, .inl ⟨by grind_linarith, by grind_linarith⟩⟩
end Go.Gx
