/-
  Slopes of three logarithms, and how far those of a list and of its double are apart.
-/
import Derived.Test.YtddekdgggpifmaaGxLogE
import Derived.Test.YtddekdgggpifmaaGxTiny
namespace Go.Gx
set_option maxRecDepth 100000
set_option linter.unusedSimpArgs false
set_option linter.unusedVariables false
open Ieee

def finV32 (w : Nat) (s : Bool) (m : Nat) (e : Int) (v : Rat) : Bool := decide (FloatKind.f32.decode w = .number s m e) && decide (sg s * ((m : Rat) * p2 e) = v)
theorem finV32_ok {w : Nat} {s : Bool} {m : Nat} {e : Int} {v : Rat} (h : finV32 w s m e v = true) : FinW .f32 w ∧ fval .f32 w = v := by
  unfold finV32 at h
  rw [Bool.and_eq_true, decide_eq_true_eq, decide_eq_true_eq] at h
  exact word_val .f32 h.1 h.2
theorem w0_val : FinW .f32 (i2f .f32 ((0 : Nat) : Int)) ∧ fval .f32 (i2f .f32 ((0 : Nat) : Int)) = 0 := finV32_ok (s := false) (m := 0) (e := -149) (by decide +kernel)
theorem w1_val : FinW .f32 (i2f .f32 ((1 : Nat) : Int)) ∧ fval .f32 (i2f .f32 ((1 : Nat) : Int)) = 1 := finV32_ok (s := false) (m := 8388608) (e := -23) (by decide +kernel)
theorem w2_val : FinW .f32 (i2f .f32 ((2 : Nat) : Int)) ∧ fval .f32 (i2f .f32 ((2 : Nat) : Int)) = 2 := finV32_ok (s := false) (m := 8388608) (e := -22) (by decide +kernel)
theorem w3_val : FinW .f32 (i2f .f32 ((3 : Nat) : Int)) ∧ fval .f32 (i2f .f32 ((3 : Nat) : Int)) = 3 := finV32_ok (s := false) (m := 12582912) (e := -22) (by decide +kernel)
theorem w6_val : FinW .f32 1086324736 ∧ fval .f32 1086324736 = 6 := finV32_ok (s := false) (m := 12582912) (e := -21) (by decide +kernel)
theorem wln_val : FinW .f32 1060205080 ∧ fval .f32 1060205080 = 11629080 / 16777216 := finV32_ok (s := false) (m := 11629080) (e := -24) (by decide +kernel)
theorem okm {M : Rat} (h1 : 1 / 1024 ≤ M) (h2 : M ≤ 1000000) : okM M := okM_one h1 h2
/-- Sums of three numbers, with weights 0, 1, 2, and the slope. -/
def slD (y0 y1 y2 : Nat) : Nat := fbin .add .f32 (fbin .add .f32 (fbin .add .f32 0 (fbin .mul .f32 (i2f .f32 ((0 : Nat) : Int)) y0)) (fbin .mul .f32 (i2f .f32 ((1 : Nat) : Int)) y1)) (fbin .mul .f32 (i2f .f32 ((2 : Nat) : Int)) y2)
def slB (y0 y1 y2 : Nat) : Nat := fbin .add .f32 (fbin .add .f32 (fbin .add .f32 0 y0) y1) y2
def slopeW (y0 y1 y2 : Nat) : Nat := fbin .quo .f32 (fbin .sub .f32 (fbin .mul .f32 (i2f .f32 ((3 : Nat) : Int)) (slD y0 y1 y2)) (fbin .mul .f32 (i2f .f32 ((3 : Nat) : Int)) (slB y0 y1 y2))) 1086324736
theorem slope_near {y0 y1 y2 : Nat} (h0 : FinW .f32 y0 ∧ Bd (fval .f32 y0) 205) (h1 : FinW .f32 y1 ∧ Bd (fval .f32 y1) 205) (h2 : FinW .f32 y2 ∧ Bd (fval .f32 y2) 205) :
    FinW .f32 (slopeW y0 y1 y2) ∧ Bd (fval .f32 (slopeW y0 y1 y2) - (fval .f32 y2 - fval .f32 y0) / 2) (1 / 2000) := by
  obtain ⟨f0, b0, b0'⟩ := h0
  obtain ⟨f1, b1, b1'⟩ := h1
  obtain ⟨f2, b2, b2'⟩ := h2
  obtain ⟨z1, z2⟩ := finW_zero
  obtain ⟨c0, v0⟩ := w0_val
  obtain ⟨c1, v1⟩ := w1_val
  obtain ⟨c2, v2⟩ := w2_val
  obtain ⟨c3, v3⟩ := w3_val
  obtain ⟨c6, v6⟩ := w6_val
  unfold slopeW slD slB
  have e3 : (3 : Rat) * fval .f32 y0 = 3 * fval .f32 y0 := rfl
  obtain ⟨p1, p2, p3⟩ := mul_near (k := .f32) (M := 1) c0 f0 (okm (by grind_linarith) (by grind_linarith)) (by rw [v0]; constructor <;> grind_linarith)
  rw [v0] at p2 p3
  generalize fbin .mul .f32 (i2f .f32 ((0 : Nat) : Int)) y0 = m0 at *
  obtain ⟨q1, q2, q3⟩ := mul_near (k := .f32) (M := 256) c1 f1 (okm (by grind_linarith) (by grind_linarith)) (by rw [v1]; constructor <;> grind_linarith)
  rw [v1] at q2 q3
  generalize fbin .mul .f32 (i2f .f32 ((1 : Nat) : Int)) y1 = m1 at *
  obtain ⟨r1, r2, r3⟩ := mul_near (k := .f32) (M := 512) c2 f2 (okm (by grind_linarith) (by grind_linarith)) (by rw [v2]; constructor <;> grind_linarith)
  rw [v2] at r2 r3
  generalize fbin .mul .f32 (i2f .f32 ((2 : Nat) : Int)) y2 = m2 at *
  simp only [epsK] at p2 p3 q2 q3 r2 r3
  obtain ⟨s1, s2, s3⟩ := add_near (k := .f32) (M := 1) z1 p1 (okm (by grind_linarith) (by grind_linarith)) (by rw [z2]; constructor <;> grind_linarith)
  rw [z2] at s2 s3
  simp only [epsK] at s2 s3
  generalize fbin .add .f32 0 m0 = n0 at *
  obtain ⟨t1, t2, t3⟩ := add_near (k := .f32) (M := 256) s1 q1 (okm (by grind_linarith) (by grind_linarith)) (by constructor <;> grind_linarith)
  simp only [epsK] at t2 t3
  generalize fbin .add .f32 n0 m1 = n1 at *
  obtain ⟨u1, u2, u3⟩ := add_near (k := .f32) (M := 1024) t1 r1 (okm (by grind_linarith) (by grind_linarith)) (by constructor <;> grind_linarith)
  simp only [epsK] at u2 u3
  generalize fbin .add .f32 n1 m2 = n2 at *
  obtain ⟨a1, a2, a3⟩ := add_near (k := .f32) (M := 256) z1 f0 (okm (by grind_linarith) (by grind_linarith)) (by rw [z2]; constructor <;> grind_linarith)
  rw [z2] at a2 a3
  simp only [epsK] at a2 a3
  generalize fbin .add .f32 0 y0 = k0 at *
  obtain ⟨g1, g2, g3⟩ := add_near (k := .f32) (M := 512) a1 f1 (okm (by grind_linarith) (by grind_linarith)) (by constructor <;> grind_linarith)
  simp only [epsK] at g2 g3
  generalize fbin .add .f32 k0 y1 = k1 at *
  obtain ⟨l1, l2, l3⟩ := add_near (k := .f32) (M := 1024) g1 f2 (okm (by grind_linarith) (by grind_linarith)) (by constructor <;> grind_linarith)
  simp only [epsK] at l2 l3
  generalize fbin .add .f32 k1 y2 = k2 at *
  obtain ⟨d1, d2, d3⟩ := mul_near (k := .f32) (M := 2048) c3 u1 (okm (by grind_linarith) (by grind_linarith)) (by rw [v3]; constructor <;> grind_linarith)
  rw [v3] at d2 d3
  simp only [epsK] at d2 d3
  generalize fbin .mul .f32 (i2f .f32 ((3 : Nat) : Int)) n2 = x1 at *
  obtain ⟨i1, i2, i3⟩ := mul_near (k := .f32) (M := 2048) c3 l1 (okm (by grind_linarith) (by grind_linarith)) (by rw [v3]; constructor <;> grind_linarith)
  rw [v3] at i2 i3
  simp only [epsK] at i2 i3
  generalize fbin .mul .f32 (i2f .f32 ((3 : Nat) : Int)) k2 = x2 at *
  obtain ⟨j1, j2, j3⟩ := sub_near (k := .f32) (M := 2048) d1 i1 (okm (by grind_linarith) (by grind_linarith)) (by constructor <;> grind_linarith)
  simp only [epsK] at j2 j3
  generalize fbin .sub .f32 x1 x2 = x3 at *
  obtain ⟨o1, o2, o3⟩ := quo_near (k := .f32) (M := 256) (q := fval .f32 x3 / 6) j1 c6 (by rw [v6]; decide) (by rw [v6]; exact Rat.div_mul_cancel (by decide)) (okm (by grind_linarith) (by grind_linarith)) (by constructor <;> grind_linarith)
  simp only [epsK] at o2 o3
  exact ⟨o1, by constructor <;> grind_linarith⟩
/-! ### what is not finite -/
theorem add_inf {x y : Nat} (hx : FinW .f32 x) (h : FloatKind.f32.decode y = .infinity true) : fbin .add .f32 x y = single.write (.infinity true) := by
  obtain ⟨s, m, e, hx⟩ := hx
  have hs : Datum.sum (.number s m e) (.infinity true) = some (.infinity true) := rfl
  unfold fbin floatBits
  show ((((FloatKind.f32.decode x).sum (FloatKind.f32.decode y)).map single.write).getD _) = _
  rw [hx, h, hs]
  exact Option.getD_some
theorem add_ninf {x : Nat} (hx : FinW .f32 x) : fbin .add .f32 x 4286578688 = 4286578688 := (add_inf hx (by decide +kernel)).trans (by decide +kernel)
theorem slope_ninf {y0 y1 : Nat} (h0 : FinW .f32 y0 ∧ Bd (fval .f32 y0) 205) (h1 : FinW .f32 y1 ∧ Bd (fval .f32 y1) 205) : finF (slopeW y0 y1 4286578688) = false := by
  obtain ⟨f0, b0, b0'⟩ := h0
  obtain ⟨f1, b1, b1'⟩ := h1
  obtain ⟨z1, z2⟩ := finW_zero
  obtain ⟨c0, v0⟩ := w0_val
  obtain ⟨c1, v1⟩ := w1_val
  obtain ⟨p1, p2, p3⟩ := mul_near (k := .f32) (M := 1) c0 f0 (okm (by grind_linarith) (by grind_linarith)) (by rw [v0]; constructor <;> grind_linarith)
  obtain ⟨q1, q2, q3⟩ := mul_near (k := .f32) (M := 256) c1 f1 (okm (by grind_linarith) (by grind_linarith)) (by rw [v1]; constructor <;> grind_linarith)
  rw [v0] at p2 p3
  rw [v1] at q2 q3
  simp only [epsK] at p2 p3 q2 q3
  obtain ⟨s1, s2, s3⟩ := add_near (k := .f32) (M := 1) z1 p1 (okm (by grind_linarith) (by grind_linarith)) (by rw [z2]; constructor <;> grind_linarith)
  rw [z2] at s2 s3
  simp only [epsK] at s2 s3
  obtain ⟨t1, t2, t3⟩ := add_near (k := .f32) (M := 256) s1 q1 (okm (by grind_linarith) (by grind_linarith)) (by constructor <;> grind_linarith)
  obtain ⟨a1, a2, a3⟩ := add_near (k := .f32) (M := 256) z1 f0 (okm (by grind_linarith) (by grind_linarith)) (by rw [z2]; constructor <;> grind_linarith)
  rw [z2] at a2 a3
  simp only [epsK] at a2 a3
  obtain ⟨g1, g2, g3⟩ := add_near (k := .f32) (M := 512) a1 f1 (okm (by grind_linarith) (by grind_linarith)) (by constructor <;> grind_linarith)
  have h2 : fbin .mul .f32 (i2f .f32 ((2 : Nat) : Int)) 4286578688 = 4286578688 := by decide +kernel
  have h3 : fbin .mul .f32 (i2f .f32 ((3 : Nat) : Int)) 4286578688 = 4286578688 := by decide +kernel
  unfold slopeW slD slB
  rw [h2, add_ninf t1, add_ninf g1, h3]
  decide +kernel
/-! ### roughness of a list and of its double -/
theorem p2_neg32 : p2 (-32) = 1 / 4294967296 := by unfold p2; decide +kernel
theorem lg_e_low {Z S V : Rat} {E : Int} {x : Nat} (h : Lg Z S V E) (hv : fval .f32 x = Z * p2 E) (hx : p2 (-32) ≤ fval .f32 x) : -(3245 / 100) * lnR ≤ V := by
  have hE : -32 ≤ E := by
    rcases ilg E (-32) with c | c
    · exfalso
      have := p2_le (show E ≤ -33 by omega)
      have e2 : p2 (-32) = 2 * p2 (-33) := p2_half (-32)
      have m := Rat.mul_le_mul_of_nonneg_left this (show 0 ≤ Z by have := h.z0; grind_linarith)
      have n := Rat.mul_le_mul_of_nonneg_right h.z1 (Rat.le_of_lt (p2_pos (-33)))
      have hp := p2_pos (-33)
      grind_linarith
    · exact c
  have hr : (-32 : Rat) ≤ (E : Rat) := by
    have : ((-32 : Int) : Rat) ≤ (E : Rat) := Rat.intCast_le_intCast.2 hE
    exact this
  obtain ⟨l1, l2⟩ := ln_bd
  have m := Rat.mul_le_mul_of_nonneg_right hr (show 0 ≤ lnR by grind_linarith)
  have d := h.d.1
  have s := h.s0
  generalize (E : Rat) * lnR = t at *
  grind_linarith
theorem lg_e_high {Z S V : Rat} {E : Int} {x : Nat} (h : Lg Z S V E) (hv : fval .f32 x = Z * p2 E) (hx : fval .f32 x ≤ p2 (-134)) : V ≤ -(1334 / 10) * lnR := by
  have hE : E ≤ -134 := by
    rcases ilg (-134) E with c | c
    · exfalso
      have := p2_le (show -133 ≤ E by omega)
      have e2 : p2 (-133) = 2 * p2 (-134) := p2_half (-133)
      have hp := p2_pos (-134)
      have m := Rat.mul_le_mul_of_nonneg_left this (show 0 ≤ Z by have := h.z0; grind_linarith)
      have n := Rat.mul_le_mul_of_nonneg_right h.z0 (show 0 ≤ p2 (-133) by grind_linarith)
      grind_linarith
    · exact c
  have hr : (E : Rat) ≤ (-134 : Rat) := by
    have : (E : Rat) ≤ ((-134 : Int) : Rat) := Rat.intCast_le_intCast.2 hE
    exact this
  obtain ⟨l1, l2⟩ := ln_bd
  have m := Rat.mul_le_mul_of_nonneg_right hr (show 0 ≤ lnR by grind_linarith)
  have d := h.d.2
  have s := h.s1
  generalize (E : Rat) * lnR = t at *
  grind_linarith
theorem quot_bd {a b c d : Rat} (ha : 0 < a) (h1 : c * (4 * a) ≤ b) (h2 : b ≤ d * (4 * a)) : ∃ R, c ≤ R ∧ R ≤ d ∧ b = R * (4 * a) := by
  have hp : 0 < 4 * a := by grind_linarith
  have hc : b / (4 * a) * (4 * a) = b := Rat.div_mul_cancel (by grind_linarith)
  exact ⟨b / (4 * a), Rat.le_of_mul_le_mul_right (by rw [hc]; exact h1) hp, Rat.le_of_mul_le_mul_right (by rw [hc]; exact h2) hp, hc.symm⟩
/-- A narrow logarithm by two: what it is, nearly. -/
structure Yv (y : Nat) (V : Rat) : Prop where
  f : FinW .f32 y
  b : Bd (fval .f32 y) 205
  v : Bd (fval .f32 y * lnR - V) (1 / 20000)
theorem rough_plain {a0 a2 b0 b2 x0 x1 x2 y0 y1 y2 : Nat} (fa0 : FinW .f32 a0) (fa2 : FinW .f32 a2) (fb0 : FinW .f32 b0) (fb2 : FinW .f32 b2) (pa0 : p2 (-149) ≤ fval .f32 a0) (pa2 : p2 (-149) ≤ fval .f32 a2) (pb2 : p2 (-149) ≤ fval .f32 b2)
    (h0 : fval .f32 b0 = 4 * fval .f32 a0) (h2 : Bd (fval .f32 b2 - 4 * fval .f32 a2) (fval .f32 a2 / 1000) ∨ (p2 (-32) ≤ fval .f32 a0 ∧ fval .f32 a2 ≤ p2 (-134) ∧ 2 * fval .f32 a2 ≤ fval .f32 b2 ∧ fval .f32 b2 ≤ 8 * fval .f32 a2))
    (hx0 : Yv x0 (fval .f64 (logW (f64 a0)))) (hx1 : FinW .f32 x1 ∧ Bd (fval .f32 x1) 205) (hx2 : Yv x2 (fval .f64 (logW (f64 a2)))) (hy0 : Yv y0 (fval .f64 (logW (f64 b0)))) (hy1 : FinW .f32 y1 ∧ Bd (fval .f32 y1) 205) (hy2 : Yv y2 (fval .f64 (logW (f64 b2)))) :
    FinW .f32 (slopeW x0 x1 x2) ∧ FinW .f32 (slopeW y0 y1 y2) ∧ Bd (fval .f32 (slopeW x0 x1 x2)) 300 ∧ (Bd (fval .f32 (slopeW x0 x1 x2) - fval .f32 (slopeW y0 y1 y2)) (97 / 10000) ∨ (Bd (fval .f32 (slopeW x0 x1 x2) - fval .f32 (slopeW y0 y1 y2)) (511 / 1000) ∧ fval .f32 (slopeW x0 x1 x2) ≤ -(504 / 10))) := by
  obtain ⟨s1, s2, s3⟩ := slope_near ⟨hx0.f, hx0.b⟩ hx1 ⟨hx2.f, hx2.b⟩
  obtain ⟨t1, t2, t3⟩ := slope_near ⟨hy0.f, hy0.b⟩ hy1 ⟨hy2.f, hy2.b⟩
  generalize slopeW x0 x1 x2 = s at *
  generalize slopeW y0 y1 y2 = t at *
  obtain ⟨d1, d2⟩ := lg_same fa0 fb0 pa0 h0
  obtain ⟨Z0, S0, E0, g0, k0⟩ := lg_of fa0 pa0
  obtain ⟨Z2, S2, E2, g2, k2⟩ := lg_of fa2 pa2
  obtain ⟨W2, T2, F2, m2, n2⟩ := lg_of fb2 pb2
  obtain ⟨l1, l2⟩ := ln_bd
  obtain ⟨v1, v2⟩ := hx0.v
  obtain ⟨v3, v4⟩ := hx2.v
  obtain ⟨v5, v6⟩ := hy0.v
  obtain ⟨v7, v8⟩ := hy2.v
  obtain ⟨c1, c2⟩ := hx0.b
  obtain ⟨c3, c4⟩ := hx2.b
  have hp := p2_pos (-149)
  refine ⟨s1, t1, ⟨by grind_linarith, by grind_linarith⟩, ?_⟩
  -- a bound for a difference, times lnR
  have fin : ∀ c C : Rat, 0 ≤ C → -c ≤ (fval .f32 y2 - fval .f32 x2 - (fval .f32 y0 - fval .f32 x0)) * lnR → (fval .f32 y2 - fval .f32 x2 - (fval .f32 y0 - fval .f32 x0)) * lnR ≤ c → c ≤ C * (6931471 / 10000000) → Bd (fval .f32 y2 - fval .f32 x2 - (fval .f32 y0 - fval .f32 x0)) C := by
    intro c C hC h1 h2 h3
    generalize fval .f32 y2 - fval .f32 x2 - (fval .f32 y0 - fval .f32 x0) = D at *
    have hl : 0 < lnR := by grind_linarith
    have m := Rat.mul_le_mul_of_nonneg_left l1 hC
    constructor
    · refine Rat.le_of_mul_le_mul_right (c := lnR) ?_ hl
      have e : -C * lnR = -(C * lnR) := by grind_linarith
      rw [e]
      generalize C * lnR = q at *
      generalize D * lnR = r at *
      grind_linarith
    · refine Rat.le_of_mul_le_mul_right (c := lnR) ?_ hl
      generalize C * lnR = q at *
      generalize D * lnR = r at *
      grind_linarith
  have eD : (fval .f32 y2 - fval .f32 x2 - (fval .f32 y0 - fval .f32 x0)) * lnR = fval .f32 y2 * lnR - fval .f32 x2 * lnR - (fval .f32 y0 * lnR - fval .f32 x0 * lnR) := by grind_linarith
  rcases h2 with ⟨r1, r2⟩ | ⟨r0, r1, r2, r3⟩
  · refine .inl ?_
    obtain ⟨R, R1, R2, R3⟩ := quot_bd (b := fval .f32 b2) (c := 3999 / 4000) (d := 4001 / 4000) (show 0 < fval .f32 a2 by grind_linarith) (by grind_linarith) (by grind_linarith)
    rw [n2, k2] at R3
    obtain ⟨q1, q2⟩ := lg_four g2 m2 (R := R) ⟨by grind_linarith, by grind_linarith⟩ R3
    obtain ⟨b1, b2⟩ := fin (118 / 10000) (171 / 10000) (by grind_linarith) (by rw [eD]; grind_linarith) (by rw [eD]; grind_linarith) (by grind_linarith)
    constructor <;> grind_linarith
  · refine .inr ?_
    obtain ⟨R, R1, R2, R3⟩ := quot_bd (b := fval .f32 b2) (c := 1 / 2) (d := 2) (show 0 < fval .f32 a2 by grind_linarith) (by grind_linarith) (by grind_linarith)
    rw [n2, k2] at R3
    obtain ⟨q1, q2⟩ := lg_rough g2 m2 (R := R) R1 R2 R3
    obtain ⟨b1, b2⟩ := fin (7055 / 10000) (10179 / 10000) (by grind_linarith) (by rw [eD]; grind_linarith) (by rw [eD]; grind_linarith) (by grind_linarith)
    have e1 := lg_e_low g0 k0 r0
    have e2 := lg_e_high g2 k2 r1
    refine ⟨⟨by grind_linarith, by grind_linarith⟩, ?_⟩
    -- the slope is steep
    have hd : (fval .f32 x2 - fval .f32 x0) * lnR ≤ -(1009 / 10) * lnR := by
      have e : (fval .f32 x2 - fval .f32 x0) * lnR = fval .f32 x2 * lnR - fval .f32 x0 * lnR := by grind_linarith
      rw [e]
      generalize fval .f32 x2 * lnR = q at *
      generalize fval .f32 x0 * lnR = r at *
      grind_linarith
    have hd2 := Rat.le_of_mul_le_mul_right hd (show 0 < lnR by grind_linarith)
    grind_linarith
end Go.Gx
