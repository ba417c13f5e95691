/-
  What the natural logarithm's loops reach.
-/
import Derived.Test.YtddekdgggpifmaaGxDbl
namespace Go.Gx
set_option linter.unusedSimpArgs false
set_option linter.unusedVariables false
open Ieee

theorem rep64 {n : Int} {j : Int} (hn : n.natAbs ≤ 2 ^ 53) (hj : -1074 ≤ j) : Rep FloatKind.f64.format ((n : Rat) * p2 j) :=
  ⟨n, j, rfl, by have : 2 * FloatKind.f64.format.binade = 2 ^ 53 := by decide
                 omega, by have : FloatKind.f64.format.leastPlace = -1074 := by decide
                           omega⟩
theorem half_val {x : Nat} {n j : Int} (hx : FinW .f64 x) (hv : fval .f64 x = (n : Rat) * p2 j) (hn : n.natAbs ≤ 2 ^ 53) (hj : -149 ≤ j) (h0 : 0 ≤ fval .f64 x) (h1 : fval .f64 x ≤ p2 128) : ∀ t : Nat, t ≤ 300 → fval .f64 (halfS x t) = (n : Rat) * p2 (j - t)
  | 0, _ => by simpa [halfS] using hv
  | t + 1, ht => by
    have ih := half_val hx hv hn hj h0 h1 t (by omega)
    obtain ⟨a, b, c⟩ := half_ok hx h0 h1 t (by omega)
    have hp := p2_half (j - (t : Int))
    rw [show j - (t : Int) - 1 = j - ((t + 1 : Nat) : Int) by omega] at hp
    have hq : (n : Rat) * p2 (j - ((t + 1 : Nat) : Int)) * fval .f64 4611686018427387904 = fval .f64 (halfS x t) := by
      rw [two_val.2, ih, hp]
      grind_linarith
    have h128 := p2_le (show (128 : Int) - (t : Int) ≤ 128 by omega)
    have htop := top_ge (show (128 : Int) ≤ 1023 by omega)
    have hpos := p2_pos 128
    rw [two_val.2] at hq
    have g := fdiv_val a two_val.1 (by rw [two_val.2]; decide) (by rw [two_val.2]; exact hq) (by unfold Bd; constructor <;> grind_linarith)
    exact g.exact (rep64 hn (by omega))
theorem dbl_val {x : Nat} {n j : Int} (hx : FinW .f64 x) (hv : fval .f64 x = (n : Rat) * p2 j) (hn : n.natAbs ≤ 2 ^ 53) (hj : -1074 ≤ j) (h0 : p2 (-149) ≤ fval .f64 x) (h1 : fval .f64 x ≤ 3 / 2) : ∀ t : Nat, t ≤ 300 → (∀ s, s < t → fcB .lss .f64 (dblS x s) 4604930618986332160 = true) → fval .f64 (dblS x t) = (n : Rat) * p2 (j + t)
  | 0, _, _ => by simpa [dblS] using hv
  | t + 1, ht, hs => by
    have ih := dbl_val hx hv hn hj h0 h1 t (by omega) fun s h => hs s (by omega)
    obtain ⟨a, b, c⟩ := dbl_ok hx h0 h1 t (by omega) fun s h => hs s (by omega)
    have hp := p2_half (j + ((t + 1 : Nat) : Int))
    rw [show j + ((t + 1 : Nat) : Int) - 1 = j + (t : Int) by omega] at hp
    have hq : fval .f64 (dblS x t) * fval .f64 4611686018427387904 = (n : Rat) * p2 (j + ((t + 1 : Nat) : Int)) := by
      rw [two_val.2, ih, hp]
      grind_linarith
    have htop := top_ge (show (2 : Int) ≤ 1023 by omega)
    have h2 : p2 2 = 4 := by unfold p2; decide +kernel
    have hpos := p2_pos (-149 + (t : Int))
    have g := fmul_val a two_val.1 (by rw [two_val.2]; unfold Bd; constructor <;> grind_linarith)
    rw [hq] at g
    exact g.exact (rep64 hn (by omega))
/-- The number's part that the loops leave. -/
theorem logZ_val {x : Nat} (hx : FinW .f32 x) (h0 : p2 (-149) ≤ fval .f32 x) : FinW .f64 (logZ (f64 x)) ∧ 3 / 4 ≤ fval .f64 (logZ (f64 x)) ∧ fval .f64 (logZ (f64 x)) ≤ 3 / 2 ∧ fval .f32 x = fval .f64 (logZ (f64 x)) * p2 (logE (f64 x)) ∧ (logE (f64 x)).natAbs ≤ 200 := by
  obtain ⟨f1, f2⟩ := f64_fin hx
  have ht := hx.bd.2
  have h128 := top64
  have hpos := p2_pos (-149)
  obtain ⟨n, j, hv, hn, hj⟩ := hx.rep
  have hn' : n.natAbs ≤ 2 ^ 53 := by
    have : 2 * FloatKind.f32.format.binade = 16777216 := by decide
    omega
  have hj' : -149 ≤ j := by
    have : FloatKind.f32.format.leastPlace = -149 := by decide
    omega
  have a0 : p2 (-149) ≤ fval .f64 (f64 x) := by rw [f2]; exact h0
  have a1 : fval .f64 (f64 x) ≤ p2 128 := by rw [f2]; grind_linarith
  obtain ⟨z1, z2, z3⟩ := logZ_ok f1 a0 a1
  obtain ⟨r1, r2, r3⟩ := nHalf_ok f1 (by grind_linarith) a1
  obtain ⟨y1, y2, y3⟩ := logY_ok f1 a0 a1
  obtain ⟨d1, d2, d3⟩ := nDbl_ok y1 y2 y3
  have hY : fval .f64 (logY (f64 x)) = (n : Rat) * p2 (j - nHalf (f64 x)) := half_val f1 (by rw [f2]; exact hv) hn' hj' (by grind_linarith) a1 (nHalf (f64 x)) (by omega)
  have hZ : fval .f64 (logZ (f64 x)) = (n : Rat) * p2 (j - nHalf (f64 x) + nDbl (logY (f64 x))) := dbl_val y1 hY hn' (by omega) y2 y3 (nDbl (logY (f64 x))) (by omega) d2
  refine ⟨z1, z2, z3, ?_, ?_⟩
  · rw [hZ, Rat.mul_assoc, ← p2_add, hv]
    congr 2
    unfold logE
    omega
  · unfold logE
    omega
/-! ### the series -/
theorem okM_one {M : Rat} (h1 : 1 / 1024 ≤ M) (h2 : M ≤ 1000000) : okM M := ⟨h1, by grind_linarith⟩
theorem logS_val {z : Nat} (hz : FinW .f64 z) (h0 : 3 / 4 ≤ fval .f64 z) (h1 : fval .f64 z ≤ 3 / 2) :
    FinW .f64 (logS z) ∧ -(144 / 1000) ≤ fval .f64 (logS z) ∧ fval .f64 (logS z) ≤ 2001 / 10000 ∧ Bd (fval .f64 (logS z) * (fval .f64 z + 1) - (fval .f64 z - 1)) (1 / 1000000000) := by
  obtain ⟨o1, o2⟩ := one_val
  obtain ⟨a1, a2, a3⟩ := sub_near (k := .f64) (M := 1) hz o1 (okM_one (by grind_linarith) (by grind_linarith)) (by rw [o2]; constructor <;> grind_linarith)
  obtain ⟨b1, b2, b3⟩ := add_near (k := .f64) (M := 4) hz o1 (okM_one (by grind_linarith) (by grind_linarith)) (by rw [o2]; constructor <;> grind_linarith)
  simp only [epsK] at a2 a3 b2 b3
  rw [o2] at a2 a3 b2 b3
  unfold logS
  generalize fbin .sub .f64 z 4607182418800017408 = a at *
  generalize fbin .add .f64 z 4607182418800017408 = b at *
  generalize fval .f64 z = Z at *
  have hb0 : fval .f64 b ≠ 0 := fun h => by rw [h] at b2; grind_linarith
  have hbp : 0 < fval .f64 b := by grind_linarith
  have hq : fval .f64 a / fval .f64 b * fval .f64 b = fval .f64 a := Rat.div_mul_cancel hb0
  generalize fval .f64 a / fval .f64 b = q at hq
  have q1 : q ≤ 20001 / 100000 := by
    refine Rat.le_of_mul_le_mul_right (c := fval .f64 b) ?_ hbp
    rw [hq]
    grind_linarith
  have q2 : -(1439 / 10000) ≤ q := by
    refine Rat.le_of_mul_le_mul_right (c := fval .f64 b) ?_ hbp
    rw [hq]
    grind_linarith
  obtain ⟨c1, c2, c3⟩ := quo_near (k := .f64) (M := 1) a1 b1 hb0 hq (okM_one (by grind_linarith) (by grind_linarith)) ⟨by grind_linarith, by grind_linarith⟩
  simp only [epsK] at c2 c3
  generalize fval .f64 (fbin .quo .f64 a b) = S at *
  refine ⟨c1, by grind_linarith, by grind_linarith, ?_⟩
  -- S (Z + 1) - (Z - 1) = (S - q) (Z + 1) + q ((Z + 1) - b) + (a - (Z - 1))
  have d1 : Bd (S - q) (1 / 100000000000) := ⟨by grind_linarith, by grind_linarith⟩
  have d2 : Bd (Z + 1) (5 / 2) := ⟨by grind_linarith, by grind_linarith⟩
  have d3 : Bd q 1 := ⟨by grind_linarith, by grind_linarith⟩
  have d4 : Bd (Z + 1 - fval .f64 b) (1 / 100000000000) := ⟨by grind_linarith, by grind_linarith⟩
  have m1 := bd_mul d1 d2
  have m2 := bd_mul d3 d4
  have e : S * (Z + 1) - (Z - 1) = (S - q) * (Z + 1) + q * (Z + 1 - fval .f64 b) + (fval .f64 a - (Z - 1)) := by
    rw [← hq]
    grind_linarith
  rw [e]
  obtain ⟨m3, m4⟩ := m1
  obtain ⟨m5, m6⟩ := m2
  generalize (S - q) * (Z + 1) = t1 at *
  generalize q * (Z + 1 - fval .f64 b) = t2 at *
  constructor <;> grind_linarith
def invW (j : Nat) : Nat := fbin .quo .f64 4607182418800017408 (i2f .f64 (25 - 2 * (j : Int)))
theorem inv_k : ∀ j : Fin 13, 0 ≤ fval .f64 (invW j.val) ∧ fval .f64 (invW j.val) ≤ 1 := by decide +kernel
theorem inv_3 : fval .f64 (invW 11) ≤ 33334 / 100000 := by decide +kernel
theorem inv_1 : fval .f64 (invW 12) = 1 := by decide +kernel
theorem inv_fin {j : Nat} (hj : j < 13) : FinW .f64 (invW j) := by
  obtain ⟨f, v⟩ := i2f_fval (z := 25 - 2 * (j : Int)) (by omega)
  have h1 : (1 : Rat) ≤ fval .f64 (i2f .f64 (25 - 2 * (j : Int))) := by
    rw [v]
    have : ((1 : Int) : Rat) ≤ ((25 - 2 * (j : Int) : Int) : Rat) := Rat.intCast_le_intCast.2 (by omega)
    exact this
  have o1 : Bn 4607182418800017408 1 := by rw [one_i2f]; exact Bn_int (by decide) (by decide)
  exact (Bn_quo o1 f h1 (by decide)).1
theorem logQ_succ (u j : Nat) : logQ u (j + 1) = fbin .add .f64 (invW j) (fbin .mul .f64 u (logQ u j)) := rfl
theorem prod_bd {x y A B : Rat} (hx : 0 ≤ x) (hA : x ≤ A) (hy : 0 ≤ y) (hB : y ≤ B) : 0 ≤ x * y ∧ x * y ≤ A * B := by
  refine ⟨Rat.mul_nonneg hx hy, ?_⟩
  have h1 := Rat.mul_le_mul_of_nonneg_left hB hx
  have h2 := Rat.mul_le_mul_of_nonneg_right hA (show 0 ≤ B by grind_linarith)
  grind_linarith
/-- One step of the series. -/
theorem step_q {u q r : Nat} {A C : Rat} (hu : FinW .f64 u) (u0 : 0 ≤ fval .f64 u) (u1 : fval .f64 u ≤ 401 / 10000) (hq : FinW .f64 q) (q0 : 0 ≤ fval .f64 q) (q1 : fval .f64 q ≤ A) (hA : A ≤ 2) (hr : FinW .f64 r) (r0 : 0 ≤ fval .f64 r) (r1 : fval .f64 r ≤ C) (hC : C ≤ 1) :
    FinW .f64 (fbin .add .f64 r (fbin .mul .f64 u q)) ∧ fval .f64 r ≤ fval .f64 (fbin .add .f64 r (fbin .mul .f64 u q)) ∧ fval .f64 (fbin .add .f64 r (fbin .mul .f64 u q)) ≤ C + 401 / 10000 * A + 1 / 1000000000 := by
  obtain ⟨p0, p1⟩ := prod_bd u0 u1 q0 q1
  have ht := top_ge (show (0 : Int) ≤ 1023 by omega)
  rw [p2_zero] at ht
  have ht2 := top_ge (show (1 : Int) ≤ 1023 by omega)
  rw [p2_one] at ht2
  have gm := fmul_val hu hq (show Bd (fval .f64 u * fval .f64 q) (topK .f64) from ⟨by grind_linarith, by grind_linarith⟩)
  have m0 := gm.ge (Rep.int (by decide) 0 (by decide)) p0
  obtain ⟨m1, m2, m3⟩ := mul_near (k := .f64) (M := 1) hu hq (okM_one (by grind_linarith) (by grind_linarith)) ⟨by grind_linarith, by grind_linarith⟩
  simp only [epsK] at m2 m3
  generalize fbin .mul .f64 u q = m at *
  have z0 : ((0 : Int) : Rat) = 0 := rfl
  rw [z0] at m0
  have ga := fadd_val hr m1 (show Bd (fval .f64 r + fval .f64 m) (topK .f64) from ⟨by grind_linarith, by grind_linarith⟩)
  have a0 := ga.ge hr.rep (by grind_linarith)
  obtain ⟨a1, a2, a3⟩ := add_near (k := .f64) (M := 2) hr m1 (okM_one (by grind_linarith) (by grind_linarith)) ⟨by grind_linarith, by grind_linarith⟩
  simp only [epsK] at a2 a3
  exact ⟨a1, a0, by grind_linarith⟩
theorem logQ_val {u : Nat} (hu : FinW .f64 u) (u0 : 0 ≤ fval .f64 u) (u1 : fval .f64 u ≤ 401 / 10000) : FinW .f64 (logQ u 13) ∧ 1 ≤ fval .f64 (logQ u 13) ∧ fval .f64 (logQ u 13) ≤ 152 / 10000 + 1 := by
  have all : ∀ j : Nat, j ≤ 13 → FinW .f64 (logQ u j) ∧ 0 ≤ fval .f64 (logQ u j) ∧ fval .f64 (logQ u j) ≤ 105 / 100 := by
    intro j
    induction j with
    | zero =>
      intro _
      obtain ⟨z1, z2⟩ := zero_f64
      have : logQ u 0 = 0 := rfl
      rw [this, z2]
      exact ⟨z1, Rat.le_refl, by grind_linarith⟩
    | succ j ih =>
      intro hj
      obtain ⟨h1, h2, h3⟩ := ih (by omega)
      obtain ⟨i1, i2⟩ := inv_k ⟨j, by omega⟩
      simp only at i1 i2
      obtain ⟨a, b, c⟩ := step_q hu u0 u1 h1 h2 h3 (by grind_linarith) (inv_fin (show j < 13 by omega)) i1 i2 (by grind_linarith)
      rw [logQ_succ]
      exact ⟨a, by grind_linarith, by grind_linarith⟩
  obtain ⟨h1, h2, h3⟩ := all 11 (by omega)
  obtain ⟨i1, _⟩ := inv_k ⟨11, by omega⟩
  simp only at i1
  obtain ⟨a, b, c⟩ := step_q hu u0 u1 h1 h2 h3 (by grind_linarith) (inv_fin (show 11 < 13 by omega)) i1 inv_3 (by grind_linarith)
  rw [← logQ_succ] at a b c
  have b0 : 0 ≤ fval .f64 (logQ u (11 + 1)) := by grind_linarith
  have k1 := inv_1
  obtain ⟨a', b', c'⟩ := step_q (C := 1) hu u0 u1 a b0 c (by grind_linarith) (inv_fin (show 12 < 13 by omega)) (by rw [k1]; grind_linarith) (by rw [k1]; grind_linarith) (by grind_linarith)
  rw [← logQ_succ] at a' b' c'
  rw [k1] at b'
  exact ⟨a', b', by grind_linarith⟩
theorem ln2_val : FinW .f64 4604418534313441775 ∧ fval .f64 4604418534313441775 = 6243314768165359 / 9007199254740992 := ⟨ln2_bn.1, by decide +kernel⟩
def lnR : Rat := 6243314768165359 / 9007199254740992
/-- The logarithm, nearly: two of the loops' rest, and the places. -/
theorem logW_near {x : Nat} (hx : FinW .f32 x) (h0 : p2 (-149) ≤ fval .f32 x) :
    FinW .f64 (logW (f64 x)) ∧ (0 ≤ fval .f64 (logS (logZ (f64 x))) → -(1 / 100000000) ≤ fval .f64 (logW (f64 x)) - 2 * fval .f64 (logS (logZ (f64 x))) - (logE (f64 x) : Rat) * lnR ∧ fval .f64 (logW (f64 x)) - 2 * fval .f64 (logS (logZ (f64 x))) - (logE (f64 x) : Rat) * lnR ≤ 61 / 10000) ∧
      (fval .f64 (logS (logZ (f64 x))) ≤ 0 → -(44 / 10000) ≤ fval .f64 (logW (f64 x)) - 2 * fval .f64 (logS (logZ (f64 x))) - (logE (f64 x) : Rat) * lnR ∧ fval .f64 (logW (f64 x)) - 2 * fval .f64 (logS (logZ (f64 x))) - (logE (f64 x) : Rat) * lnR ≤ 1 / 100000000) := by
  obtain ⟨z1, z2, z3, _, e1⟩ := logZ_val hx h0
  obtain ⟨s1, s2, s3, _⟩ := logS_val z1 z2 z3
  have hW : logW (f64 x) = fbin .add .f64 (fbin .mul .f64 4611686018427387904 (fbin .mul .f64 (logS (logZ (f64 x))) (logQ (fbin .mul .f64 (logS (logZ (f64 x))) (logS (logZ (f64 x)))) 13))) (fbin .mul .f64 (i2f .f64 (logE (f64 x))) 4604418534313441775) := rfl
  rw [hW]
  generalize logS (logZ (f64 x)) = s at *
  have hE1 : (logE (f64 x) : Rat) ≤ 200 := by
    have : (logE (f64 x) : Rat) ≤ ((200 : Int) : Rat) := Rat.intCast_le_intCast.2 (by omega)
    exact this
  have hE2 : -200 ≤ (logE (f64 x) : Rat) := by
    have : ((-200 : Int) : Rat) ≤ (logE (f64 x) : Rat) := Rat.intCast_le_intCast.2 (by omega)
    exact this
  obtain ⟨i1, i2⟩ := i2f_fval (z := logE (f64 x)) (by omega)
  generalize logE (f64 x) = E at *
  -- the square
  have hsq : 0 ≤ fval .f64 s * fval .f64 s ∧ fval .f64 s * fval .f64 s ≤ 2001 / 10000 * (2001 / 10000) := by
    refine ⟨sq_nonneg _, ?_⟩
    exact sq_bd (M := 2001 / 10000) ⟨by grind_linarith, s3⟩
  have e9 : (2001 / 10000 : Rat) * (2001 / 10000) ≤ 40041 / 1000000 := by decide +kernel
  have ht := top_ge (show (0 : Int) ≤ 1023 by omega)
  rw [p2_zero] at ht
  have gu := fmul_val s1 s1 (show Bd (fval .f64 s * fval .f64 s) (topK .f64) from ⟨by grind_linarith, by grind_linarith⟩)
  have u0 := gu.ge (Rep.int (by decide) 0 (by decide)) (by have z0 : ((0 : Int) : Rat) = 0 := rfl
                                                           rw [z0]; exact hsq.1)
  have z0 : ((0 : Int) : Rat) = 0 := rfl
  rw [z0] at u0
  obtain ⟨u1, u2, u3⟩ := mul_near (k := .f64) (M := 1) s1 s1 (okM_one (by grind_linarith) (by grind_linarith)) ⟨by grind_linarith, by grind_linarith⟩
  simp only [epsK] at u2 u3
  generalize fbin .mul .f64 s s = u at *
  obtain ⟨q1, q2, q3⟩ := logQ_val u1 u0 (by grind_linarith)
  generalize logQ u 13 = q at *
  -- S Q
  have eS : fval .f64 s * fval .f64 q = fval .f64 s + fval .f64 s * (fval .f64 q - 1) := by grind_linarith
  have hp : (0 ≤ fval .f64 s → 0 ≤ fval .f64 s * (fval .f64 q - 1) ∧ fval .f64 s * (fval .f64 q - 1) ≤ 3042 / 1000000) ∧ (fval .f64 s ≤ 0 → -(2189 / 1000000) ≤ fval .f64 s * (fval .f64 q - 1) ∧ fval .f64 s * (fval .f64 q - 1) ≤ 0) := by
    refine ⟨fun h => ?_, fun h => ?_⟩
    · obtain ⟨a, b⟩ := prod_bd h s3 (show 0 ≤ fval .f64 q - 1 by grind_linarith) (show fval .f64 q - 1 ≤ 152 / 10000 by grind_linarith)
      exact ⟨a, by grind_linarith⟩
    · obtain ⟨a, b⟩ := prod_bd (x := -fval .f64 s) (A := 144 / 1000) (by grind_linarith) (by grind_linarith) (show 0 ≤ fval .f64 q - 1 by grind_linarith) (show fval .f64 q - 1 ≤ 152 / 10000 by grind_linarith)
      have e : -fval .f64 s * (fval .f64 q - 1) = -(fval .f64 s * (fval .f64 q - 1)) := by grind_linarith
      rw [e] at a b
      exact ⟨by grind_linarith, by grind_linarith⟩
  have hb : Bd (fval .f64 s * (fval .f64 q - 1)) (1 / 100) := by
    rcases Rat.le_total (a := 0) (b := fval .f64 s) with c | c
    · have := hp.1 c
      exact ⟨by grind_linarith, by grind_linarith⟩
    · have := hp.2 c
      exact ⟨by grind_linarith, by grind_linarith⟩
  obtain ⟨hb1, hb2⟩ := hb
  generalize fval .f64 s * (fval .f64 q - 1) = D at *
  obtain ⟨m1, m2, m3⟩ := mul_near (k := .f64) (M := 1) s1 q1 (okM_one (by grind_linarith) (by grind_linarith)) (by rw [eS]; constructor <;> grind_linarith)
  rw [eS] at m2 m3
  simp only [epsK] at m2 m3
  generalize fbin .mul .f64 s q = m at *
  obtain ⟨t1, t2⟩ := two_val
  obtain ⟨n1, n2, n3⟩ := mul_near (k := .f64) (M := 1) t1 m1 (okM_one (by grind_linarith) (by grind_linarith)) (by rw [t2]; constructor <;> grind_linarith)
  rw [t2] at n2 n3
  simp only [epsK] at n2 n3
  generalize fbin .mul .f64 4611686018427387904 m = n at *
  obtain ⟨l1, l2⟩ := ln2_val
  have hl : lnR = 6243314768165359 / 9007199254740992 := rfl
  obtain ⟨p1, p2', p3⟩ := mul_near (k := .f64) (M := 200) i1 l1 (okM_one (by grind_linarith) (by grind_linarith)) (by rw [i2, l2]; constructor <;> grind_linarith)
  rw [i2, l2] at p2' p3
  simp only [epsK] at p2' p3
  generalize fbin .mul .f64 (i2f .f64 E) 4604418534313441775 = p at *
  obtain ⟨r1, r2, r3⟩ := add_near (k := .f64) (M := 300) n1 p1 (okM_one (by grind_linarith) (by grind_linarith)) (by constructor <;> grind_linarith)
  simp only [epsK] at r2 r3
  generalize fbin .add .f64 n p = r at *
  rw [hl]
  obtain ⟨hp1, hp2⟩ := hp
  refine ⟨r1, fun h => ?_, fun h => ?_⟩
  · obtain ⟨a, b⟩ := hp1 h
    exact ⟨by grind_linarith, by grind_linarith⟩
  · obtain ⟨a, b⟩ := hp2 h
    exact ⟨by grind_linarith, by grind_linarith⟩
end Go.Gx
