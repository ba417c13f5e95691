/-
  Natural logarithms: what is computed, and that it can be made narrow.
-/
import Derived.Test.YtddekdgggpifmaaGxVal
namespace Go.Gx
set_option linter.unusedSimpArgs false
set_option linter.unusedVariables false
open Ieee
/-! ### logarithms -/
def findUp (p : Nat → Bool) : Nat → Nat → Nat
  | 0, t => t
  | n + 1, t => if p t = true then t else findUp p n (t + 1)
theorem findUp_ok {p : Nat → Bool} : ∀ {n t k : Nat}, t ≤ k → k ≤ t + n → p k = true → p (findUp p n t) = true ∧ (∀ s, t ≤ s → s < findUp p n t → p s = false) ∧ findUp p n t ≤ k
  | 0, t, k, h1, h2, h3 => by
    have : k = t := by omega
    subst this
    exact ⟨h3, fun s a b => by simp only [findUp] at b; omega, Nat.le_refl _⟩
  | n + 1, t, k, h1, h2, h3 => by
    by_cases h : p t = true
    · simp only [findUp, h, if_true]
      exact ⟨trivial, fun s a b => by omega, h1⟩
    · have hk : t + 1 ≤ k := by
        rcases Nat.lt_or_ge t k with c | c
        · exact c
        · have : k = t := by omega
          subst this
          exact absurd h3 h
      have ih := findUp_ok (p := p) (n := n) hk (by omega) h3
      simp only [findUp, h, if_false]
      refine ⟨ih.1, fun s a b => ?_, ih.2.2⟩
      rcases Nat.lt_or_ge t s with c | c
      · exact ih.2.1 s c b
      · have : s = t := by omega
        subst this
        exact Bool.eq_false_iff.2 h
def halfS (x : Nat) : Nat → Nat
  | 0 => x
  | t + 1 => fbin .quo .f64 (halfS x t) 4611686018427387904
def dblS (x : Nat) : Nat → Nat
  | 0 => x
  | t + 1 => fbin .mul .f64 (dblS x t) 4611686018427387904
def nHalf (x : Nat) : Nat := findUp (fun t => !fcB .geq .f64 (halfS x t) 4609434218613702656) 300 0
def nDbl (x : Nat) : Nat := findUp (fun t => !fcB .lss .f64 (dblS x t) 4604930618986332160) 300 0
def logY (x : Nat) : Nat := halfS x (nHalf x)
def logZ (x : Nat) : Nat := dblS (logY x) (nDbl (logY x))
def logE (x : Nat) : Int := (nHalf x : Int) - nDbl (logY x)
def logS (z : Nat) : Nat := fbin .quo .f64 (fbin .sub .f64 z 4607182418800017408) (fbin .add .f64 z 4607182418800017408)
def logQ (u : Nat) : Nat → Nat
  | 0 => 0
  | j + 1 => fbin .add .f64 (fbin .quo .f64 4607182418800017408 (i2f .f64 (25 - 2 * (j : Int)))) (fbin .mul .f64 u (logQ u j))
def logU (z : Nat) : Nat := fbin .mul .f64 (logS z) (logS z)
def logW (x : Nat) : Nat := fbin .add .f64 (fbin .mul .f64 4611686018427387904 (fbin .mul .f64 (logS (logZ x)) (logQ (logU (logZ x)) 13))) (fbin .mul .f64 (i2f .f64 (logE x)) 4604418534313441775)
theorem add_one64 : ∀ n : Fin 801, fbin .add .f64 (i2f .f64 ((n.val : Int) - 400)) 4607182418800017408 = i2f .f64 ((n.val : Int) - 399) := by decide +kernel
theorem sub_one64 : ∀ n : Fin 801, fbin .sub .f64 (i2f .f64 ((n.val : Int) - 400)) 4607182418800017408 = i2f .f64 ((n.val : Int) - 401) := by decide +kernel
theorem sub_two64 : ∀ n : Fin 60, fbin .sub .f64 (i2f .f64 ((n.val : Int) - 20)) 4611686018427387904 = i2f .f64 ((n.val : Int) - 22) := by decide +kernel
theorem geq_one64 : ∀ n : Fin 60, fcB .geq .f64 (i2f .f64 ((n.val : Int) - 20)) 4607182418800017408 = decide (1 ≤ (n.val : Int) - 20) := by decide +kernel
/-! ### small numbers -/
/-- A finite double whose value lies between -n and n. -/
def Bn (r : Nat) (n : Nat) : Prop := FinW .f64 r ∧ Bd (fval .f64 r) ((n : Int) : Rat)
theorem rep_nat {n : Nat} (h : n ≤ 1048576) : Rep FloatKind.f64.format ((n : Int) : Rat) := Rep.int (by decide) n (by
  have hB : 2 * FloatKind.f64.format.binade = 9007199254740992 := by decide
  omega)
theorem top_nat {n : Nat} (h : n ≤ 1048576) : ((n : Int) : Rat) ≤ topK .f64 := by
  have h1 := top_ge (show (20 : Int) ≤ 1023 by decide)
  have h2 : p2 20 = ((1048576 : Nat) : Rat) := p2_nat 20
  have h3 : ((n : Int) : Rat) ≤ ((1048576 : Nat) : Rat) := by rw [Rat.intCast_natCast]; exact natCast_le h
  rw [← h2] at h3
  exact Rat.le_trans h3 h1
theorem Bn_of {v : Rat} {r n : Nat} (hn : n ≤ 1048576) (hv : Bd v ((n : Int) : Rat)) (g : Bd v (topK .f64) → Gives .f64 v r) : Bn r n := by
  have ht := top_nat hn
  have g' := g (by unfold Bd at hv ⊢; constructor <;> grind_linarith)
  exact ⟨g'.1, g'.bd (rep_nat hn) hv⟩
theorem Bn_add {x y a b : Nat} (hx : Bn x a) (hy : Bn y b) (h : a + b ≤ 1048576) : Bn (fbin .add .f64 x y) (a + b) := by
  refine Bn_of h ?_ (fadd_val hx.1 hy.1)
  have h1 := hx.2
  have h2 := hy.2
  have e : (((a + b : Nat) : Int) : Rat) = ((a : Int) : Rat) + ((b : Int) : Rat) := by rw [Int.natCast_add, Rat.intCast_add]
  unfold Bd at *
  rw [e]
  constructor <;> grind_linarith
theorem Bn_sub {x y a b : Nat} (hx : Bn x a) (hy : Bn y b) (h : a + b ≤ 1048576) : Bn (fbin .sub .f64 x y) (a + b) := by
  refine Bn_of h ?_ (fsub_val hx.1 hy.1)
  have h1 := hx.2
  have h2 := hy.2
  have e : (((a + b : Nat) : Int) : Rat) = ((a : Int) : Rat) + ((b : Int) : Rat) := by rw [Int.natCast_add, Rat.intCast_add]
  unfold Bd at *
  rw [e]
  constructor <;> grind_linarith
theorem bd_mul {x y A B : Rat} (hx : Bd x A) (hy : Bd y B) : Bd (x * y) (A * B) := by
  unfold Bd at *
  have h1 := Rat.mul_nonneg (show 0 ≤ A - x by grind_linarith) (show 0 ≤ B + y by grind_linarith)
  have h2 := Rat.mul_nonneg (show 0 ≤ A + x by grind_linarith) (show 0 ≤ B - y by grind_linarith)
  have h3 := Rat.mul_nonneg (show 0 ≤ A - x by grind_linarith) (show 0 ≤ B - y by grind_linarith)
  have h4 := Rat.mul_nonneg (show 0 ≤ A + x by grind_linarith) (show 0 ≤ B + y by grind_linarith)
  constructor <;> grind_linarith
theorem Bn_mul {x y a b : Nat} (hx : Bn x a) (hy : Bn y b) (h : a * b ≤ 1048576) : Bn (fbin .mul .f64 x y) (a * b) := by
  refine Bn_of h ?_ (fmul_val hx.1 hy.1)
  have e : (((a * b : Nat) : Int) : Rat) = ((a : Int) : Rat) * ((b : Int) : Rat) := by rw [Int.natCast_mul, Rat.intCast_mul]
  rw [e]
  exact bd_mul hx.2 hy.2
theorem Bn_int {z : Int} {n : Nat} (h : z.natAbs ≤ n) (hn : n ≤ 1048576) : Bn (i2f .f64 z) n := by
  refine Bn_of hn ?_ i2f_val
  unfold Bd
  have e : -((n : Int) : Rat) = ((-(n : Int) : Int) : Rat) := by rw [Rat.intCast_neg]
  rw [e]
  exact ⟨Rat.intCast_le_intCast.2 (by omega), Rat.intCast_le_intCast.2 (by omega)⟩
theorem Bn_le {r a b : Nat} (h : Bn r a) (hab : a ≤ b) : Bn r b := by
  refine ⟨h.1, ?_⟩
  have h1 := h.2
  have h2 : ((a : Int) : Rat) ≤ ((b : Int) : Rat) := Rat.intCast_le_intCast.2 (by omega)
  unfold Bd at *
  constructor <;> grind_linarith
/-- A quotient by what is at least one. -/
theorem Bn_quo {x y a : Nat} (hx : Bn x a) (hy : FinW .f64 y) (h1 : 1 ≤ fval .f64 y) (ha : a ≤ 1048576) : Bn (fbin .quo .f64 x y) a := by
  have hy0 : fval .f64 y ≠ 0 := by
    intro h
    rw [h] at h1
    grind_linarith
  have hq : fval .f64 x / fval .f64 y * fval .f64 y = fval .f64 x := Rat.div_mul_cancel hy0
  refine Bn_of ha ?_ (fdiv_val hx.1 hy hy0 hq)
  have hp : 0 < fval .f64 y := by grind_linarith
  have hb := hx.2
  have ha0 : 0 ≤ ((a : Int) : Rat) := Rat.intCast_nonneg.2 (by omega)
  have h2 := Rat.mul_le_mul_of_nonneg_left h1 ha0
  unfold Bd at *
  constructor
  · refine Rat.le_of_mul_le_mul_right (c := fval .f64 y) ?_ hp
    rw [hq]
    grind_linarith
  · refine Rat.le_of_mul_le_mul_right (c := fval .f64 y) ?_ hp
    rw [hq]
    grind_linarith
theorem i2f_fval {z : Int} (h : z.natAbs ≤ 1048576) : FinW .f64 (i2f .f64 z) ∧ fval .f64 (i2f .f64 z) = (z : Rat) := by
  have hb : Bd (z : Rat) (topK .f64) := by
    have ht := top_nat (Nat.le_refl 1048576)
    have h1 : (z : Rat) ≤ (((1048576 : Nat) : Int) : Rat) := Rat.intCast_le_intCast.2 (by omega)
    have h2 : ((-((1048576 : Nat) : Int) : Int) : Rat) ≤ (z : Rat) := Rat.intCast_le_intCast.2 (by omega)
    rw [Rat.intCast_neg] at h2
    unfold Bd
    constructor <;> grind_linarith
  have g := i2f_val hb
  exact ⟨g.1, g.exact (Rep.int (by decide) z (by
    have hB : 2 * FloatKind.f64.format.binade = 9007199254740992 := by decide
    omega))⟩
theorem one_i2f : (4607182418800017408 : Nat) = i2f .f64 1 := by decide +kernel
theorem two_i2f : (4611686018427387904 : Nat) = i2f .f64 2 := by decide +kernel
theorem one_val : FinW .f64 4607182418800017408 ∧ fval .f64 4607182418800017408 = 1 := by
  rw [one_i2f]; exact i2f_fval (by decide)
theorem two_val : FinW .f64 4611686018427387904 ∧ fval .f64 4611686018427387904 = 2 := by
  rw [two_i2f]; exact i2f_fval (by decide)
theorem c15_val : FinW .f64 4609434218613702656 ∧ fval .f64 4609434218613702656 = 3 / 2 := by
  have h : FloatKind.f64.decode 4609434218613702656 = .number false 6755399441055744 (-52) := by decide +kernel
  refine ⟨⟨_, _, _, h⟩, ?_⟩
  unfold fval
  rw [h]
  show sg false * _ = _
  unfold p2
  decide +kernel
theorem c34_val : FinW .f64 4604930618986332160 ∧ fval .f64 4604930618986332160 = 3 / 4 := by
  have h : FloatKind.f64.decode 4604930618986332160 = .number false 6755399441055744 (-53) := by decide +kernel
  refine ⟨⟨_, _, _, h⟩, ?_⟩
  unfold fval
  rw [h]
  show sg false * _ = _
  unfold p2
  decide +kernel
theorem ln2_bn : Bn 4604418534313441775 1 := by
  have h : FloatKind.f64.decode 4604418534313441775 = .number false 6243314768165359 (-53) := by decide +kernel
  refine ⟨⟨_, _, _, h⟩, ?_⟩
  unfold fval Bd
  rw [h]
  show _ ≤ sg false * _ ∧ sg false * _ ≤ _
  unfold p2
  decide +kernel
theorem zero64 : Bn 0 0 := by
  have h : (0 : Nat) = i2f .f64 0 := by decide +kernel
  rw [h]
  exact Bn_int (by decide) (by decide)
/-! ### the logarithm's loops -/
theorem half_ok {x : Nat} (hx : FinW .f64 x) (h0 : 0 ≤ fval .f64 x) (h1 : fval .f64 x ≤ p2 128) : ∀ t : Nat, t ≤ 300 → FinW .f64 (halfS x t) ∧ 0 ≤ fval .f64 (halfS x t) ∧ fval .f64 (halfS x t) ≤ p2 (128 - t)
  | 0, _ => ⟨hx, h0, by show fval .f64 x ≤ p2 (128 - ((0 : Nat) : Int)); simpa using h1⟩
  | t + 1, ht => by
    obtain ⟨a, b, c⟩ := half_ok hx h0 h1 t (by omega)
    have hp : p2 (128 - (t : Int)) = 2 * p2 (128 - ((t + 1 : Nat) : Int)) := by
      rw [p2_half, show (128 : Int) - (t : Int) - 1 = 128 - ((t + 1 : Nat) : Int) by omega]
    have hpos := p2_pos (128 - ((t + 1 : Nat) : Int))
    have htop := top_ge (show 128 - ((t + 1 : Nat) : Int) ≤ 1023 by omega)
    have hq : fval .f64 (halfS x t) / 2 * fval .f64 4611686018427387904 = fval .f64 (halfS x t) := by
      rw [two_val.2]
      exact Rat.div_mul_cancel (by decide)
    have hq2 : fval .f64 (halfS x t) / 2 * 2 = fval .f64 (halfS x t) := Rat.div_mul_cancel (by decide)
    generalize fval .f64 (halfS x t) / 2 = q at hq hq2
    have g := fdiv_val a two_val.1 (by rw [two_val.2]; decide) hq (by unfold Bd; constructor <;> grind_linarith)
    refine ⟨g.1, g.ge (Rep.int (by decide) 0 (by decide)) ?_, g.le (Rep.p2 (by have : FloatKind.f64.format.leastPlace = -1074 := by decide
                                                                               omega)) ?_⟩
    · show (0 : Rat) ≤ q
      grind_linarith
    · grind_linarith
theorem nHalf_ok {x : Nat} (hx : FinW .f64 x) (h0 : 0 ≤ fval .f64 x) (h1 : fval .f64 x ≤ p2 128) :
    fcB .geq .f64 (logY x) 4609434218613702656 = false ∧ (∀ s, s < nHalf x → fcB .geq .f64 (halfS x s) 4609434218613702656 = true) ∧ nHalf x ≤ 200 := by
  obtain ⟨a, b, c⟩ := half_ok hx h0 h1 200 (by omega)
  have hp : p2 (128 - ((200 : Nat) : Int)) ≤ 1 := by
    rw [← p2_zero]
    exact p2_le (by decide)
  obtain ⟨r1, r2, r3⟩ := findUp_ok (p := fun t => !fcB .geq .f64 (halfS x t) 4609434218613702656) (n := 300) (t := 0) (k := 200) (by omega) (by omega) (by
    show (!fcB .geq .f64 (halfS x 200) 4609434218613702656) = true
    rw [fcB_geq a c15_val.1, c15_val.2, decide_eq_false (by intro h; grind_linarith)]
    rfl)
  refine ⟨?_, fun s hs => ?_, r3⟩
  · have : (!fcB .geq .f64 (logY x) 4609434218613702656) = true := r1
    simpa using this
  · have : (!fcB .geq .f64 (halfS x s) 4609434218613702656) = false := r2 s (by omega) hs
    simpa using this
theorem dbl_ok {x : Nat} (hx : FinW .f64 x) (h0 : p2 (-149) ≤ fval .f64 x) (h1 : fval .f64 x ≤ 3 / 2) : ∀ t : Nat, t ≤ 300 → (∀ s, s < t → fcB .lss .f64 (dblS x s) 4604930618986332160 = true) → FinW .f64 (dblS x t) ∧ p2 (-149 + t) ≤ fval .f64 (dblS x t) ∧ fval .f64 (dblS x t) ≤ 3 / 2
  | 0, _, _ => ⟨hx, by show p2 (-149 + ((0 : Nat) : Int)) ≤ fval .f64 x; simpa using h0, h1⟩
  | t + 1, ht, hs => by
    obtain ⟨a, b, c⟩ := dbl_ok hx h0 h1 t (by omega) fun s h => hs s (by omega)
    have hlt := hs t (by omega)
    rw [fcB_lss a c34_val.1, c34_val.2] at hlt
    have hlt := of_decide_eq_true hlt
    have hp : p2 (-149 + ((t + 1 : Nat) : Int)) = 2 * p2 (-149 + (t : Int)) := by
      rw [p2_half, show (-149 : Int) + ((t + 1 : Nat) : Int) - 1 = -149 + (t : Int) by omega]
    have hpos := p2_pos (-149 + (t : Int))
    have htop := top_ge (show (1 : Int) ≤ 1023 by omega)
    rw [p2_one] at htop
    have hv : fval .f64 (dblS x t) * fval .f64 4611686018427387904 = 2 * fval .f64 (dblS x t) := by
      rw [two_val.2]; grind_linarith
    have g := fmul_val a two_val.1 (by rw [hv]; unfold Bd; constructor <;> grind_linarith)
    rw [hv] at g
    refine ⟨g.1, g.ge (Rep.p2 (by have : FloatKind.f64.format.leastPlace = -1074 := by decide
                                  omega)) ?_, ?_⟩
    · rw [hp]; grind_linarith
    · have hr : Rep FloatKind.f64.format (3 / 2) := ⟨3, -1, by unfold p2; decide +kernel, by decide, by decide⟩
      exact g.le hr (by grind_linarith)
theorem nDbl_ok {x : Nat} (hx : FinW .f64 x) (h0 : p2 (-149) ≤ fval .f64 x) (h1 : fval .f64 x ≤ 3 / 2) :
    fcB .lss .f64 (dblS x (nDbl x)) 4604930618986332160 = false ∧ (∀ s, s < nDbl x → fcB .lss .f64 (dblS x s) 4604930618986332160 = true) ∧ nDbl x ≤ 200 := by
  have hex : ∃ k, k ≤ 200 ∧ (!fcB .lss .f64 (dblS x k) 4604930618986332160) = true := by
    apply Classical.byContradiction
    intro hno
    have hall : ∀ s, s < 150 → fcB .lss .f64 (dblS x s) 4604930618986332160 = true := fun s hs => by
      cases h : fcB .lss .f64 (dblS x s) 4604930618986332160
      · exact absurd ⟨s, by omega, by rw [h]; rfl⟩ hno
      · rfl
    obtain ⟨a, b, c⟩ := dbl_ok hx h0 h1 150 (by omega) hall
    have hp : p2 (-149 + ((150 : Nat) : Int)) = 2 := p2_one
    rw [hp] at b
    grind_linarith
  obtain ⟨k, hk, hpk⟩ := hex
  obtain ⟨r1, r2, r3⟩ := findUp_ok (p := fun t => !fcB .lss .f64 (dblS x t) 4604930618986332160) (n := 300) (t := 0) (k := k) (by omega) (by omega) hpk
  refine ⟨?_, fun s hs => ?_, Nat.le_trans r3 hk⟩
  · have : (!fcB .lss .f64 (dblS x (nDbl x)) 4604930618986332160) = true := r1
    simpa using this
  · have : (!fcB .lss .f64 (dblS x s) 4604930618986332160) = false := r2 s (by omega) hs
    simpa using this
theorem logY_ok {x : Nat} (hx : FinW .f64 x) (h0 : p2 (-149) ≤ fval .f64 x) (h1 : fval .f64 x ≤ p2 128) : FinW .f64 (logY x) ∧ p2 (-149) ≤ fval .f64 (logY x) ∧ fval .f64 (logY x) ≤ 3 / 2 := by
  have hpos := p2_pos (-149)
  obtain ⟨r1, r2, r3⟩ := nHalf_ok hx (by grind_linarith) h1
  obtain ⟨a, b, c⟩ := half_ok hx (by grind_linarith) h1 (nHalf x) (by omega)
  have r1' := r1
  unfold logY at r1' ⊢
  rw [fcB_geq a c15_val.1, c15_val.2] at r1'
  have hlt := of_decide_eq_false r1'
  refine ⟨a, ?_, by grind_linarith⟩
  cases hn : nHalf x with
  | zero => exact h0
  | succ t =>
    obtain ⟨a', b', c'⟩ := half_ok hx (by grind_linarith) h1 t (by omega)
    have hg := r2 t (by omega)
    rw [fcB_geq a' c15_val.1, c15_val.2] at hg
    have hg := of_decide_eq_true hg
    have hq2 : fval .f64 (halfS x t) / 2 * 2 = fval .f64 (halfS x t) := Rat.div_mul_cancel (by decide)
    have hq : fval .f64 (halfS x t) / 2 * fval .f64 4611686018427387904 = fval .f64 (halfS x t) := by
      rw [two_val.2]; exact hq2
    generalize fval .f64 (halfS x t) / 2 = q at hq hq2
    have h300 := p2_le (show (128 : Int) - (t : Int) ≤ 128 by omega)
    have htop := top_ge (show (128 : Int) ≤ 1023 by omega)
    have g := fdiv_val a' two_val.1 (by rw [two_val.2]; decide) hq (by unfold Bd; constructor <;> grind_linarith)
    have hm1 : p2 (-149) ≤ p2 (-1) := p2_le (by decide)
    have hm2 : p2 0 = 2 * p2 (-1) := p2_half 0
    rw [p2_zero] at hm2
    exact g.ge (Rep.p2 (by decide)) (by grind_linarith)
theorem logZ_ok {x : Nat} (hx : FinW .f64 x) (h0 : p2 (-149) ≤ fval .f64 x) (h1 : fval .f64 x ≤ p2 128) : FinW .f64 (logZ x) ∧ 3 / 4 ≤ fval .f64 (logZ x) ∧ fval .f64 (logZ x) ≤ 3 / 2 := by
  obtain ⟨a, b, c⟩ := logY_ok hx h0 h1
  obtain ⟨r1, r2, r3⟩ := nDbl_ok a b c
  obtain ⟨a', b', c'⟩ := dbl_ok a b c (nDbl (logY x)) (by omega) r2
  rw [fcB_lss a' c34_val.1, c34_val.2] at r1
  have := of_decide_eq_false r1
  exact ⟨a', by show 3 / 4 ≤ fval .f64 (dblS (logY x) (nDbl (logY x))); grind_linarith, c'⟩
theorem logS_bn {z : Nat} (hz : FinW .f64 z) (h0 : 3 / 4 ≤ fval .f64 z) (h1 : fval .f64 z ≤ 3 / 2) : Bn (logS z) 1 := by
  have hone : ((1 : Int) : Rat) = 1 := rfl
  have e1 : (((1 : Nat) : Int) : Rat) = 1 := rfl
  have e4 : (((4 : Nat) : Int) : Rat) = 4 := rfl
  have ha : Bn (fbin .sub .f64 z 4607182418800017408) 1 := Bn_of (by decide) (by rw [one_val.2, e1]; unfold Bd; constructor <;> grind_linarith) (fsub_val hz one_val.1)
  have t4 := top_nat (show 4 ≤ 1048576 by decide)
  rw [e4] at t4
  have g := fadd_val hz one_val.1 (by rw [one_val.2]; unfold Bd; constructor <;> grind_linarith)
  rw [one_val.2] at g
  have hb := g.ge (Rep.int (by decide) 1 (by decide)) (by rw [hone]; grind_linarith)
  exact Bn_quo ha g.1 hb (by decide)
theorem logQ_bn {u : Nat} (hu : Bn u 1) : ∀ j : Nat, j ≤ 13 → Bn (logQ u j) j
  | 0, _ => zero64
  | j + 1, hj => by
    have ih := logQ_bn hu j (by omega)
    obtain ⟨f, v⟩ := i2f_fval (z := 25 - 2 * (j : Int)) (by omega)
    have h1 : (1 : Rat) ≤ fval .f64 (i2f .f64 (25 - 2 * (j : Int))) := by
      rw [v]
      have : ((1 : Int) : Rat) ≤ ((25 - 2 * (j : Int) : Int) : Rat) := Rat.intCast_le_intCast.2 (by omega)
      exact this
    have o1 : Bn 4607182418800017408 1 := by rw [one_i2f]; exact Bn_int (by decide) (by decide)
    have hq := Bn_quo o1 f h1 (by decide)
    have hm := Bn_mul hu ih (by omega)
    have := Bn_add hq hm (by omega)
    exact Bn_le this (by omega)
theorem logW_bn {x : Nat} (hx : FinW .f64 x) (h0 : p2 (-149) ≤ fval .f64 x) (h1 : fval .f64 x ≤ p2 128) : Bn (logW x) 1024 := by
  obtain ⟨a, b, c⟩ := logZ_ok hx h0 h1
  have hs := logS_bn a b c
  have hu := Bn_mul hs hs (by decide)
  have hq := logQ_bn (u := logU (logZ x)) hu 13 (by decide)
  have t2 : Bn 4611686018427387904 2 := by rw [two_i2f]; exact Bn_int (by decide) (by decide)
  have hm := Bn_mul t2 (Bn_mul hs hq (by decide)) (by decide)
  have hpos := p2_pos (-149)
  obtain ⟨_, _, r3⟩ := nHalf_ok hx (by grind_linarith) h1
  obtain ⟨y1, y2, y3⟩ := logY_ok hx h0 h1
  obtain ⟨_, _, r4⟩ := nDbl_ok y1 y2 y3
  have he := Bn_int (z := logE x) (n := 500) (by unfold logE; omega) (by decide)
  have := Bn_add hm (Bn_mul he ln2_bn (by decide)) (by decide)
  exact Bn_le this (by decide)
theorem Bn_narrow {r n : Nat} (h : Bn r n) (hn : n ≤ 1048576) : ∃ w, f2f .f64 r .f32 = some w ∧ FinW .f32 w := by
  have h1 : p2 20 = ((1048576 : Nat) : Rat) := p2_nat 20
  have h2 := p2_le (show (20 : Int) ≤ 127 by decide)
  have h3 := top32
  have h4 : ((n : Int) : Rat) ≤ ((1048576 : Nat) : Rat) := by rw [Rat.intCast_natCast]; exact natCast_le hn
  have hb := h.2
  obtain ⟨w, hw, g⟩ := f2f_fin h.1 (by unfold Bd at *; constructor <;> grind_linarith)
  exact ⟨w, hw, g.1⟩
end Go.Gx
