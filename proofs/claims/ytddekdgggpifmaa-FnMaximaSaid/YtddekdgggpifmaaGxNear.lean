/-
  Rounded operations, told by how far they may be from the exact result.
-/
import Derived.Test.YtddekdgggpifmaaGxTrig
namespace Go.Gx
set_option linter.unusedSimpArgs false
set_option linter.unusedVariables false
open Ieee
/-! ### one operation -/
def epsK : FloatKind → Rat
  | .f32 => 1 / 8000000
  | .f64 => 1 / 1000000000000000
def okM (M : Rat) : Prop := 1 / 1024 ≤ M ∧ M ≤ 1152921504606846976
theorem okM_top {k : FloatKind} {M : Rat} (h : okM M) : M ≤ topK k := by
  have h2 := h.2
  cases k
  · have h1 : p2 60 ≤ topK .f32 := Rat.le_trans (p2_le (by decide)) top32
    have e : p2 60 = ((1152921504606846976 : Nat) : Rat) := p2_nat 60
    rw [e] at h1
    exact Rat.le_trans h2 h1
  · have h1 : p2 60 ≤ topK .f64 := top_ge (by decide)
    have e : p2 60 = ((1152921504606846976 : Nat) : Rat) := p2_nat 60
    rw [e] at h1
    exact Rat.le_trans h2 h1
theorem p2m (n : Nat) : p2 (-(n : Int)) * ((2 ^ n : Nat) : Rat) = 1 := by
  rw [← p2_nat, ← p2_add]
  have : -(n : Int) + n = 0 := by omega
  rw [this, p2_zero]
theorem p2_m23 : p2 (-23) = 1 / 8388608 := by
  unfold p2
  decide +kernel
theorem p2_m52 : p2 (-52) = 1 / 4503599627370496 := by
  unfold p2
  decide +kernel
theorem p2_m80 : p2 (-80) = 1 / 1208925819614629174706176 := by
  unfold p2
  decide +kernel
theorem near_of {k : FloatKind} {v M : Rat} {r : Nat} (hM : okM M) (hb : Bd v M) (g : Bd v (topK k) → Gives k v r) : FinW k r ∧ v - M * epsK k ≤ fval k r ∧ fval k r ≤ v + M * epsK k := by
  have ht := okM_top (k := k) hM
  have hb' : Bd v (topK k) := ⟨by have := hb.1; grind_linarith, by have := hb.2; grind_linarith⟩
  obtain ⟨g1, g2⟩ := g hb'
  obtain ⟨e1, e2⟩ := g2.err M hb.1 hb.2
  have h1 := hM.1
  refine ⟨g1, ?_⟩
  cases k
  · have ef : p2 (-(FloatKind.f32.format.fractionBits : Int)) = 1 / 8388608 := p2_m23
    have el : p2 FloatKind.f32.format.leastPlace ≤ 1 / 1208925819614629174706176 := by
      rw [← p2_m80]; exact p2_le (by decide)
    rw [ef] at e1 e2
    simp only [epsK]
    constructor <;> grind_linarith
  · have ef : p2 (-(FloatKind.f64.format.fractionBits : Int)) = 1 / 4503599627370496 := p2_m52
    have el : p2 FloatKind.f64.format.leastPlace ≤ 1 / 1208925819614629174706176 := by
      rw [← p2_m80]; exact p2_le (by decide)
    rw [ef] at e1 e2
    simp only [epsK]
    constructor <;> grind_linarith
theorem add_near {k : FloatKind} {x y : Nat} {M : Rat} (hx : FinW k x) (hy : FinW k y) (hM : okM M) (hb : Bd (fval k x + fval k y) M) :
    FinW k (fbin .add k x y) ∧ fval k x + fval k y - M * epsK k ≤ fval k (fbin .add k x y) ∧ fval k (fbin .add k x y) ≤ fval k x + fval k y + M * epsK k := near_of hM hb (fadd_val hx hy)
theorem sub_near {k : FloatKind} {x y : Nat} {M : Rat} (hx : FinW k x) (hy : FinW k y) (hM : okM M) (hb : Bd (fval k x - fval k y) M) :
    FinW k (fbin .sub k x y) ∧ fval k x - fval k y - M * epsK k ≤ fval k (fbin .sub k x y) ∧ fval k (fbin .sub k x y) ≤ fval k x - fval k y + M * epsK k := near_of hM hb (fsub_val hx hy)
theorem mul_near {k : FloatKind} {x y : Nat} {M : Rat} (hx : FinW k x) (hy : FinW k y) (hM : okM M) (hb : Bd (fval k x * fval k y) M) :
    FinW k (fbin .mul k x y) ∧ fval k x * fval k y - M * epsK k ≤ fval k (fbin .mul k x y) ∧ fval k (fbin .mul k x y) ≤ fval k x * fval k y + M * epsK k := near_of hM hb (fmul_val hx hy)
theorem quo_near {k : FloatKind} {x y : Nat} {q M : Rat} (hx : FinW k x) (hy : FinW k y) (h0 : fval k y ≠ 0) (hq : q * fval k y = fval k x) (hM : okM M) (hb : Bd q M) :
    FinW k (fbin .quo k x y) ∧ q - M * epsK k ≤ fval k (fbin .quo k x y) ∧ fval k (fbin .quo k x y) ≤ q + M * epsK k := near_of hM hb (fdiv_val hx hy h0 hq)
/-- A word's value, read off its parts. -/
theorem word_val (k : FloatKind) {w : Nat} {s : Bool} {m : Nat} {e : Int} {v : Rat} (h : k.decode w = .number s m e) (hv : sg s * ((m : Rat) * p2 e) = v) : FinW k w ∧ fval k w = v :=
  ⟨⟨s, m, e, h⟩, by unfold fval; rw [h, dval_number, hv]⟩

/-! ### differences -/
def gapW (a b : Nat) : Nat := if fcB .lss .f64 a b = true then fbin .sub .f64 b a else fbin .sub .f64 a b
theorem gap_val {a b : Nat} {t : Rat} (ha : FinW .f64 a) (hb : FinW .f64 b) (ht : t ≤ topK .f64) (hr : Rep FloatKind.f64.format t) (h1 : fval .f64 a - fval .f64 b ≤ t) (h2 : fval .f64 b - fval .f64 a ≤ t) : FinW .f64 (gapW a b) ∧ 0 ≤ fval .f64 (gapW a b) ∧ fval .f64 (gapW a b) ≤ t := by
  unfold gapW
  rw [fcB_lss ha hb]
  by_cases c : fval .f64 a < fval .f64 b
  · rw [decide_eq_true c, if_pos rfl]
    have g := fsub_val hb ha (show Bd (fval .f64 b - fval .f64 a) (topK .f64) from ⟨by grind_linarith, by grind_linarith⟩)
    exact ⟨g.1, g.ge r0 (by grind_linarith), g.le hr h2⟩
  · rw [decide_eq_false c, if_neg (by decide)]
    have c' : fval .f64 b ≤ fval .f64 a := Rat.not_lt.1 c
    have g := fsub_val ha hb (show Bd (fval .f64 a - fval .f64 b) (topK .f64) from ⟨by grind_linarith, by grind_linarith⟩)
    exact ⟨g.1, g.ge r0 (by grind_linarith), g.le hr h1⟩
theorem gap_leq {a b t : Nat} (ha : FinW .f64 a) (hb : FinW .f64 b) (ht : FinW .f64 t) (h1 : fval .f64 a - fval .f64 b ≤ fval .f64 t) (h2 : fval .f64 b - fval .f64 a ≤ fval .f64 t) : fcB .leq .f64 (gapW a b) t = true := by
  obtain ⟨g1, g2, g3⟩ := gap_val ha hb ht.bd.2 ht.rep h1 h2
  rw [fcB_leq g1 ht, decide_eq_true g3]
theorem gap_gtr {a b t : Nat} (ha : FinW .f64 a) (hb : FinW .f64 b) (ht : FinW .f64 t) (h1 : fval .f64 a - fval .f64 b ≤ fval .f64 t) (h2 : fval .f64 b - fval .f64 a ≤ fval .f64 t) : fcB .gtr .f64 (gapW a b) t = false := by
  obtain ⟨g1, g2, g3⟩ := gap_val ha hb ht.bd.2 ht.rep h1 h2
  rw [fcB_gtr g1 ht, decide_eq_false (Rat.not_lt.2 g3)]

/-! ### sums -/
def sumR (f : Nat → Rat) : Nat → Rat
  | 0 => 0
  | n + 1 => sumR f n + f n
theorem sumR_congr {f g : Nat → Rat} : ∀ {n : Nat}, (∀ j, j < n → f j = g j) → sumR f n = sumR g n
  | 0, _ => rfl
  | n + 1, h => by rw [sumR, sumR, sumR_congr (fun j hj => h j (by omega)), h n (by omega)]
theorem sumR_add (f g : Nat → Rat) : ∀ n, sumR (fun j => f j + g j) n = sumR f n + sumR g n
  | 0 => by rw [sumR, sumR, sumR]; grind_linarith
  | n + 1 => by rw [sumR, sumR, sumR, sumR_add f g n]; grind_linarith
theorem sumR_nonneg {f : Nat → Rat} : ∀ {n : Nat}, (∀ j, j < n → 0 ≤ f j) → 0 ≤ sumR f n
  | 0, _ => by simp [sumR]
  | n + 1, h => by
    have h1 := sumR_nonneg (n := n) (fun j hj => h j (by omega))
    have h2 := h n (by omega)
    rw [sumR]; grind_linarith
theorem sumR_ge {f : Nat → Rat} {n i : Nat} (h : ∀ j, j < n → 0 ≤ f j) (hi : i < n) : f i ≤ sumR f n := by
  induction n with
  | zero => omega
  | succ n ih =>
    rw [sumR]
    have h0 := sumR_nonneg (n := n) (fun j hj => h j (by omega))
    by_cases c : i = n
    · subst c; grind_linarith
    · have h1 := ih (fun j hj => h j (by omega)) (by omega)
      have h2 := h n (by omega)
      grind_linarith
theorem sumR_near {f g : Nat → Rat} {c : Rat} : ∀ {n : Nat}, (∀ j, j < n → f j ≤ g j + c ∧ g j ≤ f j + c) → sumR f n ≤ sumR g n + (n : Rat) * c ∧ sumR g n ≤ sumR f n + (n : Rat) * c
  | 0, _ => by
    have e : ((0 : Nat) : Rat) = 0 := rfl
    rw [sumR, sumR, e]
    constructor <;> grind_linarith
  | n + 1, h => by
    obtain ⟨h1, h2⟩ := sumR_near (n := n) (fun j hj => h j (by omega))
    obtain ⟨h3, h4⟩ := h n (by omega)
    have e : ((n + 1 : Nat) : Rat) = (n : Rat) + 1 := by rw [Rat.natCast_add]; rfl
    rw [sumR, sumR, e]
    constructor <;> grind_linarith
theorem sumR_first (f : Nat → Rat) : ∀ n, sumR f (n + 1) = f 0 + sumR (fun j => f (j + 1)) n
  | 0 => by rw [sumR, sumR, sumR]; grind_linarith
  | n + 1 => by rw [sumR, sumR_first f n, sumR]; grind_linarith
/-- Around a ring, sums stay. -/
theorem sumR_ring (f : Nat → Rat) (m : Nat) : sumR (fun j => f ((j + 1) % m)) m = sumR f m := by
  cases m with
  | zero => rfl
  | succ m =>
    have e : sumR (fun j => f ((j + 1) % (m + 1))) m = sumR (fun j => f (j + 1)) m := sumR_congr fun j hj => by rw [Nat.mod_eq_of_lt (by omega)]
    rw [sumR, e, Nat.mod_self, sumR_first]
    grind_linarith
theorem sumR_two (f : Nat → Rat) : ∀ m, sumR f (2 * m) = sumR (fun j => f (2 * j) + f (2 * j + 1)) m
  | 0 => rfl
  | m + 1 => by
    rw [show 2 * (m + 1) = 2 * m + 1 + 1 by omega, sumR, sumR, sumR, sumR_two f m]
    grind_linarith

/-! ### sums of squares, in double precision -/
def sqD (xs : List Nat) : Nat → Nat := foldI (fun i s => fbin .add .f64 s (fbin .mul .f64 (f64 (xs.getD i 0)) (f64 (xs.getD i 0)))) 0
def vF (xs : List Nat) (i : Nat) : Rat := fval .f32 (xs.getD i 0)
def sqR (xs : List Nat) : Nat → Rat := sumR fun i => vF xs i * vF xs i
theorem sq_nonneg (x : Rat) : 0 ≤ x * x := by
  rcases Rat.le_total (a := 0) (b := x) with h | h
  · exact Rat.mul_nonneg h h
  · have := Rat.mul_nonneg (show 0 ≤ -x by grind_linarith) (show 0 ≤ -x by grind_linarith)
    grind_linarith
theorem sq_bd {x M : Rat} (h : Bd x M) : x * x ≤ M * M := by
  have := (bd_mul h h).2
  exact this
theorem sq_near {xs : List Nat} {M : Rat} (h1 : 1 ≤ M) (h2 : M ≤ 1000) (hf : ∀ i, i < xs.length → FinW .f32 (xs.getD i 0) ∧ Bd (vF xs i) M) : ∀ n, n ≤ xs.length → n ≤ 200 →
    FinW .f64 (sqD xs n) ∧ sqR xs n - (n : Rat) * (M * M / 1000000000000) ≤ fval .f64 (sqD xs n) ∧ fval .f64 (sqD xs n) ≤ sqR xs n + (n : Rat) * (M * M / 1000000000000)
  | 0, _, _ => by
    obtain ⟨z1, z2⟩ := zero_f64
    refine ⟨z1, ?_⟩
    show sqR xs 0 - _ ≤ fval .f64 0 ∧ fval .f64 0 ≤ _
    rw [z2]
    have e : ((0 : Nat) : Rat) = 0 := rfl
    have e2 : sqR xs 0 = 0 := rfl
    rw [e, e2]
    constructor <;> grind_linarith
  | n + 1, hn, hn2 => by
    obtain ⟨a1, a2, a3⟩ := sq_near h1 h2 hf n (by omega) (by omega)
    obtain ⟨f1, f2⟩ := hf n (by omega)
    obtain ⟨g1, g2⟩ := f64_fin f1
    have hMM : M * M ≤ 1000000 := by
      have := (bd_mul (x := M) (y := M) (A := 1000) (B := 1000) ⟨by grind_linarith, h2⟩ ⟨by grind_linarith, h2⟩).2
      grind_linarith
    have hM1 : 1 ≤ M * M := by
      have := Rat.mul_le_mul_of_nonneg_left h1 (show 0 ≤ M by grind_linarith)
      grind_linarith
    have hq : vF xs n * vF xs n ≤ M * M := sq_bd f2
    have hq0 := sq_nonneg (vF xs n)
    have e2 : fval .f64 (f64 (xs.getD n 0)) = vF xs n := g2
    have hm := mul_near (k := .f64) (M := M * M) g1 g1 ⟨by grind_linarith, by grind_linarith⟩ (by rw [e2]; exact ⟨by grind_linarith, by grind_linarith⟩)
    obtain ⟨m1, m2, m3⟩ := hm
    rw [e2] at m2 m3
    have hs0 : 0 ≤ sqR xs n := sumR_nonneg fun j _ => sq_nonneg _
    have hs1 : sqR xs n ≤ (n : Rat) * (M * M) := by
      have := (sumR_near (f := fun i => vF xs i * vF xs i) (g := fun _ => 0) (c := M * M) (n := n) fun j hj => by
        have a := sq_bd (hf j (by omega)).2
        have b := sq_nonneg (vF xs j)
        constructor <;> grind_linarith).1
      have z : ∀ n, sumR (fun _ => 0) n = 0 := fun n => by
        induction n with
        | zero => rfl
        | succ n ih => rw [sumR, ih]; grind_linarith
      rw [z] at this
      unfold sqR
      grind_linarith
    have hn0 : (0 : Rat) ≤ n := Rat.natCast_nonneg
    have hnc : (n : Rat) ≤ 200 := by
      have := natCast_le (show n ≤ 200 by omega)
      simpa using this
    have hnM : (n : Rat) * (M * M) ≤ 200 * (M * M) := Rat.mul_le_mul_of_nonneg_right hnc (by grind_linarith)
    have hnM0 : 0 ≤ (n : Rat) * (M * M) := Rat.mul_nonneg hn0 (by grind_linarith)
    have hn3 : (n : Rat) * (M * M / 1000000000000) = (n : Rat) * (M * M) / 1000000000000 := by grind_linarith
    rw [hn3] at a2 a3
    simp only [epsK] at m2 m3
    have ha := add_near (k := .f64) (M := 300 * (M * M)) a1 m1 ⟨by grind_linarith, by grind_linarith⟩ ⟨by grind_linarith, by grind_linarith⟩
    obtain ⟨b1, b2, b3⟩ := ha
    simp only [epsK] at b2 b3
    have e : ((n + 1 : Nat) : Rat) = (n : Rat) + 1 := by rw [Rat.natCast_add]; rfl
    have es : sqR xs (n + 1) = sqR xs n + vF xs n * vF xs n := rfl
    have eF : sqD xs (n + 1) = fbin .add .f64 (sqD xs n) (fbin .mul .f64 (f64 (xs.getD n 0)) (f64 (xs.getD n 0))) := rfl
    rw [eF, es, e]
    refine ⟨b1, ?_, ?_⟩ <;> grind_linarith
theorem sqD_nonneg {xs : List Nat} {M : Rat} (hf : ∀ i, i < xs.length → FinW .f32 (xs.getD i 0)) (hb : ∀ i, i < xs.length → Bd (vF xs i) M) (hM : M ≤ 8) : ∀ n, n ≤ xs.length → n ≤ 200 → 0 ≤ fval .f64 (sqD xs n)
  | 0, _, _ => by
    show 0 ≤ fval .f64 0
    rw [zero_f64.2]
    exact Rat.le_refl
  | n + 1, hn, hn2 => by
    have ih := sqD_nonneg hf hb hM n (by omega) (by omega)
    have h8 : ∀ i, i < xs.length → FinW .f32 (xs.getD i 0) ∧ Bd (vF xs i) 8 := fun i hi => ⟨hf i hi, by have := hb i hi; exact ⟨by have := this.1; grind_linarith, by have := this.2; grind_linarith⟩⟩
    obtain ⟨a1, a2, a3⟩ := sq_near (by grind_linarith) (by grind_linarith) h8 n (by omega) (by omega)
    obtain ⟨f1, f2⟩ := h8 n (by omega)
    obtain ⟨g1, g2⟩ := f64_fin f1
    have e2 : fval .f64 (f64 (xs.getD n 0)) = vF xs n := g2
    have hq : vF xs n * vF xs n ≤ 8 * 8 := sq_bd f2
    have hq0 := sq_nonneg (vF xs n)
    have t1 : (64 : Rat) ≤ topK .f64 := okM_top (M := 64) ⟨by grind_linarith, by grind_linarith⟩
    have t2 : (100000 : Rat) ≤ topK .f64 := okM_top (M := 100000) ⟨by grind_linarith, by grind_linarith⟩
    have gm := fmul_val (k := .f64) g1 g1 (by rw [e2]; exact ⟨by grind_linarith, by grind_linarith⟩)
    have m0 : 0 ≤ fval .f64 (fbin .mul .f64 (f64 (xs.getD n 0)) (f64 (xs.getD n 0))) := gm.ge r0 (by rw [e2]; exact hq0)
    obtain ⟨m1, m2, m3⟩ := mul_near (k := .f64) (M := 64) g1 g1 ⟨by grind_linarith, by grind_linarith⟩ (by rw [e2]; exact ⟨by grind_linarith, by grind_linarith⟩)
    rw [e2] at m3
    simp only [epsK] at m3
    have hs1 : sqR xs n ≤ (n : Rat) * 64 := by
      have := (sumR_near (f := fun i => vF xs i * vF xs i) (g := fun _ => 0) (c := 64) (n := n) fun j hj => by
        have a := sq_bd (h8 j (by omega)).2
        have b := sq_nonneg (vF xs j)
        constructor <;> grind_linarith).1
      have z : ∀ n, sumR (fun _ => 0) n = 0 := fun n => by
        induction n with
        | zero => rfl
        | succ n ih => rw [sumR, ih]; grind_linarith
      rw [z] at this
      unfold sqR
      grind_linarith
    have hnc : (n : Rat) ≤ 200 := by
      have := natCast_le (show n ≤ 200 by omega)
      simpa using this
    have ga := fadd_val (k := .f64) a1 m1 ⟨by grind_linarith, by grind_linarith⟩
    exact ga.ge r0 (by grind_linarith)
end Go.Gx
