/-
  Bands and rows, in plain lists.
-/
import Derived.Test.YtddekdgggpifmaaGxLiftF
namespace Go.Gx
set_option linter.unusedSimpArgs false
set_option linter.unusedVariables false
open Ieee

/-! ### finite numbers -/
theorem fsub_read (x y : Nat) : fbin .sub .f32 x y = (((single.read x).sum (single.read y).opposite).map single.write).getD (qnan .f32) := rfl
theorem finF_num {x : Nat} : finF x = true ↔ ∃ s m e, single.read x = .number s m e := by
  have hq : fcB .eql .f32 (qnan .f32) 0 = false := by decide +kernel
  have h0 : fcB .eql .f32 0 0 = true := by decide +kernel
  unfold finF
  rw [fsub_read]
  cases hr : single.read x with
  | number s m e =>
    have : (Datum.number s m e).sum (Datum.number s m e).opposite = some (.number false 0 e) := by
      simp only [Datum.sum, Datum.opposite]
      have e0 : (e - min e e).toNat = 0 := by omega
      have em : min e e = e := by omega
      rw [e0, em]
      cases s <;> simp [signed] <;> omega
    rw [this]
    have hw : single.write (.number false 0 e) = 0 := by
      show single.nearest false 0 e = 0
      unfold Format.nearest
      rw [if_pos rfl]; rfl
    simp only [Option.map_some, Option.getD_some, hw, h0, true_iff]
    exact ⟨s, m, e, rfl⟩
  | infinity s =>
    have : (Datum.infinity s).sum (Datum.infinity s).opposite = none := by
      cases s <;> simp [Datum.sum, Datum.opposite]
    rw [this]
    simp [hq]
  | nan s t =>
    have : (Datum.nan s t).sum (Datum.nan s t).opposite = none := by simp [Datum.sum, Datum.opposite]
    rw [this]
    simp [hq]
theorem read_inf (s : Bool) : single.read (single.write (.infinity s)) = .infinity s := by cases s <;> decide +kernel
theorem fin_sub {c d : Nat} (hc : finF c = true) (h : finF (fbin .sub .f32 c d) = true) : finF d = true := by
  obtain ⟨s, m, e, hr⟩ := finF_num.1 hc
  rw [finF_num] at h ⊢
  rw [fsub_read, hr] at h
  cases hd : single.read d with
  | number t n j => exact ⟨t, n, j, rfl⟩
  | infinity t =>
    rw [hd] at h
    simp only [Datum.opposite, Datum.sum, Option.map_some, Option.getD_some, read_inf] at h
    obtain ⟨_, _, _, h⟩ := h
    cases h
  | nan t u =>
    rw [hd] at h
    have hq : single.read (qnan .f32) = .nan false 4194304 := by decide +kernel
    simp [Datum.opposite, Datum.sum, hq] at h

/-! ### sizes of bands -/
def sufS (sz : List Nat) (i : Nat) : Nat := (sz.drop i).sum
theorem sufS_succ {sz : List Nat} {i : Nat} (h : i < sz.length) : sufS sz i = sz.getD i 0 + sufS sz (i + 1) := by
  unfold sufS
  rw [List.drop_eq_getElem_cons h, List.sum_cons, List.getD_eq_getElem?_getD, List.getElem?_eq_getElem h]
  rfl
theorem sufS_all {sz : List Nat} {i : Nat} (h : sz.length ≤ i) : sufS sz i = 0 := by simp [sufS, List.drop_eq_nil_of_le h]
def sizeAt (sz : List Nat) (i : Nat) : Bool := decide (1 ≤ sz.getD i 0) && (decide (sz.getD i 0 = sufS sz (i + 1)) || decide (sz.getD i 0 + 1 = sufS sz (i + 1))) && decide (sufS sz i ≤ 128)
def sizesF (sz : List Nat) : Bool := within sz.length 1 7 && decide (1 ≤ sz.getD (sz.length - 1) 0) && (decide (1 < sz.length) || decide (sz.getD 0 0 = 1)) && (List.range (sz.length - 1)).all (sizeAt sz)
def bandsF (xss : List (List Nat)) : Bool := sizesF (xss.map List.length) && xss.all fun xs => xs.all finF
def castL (sz : List Nat) : List Int := sz.map fun n : Nat => (n : Int)
theorem castL_length (sz : List Nat) : (castL sz).length = sz.length := by simp [castL]
theorem castL_getD (sz : List Nat) (j : Nat) : (castL sz).getD j 0 = ((sz.getD j 0 : Nat) : Int) := by
  by_cases h : j < sz.length
  · simp [castL, List.getD_eq_getElem?_getD, h]
  · simp [castL, List.getD_eq_getElem?_getD, List.getElem?_eq_none (Nat.le_of_not_lt h)]
theorem castL_snoc (sz : List Nat) (n : Nat) : (castL sz).map iv ++ [.int .i64 (n : Int)] = (castL (sz ++ [n])).map iv := by simp [castL, iv]
theorem sizesF_no {sz : List Nat} {j : Nat} (hj : j < sz.length - 1) (h : sizeAt sz j = false) : sizesF sz = false := by
  unfold sizesF
  rw [allR_false hj h]
  simp
theorem sizesF_yes {sz : List Nat} (h0 : within sz.length 1 7 = true) (h1 : 1 ≤ sz.getD (sz.length - 1) 0) (h2 : 1 < sz.length ∨ sz.getD 0 0 = 1) (h3 : ∀ j, j < sz.length - 1 → sizeAt sz j = true) : sizesF sz = true ∧ sufS sz 0 ≤ 128 := by
  have hl := within_true.1 h0
  constructor
  · unfold sizesF
    rw [h0, decide_eq_true h1, allR.2 h3]
    rcases h2 with h2 | h2
    · rw [decide_eq_true h2]; rfl
    · rw [decide_eq_true h2]; simp
  · by_cases h4 : 1 < sz.length
    · have := h3 0 (by omega)
      simp only [sizeAt, Bool.and_eq_true, decide_eq_true_eq] at this
      exact this.2
    · have h5 : sz.getD 0 0 = 1 := by
        rcases h2 with h2 | h2
        · omega
        · exact h2
      rw [sufS_succ (by omega), h5, sufS_all (by omega)]
      omega
theorem sufS_last {sz : List Nat} (h : 0 < sz.length) : sufS sz (sz.length - 1) = sz.getD (sz.length - 1) 0 := by
  rw [sufS_succ (by omega), sufS_all (by omega)]; omega
theorem sufS_le (sz : List Nat) {i j : Nat} (h : i ≤ j) : sufS sz j ≤ sufS sz i := by
  induction j with
  | zero => have : i = 0 := by omega
            subst this; exact Nat.le_refl _
  | succ j ih =>
    by_cases hij : i = j + 1
    · subst hij; exact Nat.le_refl _
    · have h1 := ih (by omega)
      by_cases hj : j < sz.length
      · rw [sufS_succ hj] at h1; omega
      · rw [sufS_all (by omega)]; omega
theorem bandsF_len {xss : List (List Nat)} (h : bandsF xss = true) : 1 ≤ xss.length ∧ xss.length ≤ 7 := by
  unfold bandsF sizesF at h
  simp only [Bool.and_eq_true, List.length_map] at h
  have := within_true.1 h.1.1.1.1
  omega
theorem bandsF_fin {xss : List (List Nat)} (h : bandsF xss = true) (j : Nat) (hj : j < xss.length) : (xss.getD j []).all finF = true := by
  unfold bandsF at h
  simp only [Bool.and_eq_true] at h
  exact (allD []).1 h.2 j hj
def flatF (xss : List (List Nat)) : Nat → List Nat := foldI (fun k l => l ++ xss.getD (xss.length - 1 - k) []) []
/-! ### bands of filters -/
def detAt (yss : List (List Nat)) (i : Nat) : Bool := decide (1 ≤ (yss.getD i []).length) && (decide (i = 0) || decide ((yss.getD (i - 1) []).length = 2 * (yss.getD i []).length))
def validBandsF (xs : List Nat) (yss : List (List Nat)) : Bool := within yss.length 1 6 && decide ((yss.getD 0 []).length ≤ 64) && xs.all finF && (yss.all fun ys => ys.all finF) && (List.range yss.length).all (detAt yss) && decide (xs.length = (yss.getD (yss.length - 1) []).length)
def sameRowsF (a b : List (List Nat)) : Bool := decide (a.length = b.length) && (List.range a.length).all fun i => sameL (a.getD i []) (b.getD i [])
def sqF (yss : List (List Nat)) (i : Nat) : Nat := squaresF (yss.getD i [])
def powersF (xs : List Nat) (yss : List (List Nat)) : List Nat := tabL yss.length (sqF yss) ++ [squaresF xs]
/-! ### rows -/
def rowsF (xss : List (List Nat)) (most : Int) : Bool := within xss.length 1 most && (List.range xss.length).all fun i => isLongF (xss.getD i []) && decide ((xss.getD i []).length = (xss.getD 0 []).length)
def frameSum (xss : List (List Nat)) (j : Nat) : Nat → Nat := foldI (fun k a => fbin .add .f32 a ((xss.getD (xss.length - 1 - k) []).getD j 0)) 0
def bestF (xss : List (List Nat)) (i : Nat) : Nat → Nat := foldI (fun k b => if fcB .gtr .f32 ((xss.getD k []).getD i 0) ((xss.getD b []).getD i 0) = true then k else b) 0
def highF (xs : List Nat) (k : Nat) : Nat := if k % 2 = 1 then fneg .f32 (xs.getD (xs.length - 1 - k) 0) else xs.getD (xs.length - 1 - k) 0
def highL (xs : List Nat) : List Nat := tabL xs.length (highF xs)
theorem highL_length (xs : List Nat) : (highL xs).length = xs.length := tabL_length _ _
theorem vp_len {xs : List Nat} (h : validPairF xs = true) : 2 ≤ xs.length ∧ xs.length ≤ 8 := by
  simp only [validPairF, Bool.and_eq_true] at h
  have := within_true.1 h.1.1.1
  omega
theorem vb_yes {xs : List Nat} {yss : List (List Nat)} (h : validBandsF xs yss = true) : (1 ≤ yss.length ∧ yss.length ≤ 6) ∧ (yss.getD 0 []).length ≤ 64 ∧ xs.all finF = true ∧ (∀ j, j < yss.length → (yss.getD j []).all finF = true) ∧ (∀ j, j < yss.length → detAt yss j = true) ∧ xs.length = (yss.getD (yss.length - 1) []).length := by
  unfold validBandsF at h
  simp only [Bool.and_eq_true, decide_eq_true_eq] at h
  obtain ⟨⟨⟨⟨⟨h1, h2⟩, h3⟩, h4⟩, h5⟩, h6⟩ := h
  have := within_true.1 h1
  exact ⟨by omega, h2, h3, (allD []).1 h4, allR.1 h5, h6⟩
theorem vb_no {xs : List Nat} {yss : List (List Nat)} {j : Nat} (hj : j < yss.length) (h : detAt yss j = false) : validBandsF xs yss = false := by
  unfold validBandsF
  rw [allR_false hj h]
  simp
theorem rows_no {xss : List (List Nat)} {most : Int} {j : Nat} (hj : j < xss.length) (h : (isLongF (xss.getD j []) && decide ((xss.getD j []).length = (xss.getD 0 []).length)) = false) : rowsF xss most = false := by
  unfold rowsF
  rw [allR_false hj h]
  simp
end Go.Gx
