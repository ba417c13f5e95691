/- Levels of integers taken back. -/
import Derived.Test.YtkojmlpaamdhoacFrameOfXF
namespace Go.Proofs.Ytkojmlpaamdhoac
open Go.Gx
set_option maxRecDepth 100000
set_option linter.unusedSimpArgs false
set_option linter.unusedVariables false

def sizeJ (xss : List (List Int)) (i : Nat) : List Nat := (List.range i).map fun j => (xss.getD j []).length
theorem sizeJ_length (xss : List (List Int)) (i : Nat) : (sizeJ xss i).length = i := by simp [sizeJ]
theorem sizeJ_succ (xss : List (List Int)) (i : Nat) : sizeJ xss (i + 1) = sizeJ xss i ++ [(xss.getD i []).length] := by simp [sizeJ, List.range_succ]
theorem sizesJ_len (xss : List (List Int)) (k : Nat) : (xss.map List.length).getD k 0 = (xss.getD k []).length := by
  by_cases h : k < xss.length <;> simp [List.getD_eq_getElem?_getD, h]
theorem sizeJ_all (xss : List (List Int)) : sizeJ xss xss.length = xss.map List.length := by
  refine list_ext_getD 0 (by simp [sizeJ]) fun j hj => ?_
  have hj' : j < xss.length := by simpa [sizeJ] using hj
  rw [sizesJ_len, sizeJ, getD_range_map hj']
theorem sizesJ_le {xss : List (List Int)} (hm : totL xss ≤ 2 ^ 40) (j : Nat) : (xss.map List.length).getD j 0 ≤ 2 ^ 40 := by
  rw [sizesJ_len]; exact totL_row hm j
theorem sizesJ_sum (xss : List (List Int)) (hm : totL xss ≤ 2 ^ 40) : sufS (xss.map List.length) 0 ≤ 2 ^ 40 := by
  have : sufS (xss.map List.length) 0 = offN xss xss.length := by simp [sufS, offN]
  rw [this]
  unfold totL at hm
  omega
theorem sizesJ_n {sz : List Nat} (h : sizesF sz = true) : 1 ≤ sz.length ∧ sz.length ≤ 7 := by
  unfold sizesF at h
  simp only [Bool.and_eq_true] at h
  have := within_true.1 h.1.1.1
  omega
def dropV (kind : Int) (xss : List (List Int)) : Nat → List Int := foldI (fun t l => dropI kind l (xss.getD (xss.length - 2 - t) [])) (xss.getD (xss.length - 1) [])
theorem dropV_zero (kind : Int) (xss : List (List Int)) : dropV kind xss 0 = xss.getD (xss.length - 1) [] := rfl
theorem dropV_succ (kind : Int) (xss : List (List Int)) (t : Nat) : dropV kind xss (t + 1) = dropI kind (dropV kind xss t) (xss.getD (xss.length - 2 - t) []) := rfl
def levOk (kind : Int) (xss : List (List Int)) : Bool := within kind 0 2 && sizesF (xss.map List.length) && ((List.range (xss.length - 1)).all fun t => dropOkI kind (dropV kind xss t) (xss.getD (xss.length - 2 - t) [])) && integersF (dropV kind xss (xss.length - 1))
theorem levOk_no {kind : Int} {xss : List (List Int)} {t : Nat} (ht : t < xss.length - 1) (h : dropOkI kind (dropV kind xss t) (xss.getD (xss.length - 2 - t) []) = false) : levOk kind xss = false := by
  have : ((List.range (xss.length - 1)).all fun t => dropOkI kind (dropV kind xss t) (xss.getD (xss.length - 2 - t) [])) = false := by
    rw [List.all_eq_false]
    exact ⟨t, List.mem_range.2 ht, by rw [h]; decide⟩
  unfold levOk
  rw [this, Bool.and_false, Bool.false_and]
theorem levOk_yes {kind : Int} {xss : List (List Int)} (h0 : within kind 0 2 = true) (h1 : sizesF (xss.map List.length) = true) (h : ∀ k, k < xss.length - 1 → dropOkI kind (dropV kind xss k) (xss.getD (xss.length - 2 - k) []) = true) : levOk kind xss = integersF (dropV kind xss (xss.length - 1)) := by
  have : ((List.range (xss.length - 1)).all fun t => dropOkI kind (dropV kind xss t) (xss.getD (xss.length - 2 - t) [])) = true := by
    rw [List.all_eq_true]
    exact fun k hk => h k (List.mem_range.1 hk)
  unfold levOk
  rw [h0, h1, this, Bool.and_self, Bool.and_self, Bool.true_and]
theorem levOk_int {kind : Int} {xss : List (List Int)} {t : Nat} (h : dropOkI kind (dropV kind xss t) (xss.getD (xss.length - 2 - t) []) = true) : integersF (dropV kind xss (t + 1)) = true := by
  unfold dropOkI at h
  rw [Bool.and_eq_true] at h
  rw [dropV_succ]
  exact h.2
theorem int_le {xs : List Int} (h : integersF xs = true) : xs.length ≤ 128 := by
  simp only [integersF, Bool.and_eq_true] at h
  have := within_true.1 h.1
  omega
theorem dropV_le {kind : Int} {xss : List (List Int)} (hm : totL xss ≤ 2 ^ 40) : ∀ t, (∀ k, k < t → dropOkI kind (dropV kind xss k) (xss.getD (xss.length - 2 - k) []) = true) → (dropV kind xss t).length ≤ 2 ^ 40
  | 0, _ => totL_row hm _
  | t + 1, h => by
    have := int_le (levOk_int (h t (by omega)))
    omega
end Go.Proofs.Ytkojmlpaamdhoac
