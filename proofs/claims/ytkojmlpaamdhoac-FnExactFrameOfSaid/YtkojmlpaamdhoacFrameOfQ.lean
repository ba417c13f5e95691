/- Sizes of bands; flat bands; energies of bands. -/
import Derived.Test.YtkojmlpaamdhoacFrameOfK
namespace Go.Proofs.Ytkojmlpaamdhoac
open Go.Gx
set_option maxRecDepth 100000
set_option linter.unusedSimpArgs false
set_option linter.unusedVariables false

def sizeL (xss : List (List Nat)) (i : Nat) : List Nat := (List.range i).map fun j => (xss.getD j []).length
theorem sizeL_length (xss : List (List Nat)) (i : Nat) : (sizeL xss i).length = i := by simp [sizeL]
theorem sizeL_succ (xss : List (List Nat)) (i : Nat) : sizeL xss (i + 1) = sizeL xss i ++ [(xss.getD i []).length] := by simp [sizeL, List.range_succ]
theorem sizeL_all (xss : List (List Nat)) : sizeL xss xss.length = xss.map List.length := by
  refine list_ext_getD 0 (by simp [sizeL]) fun j hj => ?_
  have hj' : j < xss.length := by simpa [sizeL] using hj
  rw [sizeL, getD_range_map hj']
  simp [List.getD_eq_getElem?_getD, hj']
theorem flat_len (xss : List (List Nat)) : ∀ t, t ≤ xss.length → (flatF xss t).length + offN xss (xss.length - t) = offN xss xss.length
  | 0, _ => by simp [flatF, foldI_zero]
  | t + 1, h => by
    have ih := flat_len xss t (by omega)
    have e : xss.length - t = (xss.length - (t + 1)) + 1 := by omega
    rw [e, offN_succ (by omega)] at ih
    have e2 : xss.length - 1 - t = xss.length - (t + 1) := by omega
    simp only [flatF, foldI_succ, List.length_append, e2] at ih ⊢
    omega
theorem flatF_succ (xss : List (List Nat)) (t : Nat) : flatF xss (t + 1) = flatF xss t ++ xss.getD (xss.length - 1 - t) [] := rfl
theorem size_fit {sz : List Nat} {k : Nat} (hk : k < sz.length) (h1 : 1 ≤ sufS sz (k + 1)) : (decide (1 ≤ sz.getD k 0) && fitF (sufS sz (k + 1)) (sz.getD k 0)) = sizeAt sz k := by
  have hs := sufS_succ hk
  rw [Bool.eq_iff_iff]
  simp only [sizeAt, fitF, Bool.and_eq_true, Bool.or_eq_true, decide_eq_true_eq]
  omega
theorem sizes_le {xss : List (List Nat)} (hm : totL xss ≤ 2 ^ 40) (j : Nat) : (xss.map List.length).getD j 0 ≤ 2 ^ 40 := by
  by_cases hj : j < xss.length
  · have := totL_row hm j
    simpa [List.getD_eq_getElem?_getD, hj] using this
  · simp [List.getD_eq_getElem?_getD, List.getElem?_eq_none (Nat.le_of_not_lt hj)]
theorem sizes_sum (xss : List (List Nat)) (hm : totL xss ≤ 2 ^ 40) : sufS (xss.map List.length) 0 ≤ 2 ^ 40 := by
  have : sufS (xss.map List.length) 0 = offN xss xss.length := by simp [sufS, offN]
  rw [this]
  unfold totL at hm
  omega
end Go.Proofs.Ytkojmlpaamdhoac
