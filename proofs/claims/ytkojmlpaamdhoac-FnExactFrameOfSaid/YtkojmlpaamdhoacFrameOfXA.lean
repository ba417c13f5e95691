/- Lifts of numbers of single precision. -/
import Derived.Test.YtkojmlpaamdhoacFrameOfZ
namespace Go.Proofs.Ytkojmlpaamdhoac
open Go.Gx
set_option maxRecDepth 100000
set_option linter.unusedSimpArgs false
set_option linter.unusedVariables false

def updF (g : Nat → Nat) (xs : List Nat) (i : Nat) : List Nat := (List.range xs.length).map fun k => if k < i then g k else xs.getD k 0
theorem updF_length (g : Nat → Nat) (xs : List Nat) (i : Nat) : (updF g xs i).length = xs.length := by simp [updF]
theorem updF_zero (g : Nat → Nat) (xs : List Nat) : updF g xs 0 = xs := by
  refine list_ext_getD 0 (updF_length _ _ _) fun j hj => ?_
  rw [updF_length] at hj
  rw [updF, getD_range_map hj]
  simp
theorem updF_all (g : Nat → Nat) (xs : List Nat) : updF g xs xs.length = (List.range xs.length).map g := by
  refine list_ext_getD 0 (by simp [updF]) fun j hj => ?_
  rw [updF_length] at hj
  rw [updF, getD_range_map hj, getD_range_map hj, if_pos hj]
theorem updF_at {g : Nat → Nat} {xs : List Nat} {i : Nat} (h : i < xs.length) : ((updF g xs i).map fv)[i]? = some (.float .f32 (xs.getD i 0)) := by
  simp [updF, h, fv]
theorem updF_set {g : Nat → Nat} {xs : List Nat} {i : Nat} : (updF g xs i).set i (g i) = updF g xs (i + 1) := by
  refine list_ext_getD 0 (by simp [updF]) fun j hj => ?_
  have hj' : j < xs.length := by simpa [updF] using hj
  by_cases hji : j = i
  · subst hji
    rw [getD_set_self (by rw [updF_length]; exact hj'), updF, getD_range_map hj', if_pos (by omega)]
  · rw [Go.Gx.getD_set_ne (Ne.symm hji), updF, updF, getD_range_map hj', getD_range_map hj']
    by_cases h : j < i
    · rw [if_pos h, if_pos (by omega)]
    · rw [if_neg h, if_neg (by omega)]
theorem fin_nan {x : Nat} (h : finF x = true) : nanB .f32 x = false := by
  obtain ⟨s, m, e, hr⟩ := finF_num.1 h
  unfold nanB FloatKind.decode
  have : FloatKind.f32.format.read x = Ieee.single.read x := rfl
  rw [this, hr]; rfl
theorem ares_0 (φ : Go.Gx.Frame) (H : Heap) : ares φ H [] = some (.tuple #[]) := rfl
theorem isLong_len {xs : List Nat} (h : isLongF xs = true) : xs.length ≤ 128 ∧ 1 ≤ xs.length := by
  simp only [isLongF, Bool.and_eq_true] at h
  have := within_true.1 h.1
  omega
def mulL (sc : Nat) (xs : List Nat) : Nat → List Nat := updF (fun k => fbin .mul .f32 (xs.getD k 0) sc) xs
def quoL (sc : Nat) (xs : List Nat) : Nat → List Nat := updF (fun k => fbin .quo .f32 (xs.getD k 0) sc) xs
theorem range_getD_map (f : Nat → Nat) (xs : List Nat) : (List.range xs.length).map (fun k => f (xs.getD k 0)) = xs.map f := by
  refine List.ext_getElem (by simp) fun i h1 h2 => ?_
  have h : i < xs.length := by simpa using h2
  simp [List.getD_eq_getElem?_getD, h]
theorem mulL_all (sc : Nat) (xs : List Nat) : mulL sc xs xs.length = xs.map fun x => fbin .mul .f32 x sc := by
  rw [mulL, updF_all]; exact range_getD_map (fun x => fbin .mul .f32 x sc) xs
theorem quoL_all (sc : Nat) (xs : List Nat) : quoL sc xs xs.length = xs.map fun x => fbin .quo .f32 x sc := by
  rw [quoL, updF_all]; exact range_getD_map (fun x => fbin .quo .f32 x sc) xs
theorem mulL_length (sc : Nat) (xs : List Nat) (i : Nat) : (mulL sc xs i).length = xs.length := updF_length _ _ _
theorem quoL_length (sc : Nat) (xs : List Nat) (i : Nat) : (quoL sc xs i).length = xs.length := updF_length _ _ _
theorem mulL_zero (sc : Nat) (xs : List Nat) : mulL sc xs 0 = xs := updF_zero _ _
theorem quoL_zero (sc : Nat) (xs : List Nat) : quoL sc xs 0 = xs := updF_zero _ _
theorem mulL_at {sc : Nat} {xs : List Nat} {i : Nat} (h : i < xs.length) : ((mulL sc xs i).map fv)[i]? = some (.float .f32 (xs.getD i 0)) := updF_at h
theorem quoL_at {sc : Nat} {xs : List Nat} {i : Nat} (h : i < xs.length) : ((quoL sc xs i).map fv)[i]? = some (.float .f32 (xs.getD i 0)) := updF_at h
theorem mulL_set {sc : Nat} {xs : List Nat} {i : Nat} : ((mulL sc xs i).map fv).set i (.float .f32 (fbin .mul .f32 (xs.getD i 0) sc)) = (mulL sc xs (i + 1)).map fv := by rw [fv_set']; exact congrArg (List.map fv) updF_set
theorem quoL_set {sc : Nat} {xs : List Nat} {i : Nat} : ((quoL sc xs i).map fv).set i (.float .f32 (fbin .quo .f32 (xs.getD i 0) sc)) = (quoL sc xs (i + 1)).map fv := by rw [fv_set']; exact congrArg (List.map fv) updF_set
theorem weighUp_zero (ws : List Nat) (p : List Nat × List Nat) : weighUp ws p 0 = p := rfl
theorem weighUp_succ (ws : List Nat) (p : List Nat × List Nat) (i : Nat) : weighUp ws p (i + 1) = weighF i (ws.getD i 0) (weighUp ws p i) := rfl
structure RF (H : Heap) (v : Value) (xs : List Nat) : Prop where
  rd : FS H v xs
  le : xs.length ≤ 2 ^ 40
end Go.Proofs.Ytkojmlpaamdhoac
