/- Lists grown. -/
import Derived.Test.YtkojmlpaamdhoacFrameOfXC
namespace Go.Proofs.Ytkojmlpaamdhoac
open Go.Gx
set_option maxRecDepth 100000
set_option linter.unusedSimpArgs false
set_option linter.unusedVariables false

def zerosF (n : Nat) : List Nat := List.replicate n 0
theorem zerosF_length (n : Nat) : (zerosF n).length = n := by simp [zerosF]
theorem zerosF_map (n : Nat) : List.replicate n (Value.float .f32 0) = (zerosF n).map fv := rep_fv _
theorem zerosF_w (n : Nat) : W32 (zerosF n) := fun j => by
  unfold zerosF
  by_cases h : j < n <;> simp [List.getD_eq_getElem?_getD, h]
theorem zerosF_fin (n : Nat) : (zerosF n).all finF = true := by
  rw [List.all_eq_true]
  intro x hx
  rw [zerosF, List.mem_replicate] at hx
  rw [hx.2]
  decide
def growOk (ws : List Nat) (sc : Nat) (xs : List Nat) : Bool := isLongF xs && (decide (xs.length ≤ 64) && dropOk ws sc xs (zerosF xs.length))
theorem isLong_fin {xs : List Nat} (h : isLongF xs = true) : xs.all finF = true := by
  unfold isLongF at h
  rw [Bool.and_eq_true] at h
  exact h.2
theorem fit_same {n : Nat} (h : 1 ≤ n) (h' : n ≤ 64) : fitF n n = true := by
  unfold fitF
  rw [decide_eq_true h, decide_eq_true (show n = n from rfl), decide_eq_true (show n + n ≤ 128 by omega)]
  rfl
end Go.Proofs.Ytkojmlpaamdhoac
