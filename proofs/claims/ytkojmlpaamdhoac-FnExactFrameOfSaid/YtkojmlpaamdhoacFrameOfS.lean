/- Lifts of integers. -/
import Derived.Test.YtkojmlpaamdhoacFrameOfR
namespace Go.Proofs.Ytkojmlpaamdhoac
open Go.Gx
set_option maxRecDepth 100000
set_option linter.unusedSimpArgs false
set_option linter.unusedVariables false

theorem wr_range (n : Int) : -9223372036854775808 ≤ wr n ∧ wr n ≤ 9223372036854775807 := by
  unfold wr
  rw [IntKind.wrap_i64]
  omega
def updL (g : Nat → Int) (xs : List Int) (i : Nat) : List Int := (List.range xs.length).map fun k => if k < i then g k else xs.getD k 0
theorem updL_length (g : Nat → Int) (xs : List Int) (i : Nat) : (updL g xs i).length = xs.length := by simp [updL]
theorem updL_zero (g : Nat → Int) (xs : List Int) : updL g xs 0 = xs := by
  refine list_ext_getD 0 (updL_length _ _ _) fun j hj => ?_
  rw [updL_length] at hj
  rw [updL, getD_range_map hj]
  simp
theorem updL_all (g : Nat → Int) (xs : List Int) : updL g xs xs.length = (List.range xs.length).map g := by
  refine list_ext_getD 0 (by simp [updL]) fun j hj => ?_
  rw [updL_length] at hj
  rw [updL, getD_range_map hj, getD_range_map hj, if_pos hj]
theorem updL_at {g : Nat → Int} {xs : List Int} {i : Nat} (h : i < xs.length) : ((updL g xs i).map iv)[i]? = some (.int .i64 (xs.getD i 0)) := by
  simp [updL, h, iv]
theorem updL_set {g : Nat → Int} {xs : List Int} {i : Nat} : (updL g xs i).set i (g i) = updL g xs (i + 1) := by
  refine list_ext_getD 0 (by simp [updL]) fun j hj => ?_
  have hj' : j < xs.length := by simpa [updL] using hj
  by_cases hji : j = i
  · subst hji
    rw [getD_set_self (by rw [updL_length]; exact hj'), updL, getD_range_map hj', if_pos (by omega)]
  · rw [Go.Gx.getD_set_ne (Ne.symm hji), updL, updL, getD_range_map hj', getD_range_map hj']
    by_cases h : j < i
    · rw [if_pos h, if_pos (by omega)]
    · rw [if_neg h, if_neg (by omega)]
theorem i64_range (n : Nat) (f : Nat → Int) (h : ∀ j, -9223372036854775808 ≤ f j ∧ f j ≤ 9223372036854775807) : I64 ((List.range n).map f) := fun j => by
  by_cases hj : j < n
  · rw [getD_range_map hj]; exact h j
  · simp [List.getD_eq_getElem?_getD, List.getElem?_eq_none (l := List.range n) (i := j) (by simp; omega)]
theorem i64_ev {xs : List Int} (h : I64 xs) (n : Nat) : I64 (evL 0 xs n) := i64_range _ _ fun j => h _
theorem i64_od {xs : List Int} (h : I64 xs) (n : Nat) : I64 (odL 0 xs n) := i64_range _ _ fun j => h _
theorem liftO_length (kind : Int) (xs : List Int) : (liftO kind xs).length = xs.length / 2 := by simp [liftO, lowerO, odL_length]
theorem liftE_length (kind : Int) (xs : List Int) : (liftE kind xs).length = (xs.length + 1) / 2 := by simp [liftE, raiseE, evL_length]
theorem i64_liftO (kind : Int) (xs : List Int) : I64 (liftO kind xs) := i64_range _ _ fun j => wr_range _
theorem i64_liftE (kind : Int) (xs : List Int) : I64 (liftE kind xs) := i64_range _ _ fun j => wr_range _
theorem i_mirrored_ok {H : Heap} {n i : Int} (hn : 1 ≤ n) (hn' : n ≤ 2 ^ 40) (hi : -(2 ^ 40) ≤ i) (hi' : i ≤ 2 ^ 41) : ACalls Try.prog n_i_mirrored [.int .i64 n, .int .i64 i] H fun r H' => r = .int .i64 (mirF n i) ∧ H' = H := by
  refine k_i_mirrored.run rfl ?_
  unfold c_i_mirrored
  by_cases h1 : n = 1
  · simp (disch := first | assumption | omega | rfl | (refine id ?_; simp only [gxD, ne_eq, reduceCtorEq, not_false_eq_true, Nat.reduceAdd, *]; done) | (refine id ?_; simp only [gxD]; omega)) only [↓gxPre, gxPost, ↓reduceIte, Nat.reduceEqDiff, reduceCtorEq, Nat.reduceAdd, h1]
    simp [mirF]
  simp (disch := first | assumption | omega | rfl | (refine id ?_; simp only [gxD, ne_eq, reduceCtorEq, not_false_eq_true, Nat.reduceAdd, *]; done) | (refine id ?_; simp only [gxD]; omega)) only [↓gxPre, gxPost, ↓reduceIte, Nat.reduceEqDiff, reduceCtorEq, Nat.reduceAdd, h1]
  refine loop_st (σ := Int) (fun s => [.int .i64 n, .int .i64 s]) (fun s G => G = H ∧ mirF n s = mirF n i ∧ -(2 ^ 41) ≤ s ∧ s ≤ 2 ^ 41) (fun s => 2 * s.natAbs + (if s < 0 then 1 else 0)) i rfl ⟨rfl, rfl, by omega, by omega⟩ ?_
  rintro s _ ⟨rfl, hs, b1, b2⟩
  simp (disch := first | assumption | omega | rfl | (refine id ?_; simp only [gxD, ne_eq, reduceCtorEq, not_false_eq_true, Nat.reduceAdd, *]; done) | (refine id ?_; simp only [gxD]; omega)) only [↓gxPre, gxPost, ↓reduceIte, Nat.reduceEqDiff, reduceCtorEq, Nat.reduceAdd]
  refine callR_pure (i_within_ok) (by first | exact Or.inl rfl | (simp (disch := first | assumption | omega | rfl | (refine id ?_; simp only [gxD, ne_eq, reduceCtorEq, not_false_eq_true, Nat.reduceAdd, *]; done) | (refine id ?_; simp only [gxD]; omega)) only [↓gxPre, gxPost, ↓reduceIte, Nat.reduceEqDiff, reduceCtorEq, Nat.reduceAdd, *]; done)) ?_
  simp (disch := first | assumption | omega | rfl | (refine id ?_; simp only [gxD, ne_eq, reduceCtorEq, not_false_eq_true, Nat.reduceAdd, *]; done) | (refine id ?_; simp only [gxD]; omega)) only [↓gxPre, gxPost, ↓reduceIte, Nat.reduceEqDiff, reduceCtorEq, Nat.reduceAdd, *]
  cases hw : within s 0 (n - 1)
  rotate_left
  · have hw' := within_true.1 hw
    simp (disch := first | assumption | omega | rfl | (refine id ?_; simp only [gxD, ne_eq, reduceCtorEq, not_false_eq_true, Nat.reduceAdd, *]; done) | (refine id ?_; simp only [gxD]; omega)) only [↓gxPre, gxPost, ↓reduceIte, Nat.reduceEqDiff, reduceCtorEq, Nat.reduceAdd]
    rw [← hs, mir_in hw'.1 (by omega)]
  have hno : ¬ (0 ≤ s ∧ s ≤ n - 1) := fun h => by rw [within_true.2 h] at hw; cases hw
  by_cases hneg : s < 0
  · simp (disch := first | assumption | omega | rfl | (refine id ?_; simp only [gxD, ne_eq, reduceCtorEq, not_false_eq_true, Nat.reduceAdd, *]; done) | (refine id ?_; simp only [gxD]; omega)) only [↓gxPre, gxPost, ↓reduceIte, Nat.reduceEqDiff, reduceCtorEq, Nat.reduceAdd, hneg]
    refine ⟨-s, ?_, by simp, by rw [mir_neg hn]; exact hs, by omega, by omega⟩
    split <;> omega
  · simp (disch := first | assumption | omega | rfl | (refine id ?_; simp only [gxD, ne_eq, reduceCtorEq, not_false_eq_true, Nat.reduceAdd, *]; done) | (refine id ?_; simp only [gxD]; omega)) only [↓gxPre, gxPost, ↓reduceIte, Nat.reduceEqDiff, reduceCtorEq, Nat.reduceAdd, hneg]
    refine ⟨2 * (n - 1) - s, ?_, by simp, by rw [mir_ref hn]; exact hs, by omega, by omega⟩
    split <;> omega
end Go.Proofs.Ytkojmlpaamdhoac
