/- Lifts of integers. -/
import Derived.Test.YtkojmlpaamdhoaeDropLevelsR
namespace Go.Proofs.Ytkojmlpaamdhoae
open Go.Gx
set_option maxRecDepth 100000
set_option linter.unusedSimpArgs false
set_option linter.unusedVariables false

theorem wr_range (n : Int) : -9223372036854775808 ≤ wr n ∧ wr n ≤ 9223372036854775807 := by
  unfold wr
  rw [IntKind.wrap_i64]
  omega
def updL (g : Nat → Int) (xs : List Int) (i : Nat) : List Int := (List.range xs.length).map fun k => if k < i then g k else xs.getD k 0
theorem updL_length (g : Nat → Int) (xs : List Int) (i : Nat) : (updL g xs i).length = xs.length := by simp [updL]
theorem updL_zero (g : Nat → Int) (xs : List Int) : updL g xs 0 = xs := by
  refine list_ext_getD 0 (updL_length _ _ _) fun j hj => ?_
  rw [updL_length] at hj
  rw [updL, getD_range_map hj]
  simp
theorem updL_all (g : Nat → Int) (xs : List Int) : updL g xs xs.length = (List.range xs.length).map g := by
  refine list_ext_getD 0 (by simp [updL]) fun j hj => ?_
  rw [updL_length] at hj
  rw [updL, getD_range_map hj, getD_range_map hj, if_pos hj]
theorem updL_at {g : Nat → Int} {xs : List Int} {i : Nat} (h : i < xs.length) : ((updL g xs i).map iv)[i]? = some (.int .i64 (xs.getD i 0)) := by
  simp [updL, h, iv]
theorem updL_set {g : Nat → Int} {xs : List Int} {i : Nat} : (updL g xs i).set i (g i) = updL g xs (i + 1) := by
  refine list_ext_getD 0 (by simp [updL]) fun j hj => ?_
  have hj' : j < xs.length := by simpa [updL] using hj
  by_cases hji : j = i
  · subst hji
    rw [getD_set_self (by rw [updL_length]; exact hj'), updL, getD_range_map hj', if_pos (by omega)]
  · rw [Go.Gx.getD_set_ne (Ne.symm hji), updL, updL, getD_range_map hj', getD_range_map hj']
    by_cases h : j < i
    · rw [if_pos h, if_pos (by omega)]
    · rw [if_neg h, if_neg (by omega)]
theorem i64_range (n : Nat) (f : Nat → Int) (h : ∀ j, -9223372036854775808 ≤ f j ∧ f j ≤ 9223372036854775807) : I64 ((List.range n).map f) := fun j => by
  by_cases hj : j < n
  · rw [getD_range_map hj]; exact h j
  · simp [List.getD_eq_getElem?_getD, List.getElem?_eq_none (l := List.range n) (i := j) (by simp; omega)]
theorem i64_ev {xs : List Int} (h : I64 xs) (n : Nat) : I64 (evL 0 xs n) := i64_range _ _ fun j => h _
theorem i64_od {xs : List Int} (h : I64 xs) (n : Nat) : I64 (odL 0 xs n) := i64_range _ _ fun j => h _
theorem liftO_length (kind : Int) (xs : List Int) : (liftO kind xs).length = xs.length / 2 := by simp [liftO, lowerO, odL_length]
theorem liftE_length (kind : Int) (xs : List Int) : (liftE kind xs).length = (xs.length + 1) / 2 := by simp [liftE, raiseE, evL_length]
theorem i64_liftO (kind : Int) (xs : List Int) : I64 (liftO kind xs) := i64_range _ _ fun j => wr_range _
theorem i64_liftE (kind : Int) (xs : List Int) : I64 (liftE kind xs) := i64_range _ _ fun j => wr_range _
theorem i_mirrored_ok {H : Heap} {n i : Int} (hn : 1 ≤ n) (hn' : n ≤ 2 ^ 40) (hi : -(2 ^ 40) ≤ i) (hi' : i ≤ 2 ^ 41) : ACalls Try.prog n_i_mirrored [.int .i64 n, .int .i64 i] H fun r H' => r = .int .i64 (mirF n i) ∧ H' = H := by
  refine k_i_mirrored.run rfl ?_
  unfold c_i_mirrored
  by_cases h1 : n = 1
  · simp (disch := first | assumption | omega | rfl | (refine id ?_; simp only [gxD, ne_eq, reduceCtorEq, not_false_eq_true, Nat.reduceAdd, *]; done) | (refine id ?_; simp only [gxD]; omega)) only [↓gxPre, gxPost, ↓reduceIte, Nat.reduceEqDiff, reduceCtorEq, Nat.reduceAdd, h1]
    simp [mirF]
  simp (disch := first | assumption | omega | rfl | (refine id ?_; simp only [gxD, ne_eq, reduceCtorEq, not_false_eq_true, Nat.reduceAdd, *]; done) | (refine id ?_; simp only [gxD]; omega)) only [↓gxPre, gxPost, ↓reduceIte, Nat.reduceEqDiff, reduceCtorEq, Nat.reduceAdd, h1]
  refine loop_st (σ := Int) (fun s => [.int .i64 n, .int .i64 s]) (fun s G => G = H ∧ mirF n s = mirF n i ∧ -(2 ^ 41) ≤ s ∧ s ≤ 2 ^ 41) (fun s => 2 * s.natAbs + (if s < 0 then 1 else 0)) i rfl ⟨rfl, rfl, by omega, by omega⟩ ?_
  rintro s _ ⟨rfl, hs, b1, b2⟩
  simp (disch := first | assumption | omega | rfl | (refine id ?_; simp only [gxD, ne_eq, reduceCtorEq, not_false_eq_true, Nat.reduceAdd, *]; done) | (refine id ?_; simp only [gxD]; omega)) only [↓gxPre, gxPost, ↓reduceIte, Nat.reduceEqDiff, reduceCtorEq, Nat.reduceAdd]
  refine callR_pure (i_within_ok) (by first | exact Or.inl rfl | (simp (disch := first | assumption | omega | rfl | (refine id ?_; simp only [gxD, ne_eq, reduceCtorEq, not_false_eq_true, Nat.reduceAdd, *]; done) | (refine id ?_; simp only [gxD]; omega)) only [↓gxPre, gxPost, ↓reduceIte, Nat.reduceEqDiff, reduceCtorEq, Nat.reduceAdd, *]; done)) ?_
  simp (disch := first | assumption | omega | rfl | (refine id ?_; simp only [gxD, ne_eq, reduceCtorEq, not_false_eq_true, Nat.reduceAdd, *]; done) | (refine id ?_; simp only [gxD]; omega)) only [↓gxPre, gxPost, ↓reduceIte, Nat.reduceEqDiff, reduceCtorEq, Nat.reduceAdd, *]
  cases hw : within s 0 (n - 1)
  rotate_left
  · have hw' := within_true.1 hw
    simp (disch := first | assumption | omega | rfl | (refine id ?_; simp only [gxD, ne_eq, reduceCtorEq, not_false_eq_true, Nat.reduceAdd, *]; done) | (refine id ?_; simp only [gxD]; omega)) only [↓gxPre, gxPost, ↓reduceIte, Nat.reduceEqDiff, reduceCtorEq, Nat.reduceAdd]
    rw [← hs, mir_in hw'.1 (by omega)]
  have hno : ¬ (0 ≤ s ∧ s ≤ n - 1) := fun h => by rw [within_true.2 h] at hw; cases hw
  by_cases hneg : s < 0
  · simp (disch := first | assumption | omega | rfl | (refine id ?_; simp only [gxD, ne_eq, reduceCtorEq, not_false_eq_true, Nat.reduceAdd, *]; done) | (refine id ?_; simp only [gxD]; omega)) only [↓gxPre, gxPost, ↓reduceIte, Nat.reduceEqDiff, reduceCtorEq, Nat.reduceAdd, hneg]
    refine ⟨-s, ?_, by simp, by rw [mir_neg hn]; exact hs, by omega, by omega⟩
    split <;> omega
  · simp (disch := first | assumption | omega | rfl | (refine id ?_; simp only [gxD, ne_eq, reduceCtorEq, not_false_eq_true, Nat.reduceAdd, *]; done) | (refine id ?_; simp only [gxD]; omega)) only [↓gxPre, gxPost, ↓reduceIte, Nat.reduceEqDiff, reduceCtorEq, Nat.reduceAdd, hneg]
    refine ⟨2 * (n - 1) - s, ?_, by simp, by rw [mir_ref hn]; exact hs, by omega, by omega⟩
    split <;> omega
theorem i_below_ok {H : Heap} {a b : Int} (ha : -9223372036854775808 ≤ a ∧ a ≤ 9223372036854775807) (hb : b = 2 ∨ b = 4 ∨ b = 16) : ACalls Try.prog n_i_below [.int .i64 a, .int .i64 b] H fun r H' => r = .int .i64 (a / b) ∧ H' = H := by
  have hbe := below_eq a b (by omega)
  have hr : -9223372036854775807 ≤ a.tdiv b ∧ a.tdiv b ≤ 9223372036854775807 := by
    rw [Int.tdiv_eq_ediv]
    have s2 : Int.sign 2 = 1 := rfl
    have s4 : Int.sign 4 = 1 := rfl
    have s16 : Int.sign 16 = 1 := rfl
    rcases hb with rfl | rfl | rfl <;> simp only [s2, s4, s16] <;> split <;> omega
  refine k_i_below.run rfl ?_
  unfold c_i_below
  by_cases hc : a.tmod b < 0
  · rw [if_pos hc] at hbe
    simp (disch := first | assumption | omega | rfl | (refine id ?_; simp only [gxD, ne_eq, reduceCtorEq, not_false_eq_true, Nat.reduceAdd, *]; done) | (refine id ?_; simp only [gxD]; omega)) only [↓gxPre, gxPost, ↓reduceIte, Nat.reduceEqDiff, reduceCtorEq, Nat.reduceAdd, hc]
    rw [hbe]
  · rw [if_neg hc] at hbe
    simp (disch := first | assumption | omega | rfl | (refine id ?_; simp only [gxD, ne_eq, reduceCtorEq, not_false_eq_true, Nat.reduceAdd, *]; done) | (refine id ?_; simp only [gxD]; omega)) only [↓gxPre, gxPost, ↓reduceIte, Nat.reduceEqDiff, reduceCtorEq, Nat.reduceAdd, hc]
    rw [hbe]
theorem s_l02Down_ok {H : Heap} {a b : Int} (ha : -9223372036854775808 ≤ a ∧ a ≤ 9223372036854775807) (hb : b = 2 ∨ b = 4 ∨ b = 16) : ACalls Try.prog n_s_l02Down [.int .i64 a, .int .i64 b] H fun r H' => r = .int .i64 (a / b) ∧ H' = H := by
  have hbe := below_eq a b (by omega)
  have hr : -9223372036854775807 ≤ a.tdiv b ∧ a.tdiv b ≤ 9223372036854775807 := by
    rw [Int.tdiv_eq_ediv]
    have s2 : Int.sign 2 = 1 := rfl
    have s4 : Int.sign 4 = 1 := rfl
    have s16 : Int.sign 16 = 1 := rfl
    rcases hb with rfl | rfl | rfl <;> simp only [s2, s4, s16] <;> split <;> omega
  refine k_s_l02Down.run rfl ?_
  unfold c_s_l02Down
  by_cases hc : a.tmod b < 0
  · rw [if_pos hc] at hbe
    simp (disch := first | assumption | omega | rfl | (refine id ?_; simp only [gxD, ne_eq, reduceCtorEq, not_false_eq_true, Nat.reduceAdd, *]; done) | (refine id ?_; simp only [gxD]; omega)) only [↓gxPre, gxPost, ↓reduceIte, Nat.reduceEqDiff, reduceCtorEq, Nat.reduceAdd, hc]
    rw [hbe]
  · rw [if_neg hc] at hbe
    simp (disch := first | assumption | omega | rfl | (refine id ?_; simp only [gxD, ne_eq, reduceCtorEq, not_false_eq_true, Nat.reduceAdd, *]; done) | (refine id ?_; simp only [gxD]; omega)) only [↓gxPre, gxPost, ↓reduceIte, Nat.reduceEqDiff, reduceCtorEq, Nat.reduceAdd, hc]
    rw [hbe]
theorem i_besideOdd_i_ok {H : Heap} {v : Value} {xs : List Int} {j : Nat} (hv : IS H v xs) (hn : xs.length ≤ 2 ^ 40) (hj : j < xs.length) :
    ACalls Try.prog n_i_besideOdd_int64_ [v, .int .i64 j] H fun r H' => r = .tuple #[.int .i64 (xs.getD j 0), .int .i64 (xs.getD (min (j + 1) (xs.length - 1)) 0)] ∧ H' = H := by
  have e : (min ((j : Int) + 1) ((xs.length : Int) - 1)).toNat = min (j + 1) (xs.length - 1) := by omega
  refine k_i_besideOdd_int64_.run rfl ?_
  unfold c_i_besideOdd_int64_
  simp (disch := first | assumption | omega | rfl | (refine id ?_; simp only [gxD, ne_eq, reduceCtorEq, not_false_eq_true, Nat.reduceAdd, *]; done) | (refine id ?_; simp only [gxD]; omega)) only [↓gxPre, gxPost, ↓reduceIte, Nat.reduceEqDiff, reduceCtorEq, Nat.reduceAdd, hv.len, hv.ia, hv.ld, e]
theorem i_besideEven_i_ok {H : Heap} {v : Value} {xs : List Int} {j : Nat} (hv : IS H v xs) (hn : xs.length ≤ 2 ^ 40) (hj : j ≤ xs.length) (h1 : 1 ≤ xs.length) :
    ACalls Try.prog n_i_besideEven_int64_ [v, .int .i64 j] H fun r H' => r = .tuple #[.int .i64 (xs.getD (j - 1) 0), .int .i64 (xs.getD (min j (xs.length - 1)) 0)] ∧ H' = H := by
  have e : (min (j : Int) ((xs.length : Int) - 1)).toNat = min j (xs.length - 1) := by omega
  have e2 : (max ((j : Int) - 1) 0).toNat = j - 1 := by omega
  refine k_i_besideEven_int64_.run rfl ?_
  unfold c_i_besideEven_int64_
  simp (disch := first | assumption | omega | rfl | (refine id ?_; simp only [gxD, ne_eq, reduceCtorEq, not_false_eq_true, Nat.reduceAdd, *]; done) | (refine id ?_; simp only [gxD]; omega)) only [↓gxPre, gxPost, ↓reduceIte, Nat.reduceEqDiff, reduceCtorEq, Nat.reduceAdd, hv.len, hv.ia, hv.ld, e, e2]
theorem i_evenBy_ok {H : Heap} {kind : Int} {v : Value} {xs : List Int} {j : Nat} (hv : IS H v xs) (hn : xs.length ≤ 2 ^ 40) (hj : j ≤ xs.length) (hw : I64 xs) :
    ACalls Try.prog n_i_evenBy [.int .i64 kind, v, .int .i64 j] H fun r H' => r = .int .i64 (evenByF kind xs j) ∧ H' = H := by
  refine k_i_evenBy.run rfl ?_
  unfold c_i_evenBy
  by_cases hk : kind = 0
  · by_cases h1 : j < xs.length
    · simp (disch := first | assumption | omega | rfl | (refine id ?_; simp only [gxD, ne_eq, reduceCtorEq, not_false_eq_true, Nat.reduceAdd, *]; done) | (refine id ?_; simp only [gxD]; omega)) only [↓gxPre, gxPost, ↓reduceIte, Nat.reduceEqDiff, reduceCtorEq, Nat.reduceAdd, hk, hv.len, hv.ia, hv.ld]
      refine callR_pure (i_below_ok (hw j) (.inl rfl)) (by first | exact Or.inl rfl | (simp (disch := first | assumption | omega | rfl | (refine id ?_; simp only [gxD, ne_eq, reduceCtorEq, not_false_eq_true, Nat.reduceAdd, *]; done) | (refine id ?_; simp only [gxD]; omega)) only [↓gxPre, gxPost, ↓reduceIte, Nat.reduceEqDiff, reduceCtorEq, Nat.reduceAdd, *]; done)) ?_
      simp (disch := first | assumption | omega | rfl | (refine id ?_; simp only [gxD, ne_eq, reduceCtorEq, not_false_eq_true, Nat.reduceAdd, *]; done) | (refine id ?_; simp only [gxD]; omega)) only [↓gxPre, gxPost, ↓reduceIte, Nat.reduceEqDiff, reduceCtorEq, Nat.reduceAdd, *]
      simp [evenByF, h1]
    · simp (disch := first | assumption | omega | rfl | (refine id ?_; simp only [gxD, ne_eq, reduceCtorEq, not_false_eq_true, Nat.reduceAdd, *]; done) | (refine id ?_; simp only [gxD]; omega)) only [↓gxPre, gxPost, ↓reduceIte, Nat.reduceEqDiff, reduceCtorEq, Nat.reduceAdd, hk, hv.len]
      simp [evenByF, h1]
  by_cases h0 : xs.length = 0
  · have h0' : (xs.length : Int) = 0 := by omega
    simp (disch := first | assumption | omega | rfl | (refine id ?_; simp only [gxD, ne_eq, reduceCtorEq, not_false_eq_true, Nat.reduceAdd, *]; done) | (refine id ?_; simp only [gxD]; omega)) only [↓gxPre, gxPost, ↓reduceIte, Nat.reduceEqDiff, reduceCtorEq, Nat.reduceAdd, hk, hv.len, h0']
    simp [evenByF, hk, h0]
  have h0' : ¬ (xs.length : Int) = 0 := by omega
  simp (disch := first | assumption | omega | rfl | (refine id ?_; simp only [gxD, ne_eq, reduceCtorEq, not_false_eq_true, Nat.reduceAdd, *]; done) | (refine id ?_; simp only [gxD]; omega)) only [↓gxPre, gxPost, ↓reduceIte, Nat.reduceEqDiff, reduceCtorEq, Nat.reduceAdd, hk, hv.len, h0']
  refine callR_pure (i_besideEven_i_ok hv hn hj (by omega)) (by first | exact Or.inl rfl | (simp (disch := first | assumption | omega | rfl | (refine id ?_; simp only [gxD, ne_eq, reduceCtorEq, not_false_eq_true, Nat.reduceAdd, *]; done) | (refine id ?_; simp only [gxD]; omega)) only [↓gxPre, gxPost, ↓reduceIte, Nat.reduceEqDiff, reduceCtorEq, Nat.reduceAdd, *]; done)) ?_
  simp (disch := first | assumption | omega | rfl | (refine id ?_; simp only [gxD, ne_eq, reduceCtorEq, not_false_eq_true, Nat.reduceAdd, *]; done) | (refine id ?_; simp only [gxD]; omega)) only [↓gxPre, gxPost, ↓reduceIte, Nat.reduceEqDiff, reduceCtorEq, Nat.reduceAdd, *]
  refine callR_pure (i_below_ok (a := wr (wr (xs.getD (j - 1) 0 + xs.getD (min j (xs.length - 1)) 0) + 2)) (wr_range _) (.inr (.inl rfl))) (.inl rfl) ?_
  simp (disch := first | assumption | omega | rfl | (refine id ?_; simp only [gxD, ne_eq, reduceCtorEq, not_false_eq_true, Nat.reduceAdd, *]; done) | (refine id ?_; simp only [gxD]; omega)) only [↓gxPre, gxPost, ↓reduceIte, Nat.reduceEqDiff, reduceCtorEq, Nat.reduceAdd]
  simp [evenByF, hk, h0]
theorem i_oddBy_1_ok {H : Heap} {h : Nat} {own : Bool} {ty : TypeId} {i : Int} {v : Value} {xs : List Int} (hb : H.blk h = some ⟨own, ty, [v]⟩) (hv : IS H v xs) (hn : xs.length ≤ 2 ^ 30) (h1 : 1 ≤ xs.length) (hi : -(2 ^ 32) ≤ i) (hi' : i ≤ 2 ^ 32) :
    ACalls Try.prog n_i_oddBy_1 [.int .i64 i, .pointer (some ⟨h, 0, some 1⟩)] H fun r H' => r = .int .i64 (atI xs (mirF xs.length i)) ∧ H' = H := by
  have hr := mir_range (n := xs.length) (i := i) (by omega)
  refine k_i_oddBy_1.run rfl ?_
  unfold c_i_oddBy_1
  simp (disch := first | assumption | omega | rfl | (refine id ?_; simp only [gxD, ne_eq, reduceCtorEq, not_false_eq_true, Nat.reduceAdd, *]; done) | (refine id ?_; simp only [gxD]; omega)) only [↓gxPre, gxPost, ↓reduceIte, Nat.reduceEqDiff, reduceCtorEq, Nat.reduceAdd, hb, hv.len]
  refine callR_pure (i_mirrored_ok (by omega) (by omega) (by omega) (by omega)) (by first | exact Or.inl rfl | (simp (disch := first | assumption | omega | rfl | (refine id ?_; simp only [gxD, ne_eq, reduceCtorEq, not_false_eq_true, Nat.reduceAdd, *]; done) | (refine id ?_; simp only [gxD]; omega)) only [↓gxPre, gxPost, ↓reduceIte, Nat.reduceEqDiff, reduceCtorEq, Nat.reduceAdd, *]; done)) ?_
  simp (disch := first | assumption | omega | rfl | (refine id ?_; simp only [gxD, ne_eq, reduceCtorEq, not_false_eq_true, Nat.reduceAdd, *]; done) | (refine id ?_; simp only [gxD]; omega)) only [↓gxPre, gxPost, ↓reduceIte, Nat.reduceEqDiff, reduceCtorEq, Nat.reduceAdd, *]
  simp (disch := first | assumption | omega | rfl | (refine id ?_; simp only [gxD, ne_eq, reduceCtorEq, not_false_eq_true, Nat.reduceAdd, *]; done) | (refine id ?_; simp only [gxD]; omega)) only [↓gxPre, gxPost, ↓reduceIte, Nat.reduceEqDiff, reduceCtorEq, Nat.reduceAdd, hv.ia, hv.ld]
  rfl
theorem i_oddBy_ok {H : Heap} {kind : Int} {v : Value} {xs : List Int} {j : Nat} (hv : IS H v xs) (hn : xs.length ≤ 2 ^ 30) (hj : j < xs.length) (hw : I64 xs) :
    ACalls Try.prog n_i_oddBy [.int .i64 kind, v, .int .i64 j] H fun r H' => r = .int .i64 (oddByF kind xs j) ∧ Ext H H' := by
  refine k_i_oddBy.run rfl ?_
  unfold c_i_oddBy
  have o1 := hv.one
  have e : Ext H (H.new ⟨true, t_sint64, [v]⟩) := .new _ _
  have hbb : (H.new ⟨true, t_sint64, [v]⟩).blk H.n = some ⟨true, t_sint64, [v]⟩ := by simp (disch := first | assumption | omega | rfl | (refine id ?_; simp only [gxD, ne_eq, reduceCtorEq, not_false_eq_true, Nat.reduceAdd, *]; done) | (refine id ?_; simp only [gxD]; omega)) only [↓gxPre, gxPost, ↓reduceIte, Nat.reduceEqDiff, reduceCtorEq, Nat.reduceAdd]
  have hv' := hv.ext e
  by_cases hk0 : kind = 0
  · simp (disch := first | assumption | omega | rfl | (refine id ?_; simp only [gxD, ne_eq, reduceCtorEq, not_false_eq_true, Nat.reduceAdd, *]; done) | (refine id ?_; simp only [gxD]; omega)) only [↓gxPre, gxPost, ↓reduceIte, Nat.reduceEqDiff, reduceCtorEq, Nat.reduceAdd, hk0, hv'.ia, hv'.ld]
    exact ⟨by simp [oddByF], e⟩
  by_cases hk1 : kind = 1
  · simp (disch := first | assumption | omega | rfl | (refine id ?_; simp only [gxD, ne_eq, reduceCtorEq, not_false_eq_true, Nat.reduceAdd, *]; done) | (refine id ?_; simp only [gxD]; omega)) only [↓gxPre, gxPost, ↓reduceIte, Nat.reduceEqDiff, reduceCtorEq, Nat.reduceAdd, hk1]
    refine callR_pure (i_besideOdd_i_ok hv' (by omega) hj) (by first | exact Or.inl rfl | (simp (disch := first | assumption | omega | rfl | (refine id ?_; simp only [gxD, ne_eq, reduceCtorEq, not_false_eq_true, Nat.reduceAdd, *]; done) | (refine id ?_; simp only [gxD]; omega)) only [↓gxPre, gxPost, ↓reduceIte, Nat.reduceEqDiff, reduceCtorEq, Nat.reduceAdd, *]; done)) ?_
    simp (disch := first | assumption | omega | rfl | (refine id ?_; simp only [gxD, ne_eq, reduceCtorEq, not_false_eq_true, Nat.reduceAdd, *]; done) | (refine id ?_; simp only [gxD]; omega)) only [↓gxPre, gxPost, ↓reduceIte, Nat.reduceEqDiff, reduceCtorEq, Nat.reduceAdd, *]
    refine callR_pure (i_below_ok (a := wr (xs.getD j 0 + xs.getD (min (j + 1) (xs.length - 1)) 0)) (wr_range _) (.inl rfl)) (.inl rfl) ?_
    simp (disch := first | assumption | omega | rfl | (refine id ?_; simp only [gxD, ne_eq, reduceCtorEq, not_false_eq_true, Nat.reduceAdd, *]; done) | (refine id ?_; simp only [gxD]; omega)) only [↓gxPre, gxPost, ↓reduceIte, Nat.reduceEqDiff, reduceCtorEq, Nat.reduceAdd]
    exact ⟨by simp [oddByF], e⟩
  have ej : atI xs (mirF xs.length j) = xs.getD j 0 := by rw [mir_in (by omega) (by omega)]; simp [atI]
  simp (disch := first | assumption | omega | rfl | (refine id ?_; simp only [gxD, ne_eq, reduceCtorEq, not_false_eq_true, Nat.reduceAdd, *]; done) | (refine id ?_; simp only [gxD]; omega)) only [↓gxPre, gxPost, ↓reduceIte, Nat.reduceEqDiff, reduceCtorEq, Nat.reduceAdd, hk0, hk1]
  refine callR_pure (i_oddBy_1_ok hbb hv' hn (by omega) (by omega) (by omega)) (by first | exact .inl rfl | (simp (disch := first | assumption | omega | rfl | (refine id ?_; simp only [gxD, ne_eq, reduceCtorEq, not_false_eq_true, Nat.reduceAdd, *]; done) | (refine id ?_; simp only [gxD]; omega)) only [↓gxPre, gxPost, ↓reduceIte, Nat.reduceEqDiff, reduceCtorEq, Nat.reduceAdd, *]; done)) ?_
  simp (disch := first | assumption | omega | rfl | (refine id ?_; simp only [gxD, ne_eq, reduceCtorEq, not_false_eq_true, Nat.reduceAdd, *]; done) | (refine id ?_; simp only [gxD]; omega)) only [↓gxPre, gxPost, ↓reduceIte, Nat.reduceEqDiff, reduceCtorEq, Nat.reduceAdd]
  refine callR_pure (i_oddBy_1_ok hbb hv' hn (by omega) (by omega) (by omega)) (by first | exact .inl rfl | (simp (disch := first | assumption | omega | rfl | (refine id ?_; simp only [gxD, ne_eq, reduceCtorEq, not_false_eq_true, Nat.reduceAdd, *]; done) | (refine id ?_; simp only [gxD]; omega)) only [↓gxPre, gxPost, ↓reduceIte, Nat.reduceEqDiff, reduceCtorEq, Nat.reduceAdd, *]; done)) ?_
  simp (disch := first | assumption | omega | rfl | (refine id ?_; simp only [gxD, ne_eq, reduceCtorEq, not_false_eq_true, Nat.reduceAdd, *]; done) | (refine id ?_; simp only [gxD]; omega)) only [↓gxPre, gxPost, ↓reduceIte, Nat.reduceEqDiff, reduceCtorEq, Nat.reduceAdd]
  refine callR_pure (i_oddBy_1_ok hbb hv' hn (by omega) (by omega) (by omega)) (by first | exact .inl rfl | (simp (disch := first | assumption | omega | rfl | (refine id ?_; simp only [gxD, ne_eq, reduceCtorEq, not_false_eq_true, Nat.reduceAdd, *]; done) | (refine id ?_; simp only [gxD]; omega)) only [↓gxPre, gxPost, ↓reduceIte, Nat.reduceEqDiff, reduceCtorEq, Nat.reduceAdd, *]; done)) ?_
  simp (disch := first | assumption | omega | rfl | (refine id ?_; simp only [gxD, ne_eq, reduceCtorEq, not_false_eq_true, Nat.reduceAdd, *]; done) | (refine id ?_; simp only [gxD]; omega)) only [↓gxPre, gxPost, ↓reduceIte, Nat.reduceEqDiff, reduceCtorEq, Nat.reduceAdd]
  refine callR_pure (i_oddBy_1_ok hbb hv' hn (by omega) (by omega) (by omega)) (by first | exact .inl rfl | (simp (disch := first | assumption | omega | rfl | (refine id ?_; simp only [gxD, ne_eq, reduceCtorEq, not_false_eq_true, Nat.reduceAdd, *]; done) | (refine id ?_; simp only [gxD]; omega)) only [↓gxPre, gxPost, ↓reduceIte, Nat.reduceEqDiff, reduceCtorEq, Nat.reduceAdd, *]; done)) ?_
  simp (disch := first | assumption | omega | rfl | (refine id ?_; simp only [gxD, ne_eq, reduceCtorEq, not_false_eq_true, Nat.reduceAdd, *]; done) | (refine id ?_; simp only [gxD]; omega)) only [↓gxPre, gxPost, ↓reduceIte, Nat.reduceEqDiff, reduceCtorEq, Nat.reduceAdd]
  refine callR_pure (i_below_ok (a := wr (wr (wr (9 * wr (atI xs (mirF xs.length j) + atI xs (mirF xs.length (j + 1)))) - wr (atI xs (mirF xs.length (j - 1)) + atI xs (mirF xs.length (j + 2)))) + 8)) (wr_range _) (.inr (.inr rfl))) (.inl rfl) ?_
  simp (disch := first | assumption | omega | rfl | (refine id ?_; simp only [gxD, ne_eq, reduceCtorEq, not_false_eq_true, Nat.reduceAdd, *]; done) | (refine id ?_; simp only [gxD]; omega)) only [↓gxPre, gxPost, ↓reduceIte, Nat.reduceEqDiff, reduceCtorEq, Nat.reduceAdd]
  exact ⟨by simp only [oddByF, if_neg hk0, if_neg hk1, ej], e⟩
theorem s_l02Near_ok {H : Heap} {v : Value} {xs : List Int} {i : Int} (hv : IS H v xs) (hn : xs.length ≤ 2 ^ 40) (h1 : 1 ≤ xs.length) (hi : -(2 ^ 41) ≤ i) (hi' : i ≤ 2 ^ 41) :
    ACalls Try.prog n_s_l02Near [v, .int .i64 i] H fun r H' => r = .int .i64 (xs.getD (max 0 (min ((xs.length : Int) - 1) i)).toNat 0) ∧ H' = H := by
  refine k_s_l02Near.run rfl ?_
  unfold c_s_l02Near
  simp (disch := first | assumption | omega | rfl | (refine id ?_; simp only [gxD, ne_eq, reduceCtorEq, not_false_eq_true, Nat.reduceAdd, *]; done) | (refine id ?_; simp only [gxD]; omega)) only [↓gxPre, gxPost, ↓reduceIte, Nat.reduceEqDiff, reduceCtorEq, Nat.reduceAdd, hv.len, hv.ia, hv.ld]
theorem s_l02Mirror_ok {H : Heap} {n i : Int} (hn : 1 ≤ n) (hn' : n ≤ 2 ^ 40) (hi : -(2 ^ 40) ≤ i) (hi' : i ≤ 2 ^ 41) : ACalls Try.prog n_s_l02Mirror [.int .i64 n, .int .i64 i] H fun r H' => r = .int .i64 (mirF n i) ∧ H' = H := by
  refine k_s_l02Mirror.run rfl ?_
  unfold c_s_l02Mirror
  by_cases h1 : n = 1
  · simp (disch := first | assumption | omega | rfl | (refine id ?_; simp only [gxD, ne_eq, reduceCtorEq, not_false_eq_true, Nat.reduceAdd, *]; done) | (refine id ?_; simp only [gxD]; omega)) only [↓gxPre, gxPost, ↓reduceIte, Nat.reduceEqDiff, reduceCtorEq, Nat.reduceAdd, h1]
    simp [mirF]
  have hm := mir_tmod (n := n) (i := i) (by omega)
  have hb : -(2 * (n - 1)) < i.tmod (2 * (n - 1)) ∧ i.tmod (2 * (n - 1)) < 2 * (n - 1) := by
    have h2 := Int.emod_nonneg i (show 2 * (n - 1) ≠ 0 by omega)
    have h3 := Int.emod_lt_of_pos i (show 0 < 2 * (n - 1) by omega)
    rw [Int.tmod_eq_emod]
    split <;> omega
  have hz : 2 * (n - 1) ≠ 0 := by omega
  by_cases h2 : i.tmod (2 * (n - 1)) < 0
  · simp only [if_pos h2] at hm
    by_cases h3 : n ≤ -(i.tmod (2 * (n - 1)))
    · rw [if_pos h3] at hm
      simp (disch := first | assumption | omega | rfl | (refine id ?_; simp only [gxD, ne_eq, reduceCtorEq, not_false_eq_true, Nat.reduceAdd, *]; done) | (refine id ?_; simp only [gxD]; omega)) only [↓gxPre, gxPost, ↓reduceIte, Nat.reduceEqDiff, reduceCtorEq, Nat.reduceAdd, h1, hz, h2, h3, Int.zero_sub]
      rw [hm]
    · rw [if_neg h3] at hm
      simp (disch := first | assumption | omega | rfl | (refine id ?_; simp only [gxD, ne_eq, reduceCtorEq, not_false_eq_true, Nat.reduceAdd, *]; done) | (refine id ?_; simp only [gxD]; omega)) only [↓gxPre, gxPost, ↓reduceIte, Nat.reduceEqDiff, reduceCtorEq, Nat.reduceAdd, h1, hz, h2, h3, Int.zero_sub]
      rw [hm]
  · simp only [if_neg h2] at hm
    by_cases h3 : n ≤ i.tmod (2 * (n - 1))
    · rw [if_pos h3] at hm
      simp (disch := first | assumption | omega | rfl | (refine id ?_; simp only [gxD, ne_eq, reduceCtorEq, not_false_eq_true, Nat.reduceAdd, *]; done) | (refine id ?_; simp only [gxD]; omega)) only [↓gxPre, gxPost, ↓reduceIte, Nat.reduceEqDiff, reduceCtorEq, Nat.reduceAdd, h1, hz, h2, h3]
      rw [hm]
    · rw [if_neg h3] at hm
      simp (disch := first | assumption | omega | rfl | (refine id ?_; simp only [gxD, ne_eq, reduceCtorEq, not_false_eq_true, Nat.reduceAdd, *]; done) | (refine id ?_; simp only [gxD]; omega)) only [↓gxPre, gxPost, ↓reduceIte, Nat.reduceEqDiff, reduceCtorEq, Nat.reduceAdd, h1, hz, h2, h3]
      rw [hm]
theorem s_l02Mirrored_ok {H : Heap} {v : Value} {xs : List Int} {i : Int} (hv : IS H v xs) (hn : xs.length ≤ 2 ^ 30) (h1 : 1 ≤ xs.length) (hi : -(2 ^ 32) ≤ i) (hi' : i ≤ 2 ^ 32) :
    ACalls Try.prog n_s_l02Mirrored [v, .int .i64 i] H fun r H' => r = .int .i64 (atI xs (mirF xs.length i)) ∧ H' = H := by
  have hr := mir_range (n := xs.length) (i := i) (by omega)
  refine k_s_l02Mirrored.run rfl ?_
  unfold c_s_l02Mirrored
  simp (disch := first | assumption | omega | rfl | (refine id ?_; simp only [gxD, ne_eq, reduceCtorEq, not_false_eq_true, Nat.reduceAdd, *]; done) | (refine id ?_; simp only [gxD]; omega)) only [↓gxPre, gxPost, ↓reduceIte, Nat.reduceEqDiff, reduceCtorEq, Nat.reduceAdd, hv.len]
  refine callR_pure (s_l02Mirror_ok (by omega) (by omega) (by omega) (by omega)) (by first | exact Or.inl rfl | (simp (disch := first | assumption | omega | rfl | (refine id ?_; simp only [gxD, ne_eq, reduceCtorEq, not_false_eq_true, Nat.reduceAdd, *]; done) | (refine id ?_; simp only [gxD]; omega)) only [↓gxPre, gxPost, ↓reduceIte, Nat.reduceEqDiff, reduceCtorEq, Nat.reduceAdd, *]; done)) ?_
  simp (disch := first | assumption | omega | rfl | (refine id ?_; simp only [gxD, ne_eq, reduceCtorEq, not_false_eq_true, Nat.reduceAdd, *]; done) | (refine id ?_; simp only [gxD]; omega)) only [↓gxPre, gxPost, ↓reduceIte, Nat.reduceEqDiff, reduceCtorEq, Nat.reduceAdd, *]
  simp (disch := first | assumption | omega | rfl | (refine id ?_; simp only [gxD, ne_eq, reduceCtorEq, not_false_eq_true, Nat.reduceAdd, *]; done) | (refine id ?_; simp only [gxD]; omega)) only [↓gxPre, gxPost, ↓reduceIte, Nat.reduceEqDiff, reduceCtorEq, Nat.reduceAdd, hv.ia, hv.ld]
  rfl
theorem s_l02Gain_ok {H : Heap} {kind : Int} {v : Value} {xs : List Int} {j : Nat} (hv : IS H v xs) (hn : xs.length ≤ 2 ^ 40) (hj : j ≤ xs.length) (hw : I64 xs) :
    ACalls Try.prog n_s_l02Gain [.int .i64 kind, v, .int .i64 j] H fun r H' => r = .int .i64 (evenByF kind xs j) ∧ H' = H := by
  refine k_s_l02Gain.run rfl ?_
  unfold c_s_l02Gain
  by_cases h0 : xs.length = 0
  · have h0' : (xs.length : Int) = 0 := by omega
    simp (disch := first | assumption | omega | rfl | (refine id ?_; simp only [gxD, ne_eq, reduceCtorEq, not_false_eq_true, Nat.reduceAdd, *]; done) | (refine id ?_; simp only [gxD]; omega)) only [↓gxPre, gxPost, ↓reduceIte, Nat.reduceEqDiff, reduceCtorEq, Nat.reduceAdd, hv.len, h0']
    have : ¬ j < xs.length := by omega
    simp [evenByF, h0]
  have h0' : ¬ (xs.length : Int) = 0 := by omega
  by_cases hk : kind = 0
  · by_cases h1 : j < xs.length
    · simp (disch := first | assumption | omega | rfl | (refine id ?_; simp only [gxD, ne_eq, reduceCtorEq, not_false_eq_true, Nat.reduceAdd, *]; done) | (refine id ?_; simp only [gxD]; omega)) only [↓gxPre, gxPost, ↓reduceIte, Nat.reduceEqDiff, reduceCtorEq, Nat.reduceAdd, hk, h0', hv.len, hv.ia, hv.ld]
      refine callR_pure (s_l02Down_ok (hw j) (.inl rfl)) (by first | exact Or.inl rfl | (simp (disch := first | assumption | omega | rfl | (refine id ?_; simp only [gxD, ne_eq, reduceCtorEq, not_false_eq_true, Nat.reduceAdd, *]; done) | (refine id ?_; simp only [gxD]; omega)) only [↓gxPre, gxPost, ↓reduceIte, Nat.reduceEqDiff, reduceCtorEq, Nat.reduceAdd, *]; done)) ?_
      simp (disch := first | assumption | omega | rfl | (refine id ?_; simp only [gxD, ne_eq, reduceCtorEq, not_false_eq_true, Nat.reduceAdd, *]; done) | (refine id ?_; simp only [gxD]; omega)) only [↓gxPre, gxPost, ↓reduceIte, Nat.reduceEqDiff, reduceCtorEq, Nat.reduceAdd, *]
      simp [evenByF, h1]
    · simp (disch := first | assumption | omega | rfl | (refine id ?_; simp only [gxD, ne_eq, reduceCtorEq, not_false_eq_true, Nat.reduceAdd, *]; done) | (refine id ?_; simp only [gxD]; omega)) only [↓gxPre, gxPost, ↓reduceIte, Nat.reduceEqDiff, reduceCtorEq, Nat.reduceAdd, hk, h0', hv.len]
      simp [evenByF, h1]
  have e : (max 0 (min ((xs.length : Int) - 1) j)).toNat = min j (xs.length - 1) := by omega
  have e2 : (max 0 (min ((xs.length : Int) - 1) ((j : Int) - 1))).toNat = j - 1 := by omega
  simp (disch := first | assumption | omega | rfl | (refine id ?_; simp only [gxD, ne_eq, reduceCtorEq, not_false_eq_true, Nat.reduceAdd, *]; done) | (refine id ?_; simp only [gxD]; omega)) only [↓gxPre, gxPost, ↓reduceIte, Nat.reduceEqDiff, reduceCtorEq, Nat.reduceAdd, hk, hv.len, h0']
  refine callR_pure (s_l02Near_ok hv hn (by omega) (by omega) (by omega)) (.inl rfl) ?_
  simp (disch := first | assumption | omega | rfl | (refine id ?_; simp only [gxD, ne_eq, reduceCtorEq, not_false_eq_true, Nat.reduceAdd, *]; done) | (refine id ?_; simp only [gxD]; omega)) only [↓gxPre, gxPost, ↓reduceIte, Nat.reduceEqDiff, reduceCtorEq, Nat.reduceAdd, e2]
  refine callR_pure (s_l02Near_ok hv hn (by omega) (by omega) (by omega)) (.inl rfl) ?_
  simp (disch := first | assumption | omega | rfl | (refine id ?_; simp only [gxD, ne_eq, reduceCtorEq, not_false_eq_true, Nat.reduceAdd, *]; done) | (refine id ?_; simp only [gxD]; omega)) only [↓gxPre, gxPost, ↓reduceIte, Nat.reduceEqDiff, reduceCtorEq, Nat.reduceAdd, e]
  refine callR_pure (s_l02Down_ok (a := wr (wr (xs.getD (j - 1) 0 + xs.getD (min j (xs.length - 1)) 0) + 2)) (wr_range _) (.inr (.inl rfl))) (.inl rfl) ?_
  simp (disch := first | assumption | omega | rfl | (refine id ?_; simp only [gxD, ne_eq, reduceCtorEq, not_false_eq_true, Nat.reduceAdd, *]; done) | (refine id ?_; simp only [gxD]; omega)) only [↓gxPre, gxPost, ↓reduceIte, Nat.reduceEqDiff, reduceCtorEq, Nat.reduceAdd]
  simp [evenByF, hk, h0]
theorem s_l02Guess_ok {H : Heap} {kind : Int} {v : Value} {xs : List Int} {j : Nat} (hv : IS H v xs) (hn : xs.length ≤ 2 ^ 30) (hj : j < xs.length) (hw : I64 xs) :
    ACalls Try.prog n_s_l02Guess [.int .i64 kind, v, .int .i64 j] H fun r H' => r = .int .i64 (oddByF kind xs j) ∧ H' = H := by
  refine k_s_l02Guess.run rfl ?_
  unfold c_s_l02Guess
  by_cases hk0 : kind = 0
  · simp (disch := first | assumption | omega | rfl | (refine id ?_; simp only [gxD, ne_eq, reduceCtorEq, not_false_eq_true, Nat.reduceAdd, *]; done) | (refine id ?_; simp only [gxD]; omega)) only [↓gxPre, gxPost, ↓reduceIte, Nat.reduceEqDiff, reduceCtorEq, Nat.reduceAdd, hk0, hv.ia, hv.ld]
    simp [oddByF]
  by_cases hk1 : kind = 1
  · have e : (max 0 (min ((xs.length : Int) - 1) ((j : Int) + 1))).toNat = min (j + 1) (xs.length - 1) := by omega
    simp (disch := first | assumption | omega | rfl | (refine id ?_; simp only [gxD, ne_eq, reduceCtorEq, not_false_eq_true, Nat.reduceAdd, *]; done) | (refine id ?_; simp only [gxD]; omega)) only [↓gxPre, gxPost, ↓reduceIte, Nat.reduceEqDiff, reduceCtorEq, Nat.reduceAdd, hk1, hv.ia, hv.ld]
    refine callR_pure (s_l02Near_ok hv (by omega) (by omega) (by omega) (by omega)) (by first | exact .inl rfl | (simp (disch := first | assumption | omega | rfl | (refine id ?_; simp only [gxD, ne_eq, reduceCtorEq, not_false_eq_true, Nat.reduceAdd, *]; done) | (refine id ?_; simp only [gxD]; omega)) only [↓gxPre, gxPost, ↓reduceIte, Nat.reduceEqDiff, reduceCtorEq, Nat.reduceAdd, *, hv.ia, hv.ld]; done)) ?_
    simp (disch := first | assumption | omega | rfl | (refine id ?_; simp only [gxD, ne_eq, reduceCtorEq, not_false_eq_true, Nat.reduceAdd, *]; done) | (refine id ?_; simp only [gxD]; omega)) only [↓gxPre, gxPost, ↓reduceIte, Nat.reduceEqDiff, reduceCtorEq, Nat.reduceAdd, e]
    refine callR_pure (s_l02Down_ok (a := wr (xs.getD j 0 + xs.getD (min (j + 1) (xs.length - 1)) 0)) (wr_range _) (.inl rfl)) (.inl rfl) ?_
    simp (disch := first | assumption | omega | rfl | (refine id ?_; simp only [gxD, ne_eq, reduceCtorEq, not_false_eq_true, Nat.reduceAdd, *]; done) | (refine id ?_; simp only [gxD]; omega)) only [↓gxPre, gxPost, ↓reduceIte, Nat.reduceEqDiff, reduceCtorEq, Nat.reduceAdd]
    simp [oddByF]
  simp (disch := first | assumption | omega | rfl | (refine id ?_; simp only [gxD, ne_eq, reduceCtorEq, not_false_eq_true, Nat.reduceAdd, *]; done) | (refine id ?_; simp only [gxD]; omega)) only [↓gxPre, gxPost, ↓reduceIte, Nat.reduceEqDiff, reduceCtorEq, Nat.reduceAdd, hk0, hk1, hv.ia, hv.ld]
  refine callR_pure (s_l02Mirrored_ok hv hn (by omega) (by omega) (by omega)) (by first | exact .inl rfl | (simp (disch := first | assumption | omega | rfl | (refine id ?_; simp only [gxD, ne_eq, reduceCtorEq, not_false_eq_true, Nat.reduceAdd, *]; done) | (refine id ?_; simp only [gxD]; omega)) only [↓gxPre, gxPost, ↓reduceIte, Nat.reduceEqDiff, reduceCtorEq, Nat.reduceAdd, *, hv.ia, hv.ld]; done)) ?_
  simp (disch := first | assumption | omega | rfl | (refine id ?_; simp only [gxD, ne_eq, reduceCtorEq, not_false_eq_true, Nat.reduceAdd, *]; done) | (refine id ?_; simp only [gxD]; omega)) only [↓gxPre, gxPost, ↓reduceIte, Nat.reduceEqDiff, reduceCtorEq, Nat.reduceAdd, hv.ia, hv.ld]
  refine callR_pure (s_l02Mirrored_ok hv hn (by omega) (by omega) (by omega)) (by first | exact .inl rfl | (simp (disch := first | assumption | omega | rfl | (refine id ?_; simp only [gxD, ne_eq, reduceCtorEq, not_false_eq_true, Nat.reduceAdd, *]; done) | (refine id ?_; simp only [gxD]; omega)) only [↓gxPre, gxPost, ↓reduceIte, Nat.reduceEqDiff, reduceCtorEq, Nat.reduceAdd, *, hv.ia, hv.ld]; done)) ?_
  simp (disch := first | assumption | omega | rfl | (refine id ?_; simp only [gxD, ne_eq, reduceCtorEq, not_false_eq_true, Nat.reduceAdd, *]; done) | (refine id ?_; simp only [gxD]; omega)) only [↓gxPre, gxPost, ↓reduceIte, Nat.reduceEqDiff, reduceCtorEq, Nat.reduceAdd]
  refine callR_pure (s_l02Mirrored_ok hv hn (by omega) (by omega) (by omega)) (by first | exact .inl rfl | (simp (disch := first | assumption | omega | rfl | (refine id ?_; simp only [gxD, ne_eq, reduceCtorEq, not_false_eq_true, Nat.reduceAdd, *]; done) | (refine id ?_; simp only [gxD]; omega)) only [↓gxPre, gxPost, ↓reduceIte, Nat.reduceEqDiff, reduceCtorEq, Nat.reduceAdd, *, hv.ia, hv.ld]; done)) ?_
  simp (disch := first | assumption | omega | rfl | (refine id ?_; simp only [gxD, ne_eq, reduceCtorEq, not_false_eq_true, Nat.reduceAdd, *]; done) | (refine id ?_; simp only [gxD]; omega)) only [↓gxPre, gxPost, ↓reduceIte, Nat.reduceEqDiff, reduceCtorEq, Nat.reduceAdd]
  refine callR_pure (s_l02Down_ok (a := wr (wr (wr (9 * wr (xs.getD j 0 + atI xs (mirF xs.length (j + 1)))) - wr (atI xs (mirF xs.length (j - 1)) + atI xs (mirF xs.length (j + 2)))) + 8)) (wr_range _) (.inr (.inr rfl))) (.inl rfl) ?_
  simp (disch := first | assumption | omega | rfl | (refine id ?_; simp only [gxD, ne_eq, reduceCtorEq, not_false_eq_true, Nat.reduceAdd, *]; done) | (refine id ?_; simp only [gxD]; omega)) only [↓gxPre, gxPost, ↓reduceIte, Nat.reduceEqDiff, reduceCtorEq, Nat.reduceAdd]
  simp only [oddByF, if_neg hk0, if_neg hk1]
end Go.Proofs.Ytkojmlpaamdhoae
