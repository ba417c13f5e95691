/- Sizes of bands; flat bands; energies of bands. -/
import Derived.Test.YtkojmlpaamdhoaeCoarseOfL
namespace Go.Proofs.Ytkojmlpaamdhoae
open Go.Gx
set_option maxRecDepth 100000
set_option linter.unusedSimpArgs false
set_option linter.unusedVariables false

def sizeL (xss : List (List Nat)) (i : Nat) : List Nat := (List.range i).map fun j => (xss.getD j []).length
theorem sizeL_length (xss : List (List Nat)) (i : Nat) : (sizeL xss i).length = i := by simp [sizeL]
theorem sizeL_succ (xss : List (List Nat)) (i : Nat) : sizeL xss (i + 1) = sizeL xss i ++ [(xss.getD i []).length] := by simp [sizeL, List.range_succ]
theorem sizeL_all (xss : List (List Nat)) : sizeL xss xss.length = xss.map List.length := by
  refine list_ext_getD 0 (by simp [sizeL]) fun j hj => ?_
  have hj' : j < xss.length := by simpa [sizeL] using hj
  rw [sizeL, getD_range_map hj']
  simp [List.getD_eq_getElem?_getD, hj']
theorem flat_len (xss : List (List Nat)) : ∀ t, t ≤ xss.length → (flatF xss t).length + offN xss (xss.length - t) = offN xss xss.length
  | 0, _ => by simp [flatF, foldI_zero]
  | t + 1, h => by
    have ih := flat_len xss t (by omega)
    have e : xss.length - t = (xss.length - (t + 1)) + 1 := by omega
    rw [e, offN_succ (by omega)] at ih
    have e2 : xss.length - 1 - t = xss.length - (t + 1) := by omega
    simp only [flatF, foldI_succ, List.length_append, e2] at ih ⊢
    omega
theorem flatF_succ (xss : List (List Nat)) (t : Nat) : flatF xss (t + 1) = flatF xss t ++ xss.getD (xss.length - 1 - t) [] := rfl
theorem size_fit {sz : List Nat} {k : Nat} (hk : k < sz.length) (h1 : 1 ≤ sufS sz (k + 1)) : (decide (1 ≤ sz.getD k 0) && fitF (sufS sz (k + 1)) (sz.getD k 0)) = sizeAt sz k := by
  have hs := sufS_succ hk
  rw [Bool.eq_iff_iff]
  simp only [sizeAt, fitF, Bool.and_eq_true, Bool.or_eq_true, decide_eq_true_eq]
  omega
theorem i_sizesOf_ok {H : Heap} {v : Value} {xss : List (List Nat)} (hv : SS H v xss) (hm : totL xss ≤ 2 ^ 40) :
    ACalls Try.prog n_i_sizesOf_float32_ [v] H fun r H' => Ext H H' ∧ r = .slice (some ⟨H.n, 0, none⟩) xss.length xss.length ∧ H.n < H'.n ∧ H'.blk H.n = some ⟨true, t_int, (castL (xss.map List.length)).map iv⟩ := by
  have hnx : xss.length ≤ 2 ^ 40 := by unfold totL at hm; omega
  obtain ⟨us, hu, hul, hus⟩ := hv
  refine k_i_sizesOf_float32_.run rfl ?_
  unfold c_i_sizesOf_float32_
  simp (disch := first | assumption | omega | rfl | (refine id ?_; simp only [gxD, ne_eq, reduceCtorEq, not_false_eq_true, Nat.reduceAdd, *]; done) | (refine id ?_; simp only [gxD]; omega)) only [↓gxPre, gxPost, ↓reduceIte, Nat.reduceEqDiff, reduceCtorEq, Nat.reduceAdd, hu.len, hul]
  refine loop_forH xss.length (fun i => [.slice (some ⟨H.n, 0, none⟩) i i, v, .int .i64 xss.length, .int .i64 i])
    (fun i G => H.n + 1 ≤ G.n ∧ Ext H G ∧ G.blk H.n = some ⟨true, t_int, (castL (sizeL xss i)).map iv⟩) rfl ⟨by simp only [new_n]; omega, ⟨by first | omega | (simp only [new_n, put_n]; omega) | (simp only [new_n, put_n] at *; omega), fun i hi => by simp (disch := first | assumption | omega | rfl | (refine id ?_; simp only [gxD, ne_eq, reduceCtorEq, not_false_eq_true, Nat.reduceAdd, *]; done) | (refine id ?_; simp only [gxD]; omega)) only [↓gxPre, gxPost, ↓reduceIte, Nat.reduceEqDiff, reduceCtorEq, Nat.reduceAdd, *]⟩, by simp (disch := first | assumption | omega | rfl | (refine id ?_; simp only [gxD, ne_eq, reduceCtorEq, not_false_eq_true, Nat.reduceAdd, *]; done) | (refine id ?_; simp only [gxD]; omega)) only [↓gxPre, gxPost, ↓reduceIte, Nat.reduceEqDiff, reduceCtorEq, Nat.reduceAdd]; rfl⟩ ?_ ?_
  · rintro G ⟨hG, hE, hc⟩
    simp (disch := first | assumption | omega | rfl | (refine id ?_; simp only [gxD, ne_eq, reduceCtorEq, not_false_eq_true, Nat.reduceAdd, *]; done) | (refine id ?_; simp only [gxD]; omega)) only [↓gxPre, gxPost, ↓reduceIte, Nat.reduceEqDiff, reduceCtorEq, Nat.reduceAdd, Int.lt_irrefl]
    rw [sizeL_all] at hc
    exact ⟨hE, hG, hc⟩
  · rintro i G hi ⟨hG, hE, hc⟩
    have hu' := hu.ext hE
    have ht : ((castL (sizeL xss i)).map iv).length = i := by rw [lMapI, castL_length, sizeL_length]
    have hm5 : (castL (sizeL xss i)).map iv ++ [.int .i64 ((xss.getD i []).length : Int)] = (castL (sizeL xss (i + 1))).map iv := by rw [castL_snoc, sizeL_succ]
    obtain ⟨f1, f2, f3, f4⟩ := push_at hE hc (Nat.le_refl _) (by omega) hm5
    simp (disch := first | assumption | omega | rfl | (refine id ?_; simp only [gxD, ne_eq, reduceCtorEq, not_false_eq_true, Nat.reduceAdd, *]; done) | (refine id ?_; simp only [gxD]; omega)) only [↓gxPre, gxPost, ↓reduceIte, Nat.reduceEqDiff, reduceCtorEq, Nat.reduceAdd, hu'.ia, hu'.ldD, hul, (hus i hi).len, hc]
    exact ⟨by simp, by omega, f1, by rw [hm5]⟩
theorem i_areSizes_ok {H : Heap} {v : Value} {sz : List Nat} (hv : IS H v (castL sz)) (hn : sz.length ≤ 2 ^ 40) (hs : ∀ j, sz.getD j 0 ≤ 2 ^ 40) (ht : sufS sz 0 ≤ 2 ^ 40) :
    ACalls Try.prog n_i_areSizes [v] H fun r H' => r = .bool (sizesF sz) ∧ H' = H := by
  have hcl := castL_length sz
  refine k_i_areSizes.run rfl ?_
  unfold c_i_areSizes
  simp (disch := first | assumption | omega | rfl | (refine id ?_; simp only [gxD, ne_eq, reduceCtorEq, not_false_eq_true, Nat.reduceAdd, *]; done) | (refine id ?_; simp only [gxD]; omega)) only [↓gxPre, gxPost, ↓reduceIte, Nat.reduceEqDiff, reduceCtorEq, Nat.reduceAdd, hv.len, castL_length]
  refine callR_pure (i_within_ok) (by first | exact Or.inl rfl | (simp (disch := first | assumption | omega | rfl | (refine id ?_; simp only [gxD, ne_eq, reduceCtorEq, not_false_eq_true, Nat.reduceAdd, *]; done) | (refine id ?_; simp only [gxD]; omega)) only [↓gxPre, gxPost, ↓reduceIte, Nat.reduceEqDiff, reduceCtorEq, Nat.reduceAdd, *]; done)) ?_
  simp (disch := first | assumption | omega | rfl | (refine id ?_; simp only [gxD, ne_eq, reduceCtorEq, not_false_eq_true, Nat.reduceAdd, *]; done) | (refine id ?_; simp only [gxD]; omega)) only [↓gxPre, gxPost, ↓reduceIte, Nat.reduceEqDiff, reduceCtorEq, Nat.reduceAdd, *]
  have hw : within ((sz.length : Int) - 1) 0 6 = within sz.length 1 7 := by
    rw [Bool.eq_iff_iff, within_true, within_true]; omega
  simp only [hw]
  cases h1 : within sz.length 1 7
  · simp (disch := first | assumption | omega | rfl | (refine id ?_; simp only [gxD, ne_eq, reduceCtorEq, not_false_eq_true, Nat.reduceAdd, *]; done) | (refine id ?_; simp only [gxD]; omega)) only [↓gxPre, gxPost, ↓reduceIte, Nat.reduceEqDiff, reduceCtorEq, Nat.reduceAdd]
    simp only [sizesF, h1, Bool.false_and]
  have h1' := within_true.1 h1
  have e1 : ((sz.length : Int) - 1).toNat = sz.length - 1 := by omega
  by_cases c1 : 1 ≤ sz.getD (sz.length - 1) 0
  rotate_left
  · have c1' : ((sz.getD (sz.length - 1) 0 : Nat) : Int) < 1 := by omega
    simp (disch := first | assumption | omega | rfl | (refine id ?_; simp only [gxD, ne_eq, reduceCtorEq, not_false_eq_true, Nat.reduceAdd, *]; done) | (refine id ?_; simp only [gxD]; omega)) only [↓gxPre, gxPost, ↓reduceIte, Nat.reduceEqDiff, reduceCtorEq, Nat.reduceAdd, hv.ia, hv.ld, castL_getD, e1, c1']
    simp only [sizesF, decide_eq_false c1, Bool.and_false, Bool.false_and]
  have c1' : ¬ ((sz.getD (sz.length - 1) 0 : Nat) : Int) < 1 := by omega
  have hs1 := hs (sz.length - 1)
  by_cases c2 : (sz.length : Int) - 1 = 0
  · have hz : sz.length - 1 = 0 := by omega
    have c1z : ¬ ((sz.getD 0 0 : Nat) : Int) < 1 := by rw [hz] at c1'; exact c1'
    by_cases c3 : sz.getD 0 0 = 1
    rotate_left
    · have c3' : ¬ ((sz.getD 0 0 : Nat) : Int) = 1 := by omega
      simp (disch := first | assumption | omega | rfl | (refine id ?_; simp only [gxD, ne_eq, reduceCtorEq, not_false_eq_true, Nat.reduceAdd, *]; done) | (refine id ?_; simp only [gxD]; omega)) only [↓gxPre, gxPost, ↓reduceIte, Nat.reduceEqDiff, reduceCtorEq, Nat.reduceAdd, hv.ia, hv.ld, castL_getD, c1z, c2, c3', Int.reduceToNat, ne_eq, not_false_eq_true]
      have : ¬ 1 < sz.length := by omega
      simp only [sizesF, decide_eq_false this, decide_eq_false c3, Bool.or_false, Bool.and_false, Bool.false_and]
    have c3' : ((sz.getD 0 0 : Nat) : Int) = 1 := by omega
    have hl1 : sz.length = 1 := by omega
    simp (disch := first | assumption | omega | rfl | (refine id ?_; simp only [gxD, ne_eq, reduceCtorEq, not_false_eq_true, Nat.reduceAdd, *]; done) | (refine id ?_; simp only [gxD]; omega)) only [↓gxPre, gxPost, ↓reduceIte, Nat.reduceEqDiff, reduceCtorEq, Nat.reduceAdd, hv.ia, hv.ld, castL_getD, c1z, c2, c3', Int.reduceToNat, ne_eq, not_true]
    refine loop_for 0 (fun i => [v, .int .i64 1, .int .i64 (-1)]) (by simp [hl1]) ?_ ?_
    · simp (disch := first | assumption | omega | rfl | (refine id ?_; simp only [gxD, ne_eq, reduceCtorEq, not_false_eq_true, Nat.reduceAdd, *]; done) | (refine id ?_; simp only [gxD]; omega)) only [↓gxPre, gxPost, ↓reduceIte, Nat.reduceEqDiff, reduceCtorEq, Nat.reduceAdd]
      rw [(sizesF_yes h1 c1 (.inr c3) fun j hj => by omega).1]
    · intro i hi; omega
  have c2' : 1 < sz.length := by omega
  simp (disch := first | assumption | omega | rfl | (refine id ?_; simp only [gxD, ne_eq, reduceCtorEq, not_false_eq_true, Nat.reduceAdd, *]; done) | (refine id ?_; simp only [gxD]; omega)) only [↓gxPre, gxPost, ↓reduceIte, Nat.reduceEqDiff, reduceCtorEq, Nat.reduceAdd, hv.ia, hv.ld, castL_getD, e1, c1', c2]
  refine loop_forH (sz.length - 1) (fun t => [v, .int .i64 ((sufS sz (sz.length - 1 - t) : Nat) : Int), .int .i64 ((sz.length : Int) - 1 - 1 - t)]) (fun t G => G = H ∧ ∀ j, sz.length - 1 - t ≤ j → j < sz.length - 1 → sizeAt sz j = true)
    (by rw [Nat.sub_zero, sufS_last (by omega)]; simp) ⟨rfl, by intros; omega⟩ ?_ ?_
  · rintro _ ⟨rfl, hJ⟩
    have h3 := sizesF_yes h1 c1 (.inl c2') fun j hj => hJ j (by omega) hj
    have e2 : sz.length - 1 - (sz.length - 1) = 0 := by omega
    have h5 : ((sufS sz 0 : Nat) : Int) ≤ 128 := by omega
    simp (disch := first | assumption | omega | rfl | (refine id ?_; simp only [gxD, ne_eq, reduceCtorEq, not_false_eq_true, Nat.reduceAdd, *]; done) | (refine id ?_; simp only [gxD]; omega)) only [↓gxPre, gxPost, ↓reduceIte, Nat.reduceEqDiff, reduceCtorEq, Nat.reduceAdd, e2, h5]
    rw [h3.1]
  · rintro t _ hlt ⟨rfl, hJ⟩
    obtain ⟨k, hk⟩ : ∃ k, sz.length - 1 - t = k + 1 := ⟨sz.length - 2 - t, by omega⟩
    have e2 : ((sz.length : Int) - 1 - 1 - t).toNat = k := by omega
    have hsk := sufS_succ (sz := sz) (i := k) (by omega)
    have hle := sufS_le sz (i := 0) (j := k) (by omega)
    have hk2 : sz.length - 1 - (t + 1) = k := by omega
    have hge : 1 ≤ sufS sz (k + 1) := by
      have := sufS_le sz (i := k + 1) (j := sz.length - 1) (by omega)
      rw [sufS_last (by omega)] at this
      omega
    simp only [hk]
    by_cases d1 : 1 ≤ sz.getD k 0
    rotate_left
    · have d1' : ((sz.getD k 0 : Nat) : Int) < 1 := by omega
      simp (disch := first | assumption | omega | rfl | (refine id ?_; simp only [gxD, ne_eq, reduceCtorEq, not_false_eq_true, Nat.reduceAdd, *]; done) | (refine id ?_; simp only [gxD]; omega)) only [↓gxPre, gxPost, ↓reduceIte, Nat.reduceEqDiff, reduceCtorEq, Nat.reduceAdd, hv.ia, hv.ld, castL_getD, e2, d1']
      rw [sizesF_no (j := k) (by omega) (by simp only [sizeAt, decide_eq_false d1, Bool.false_and])]
    have d1' : ¬ ((sz.getD k 0 : Nat) : Int) < 1 := by omega
    by_cases d2 : sz.getD k 0 = sufS sz (k + 1) ∨ sz.getD k 0 + 1 = sufS sz (k + 1)
    rotate_left
    · have d2' : ¬ ((sz.getD k 0 : Nat) : Int) = (sufS sz (k + 1) : Nat) := by omega
      have d2'' : ¬ ((sz.getD k 0 : Nat) : Int) = (sufS sz (k + 1) : Nat) - 1 := by omega
      simp (disch := first | assumption | omega | rfl | (refine id ?_; simp only [gxD, ne_eq, reduceCtorEq, not_false_eq_true, Nat.reduceAdd, *]; done) | (refine id ?_; simp only [gxD]; omega)) only [↓gxPre, gxPost, ↓reduceIte, Nat.reduceEqDiff, reduceCtorEq, Nat.reduceAdd, hv.ia, hv.ld, castL_getD, e2, d1', d2', d2'', ne_eq, not_false_eq_true]
      rw [sizesF_no (j := k) (by omega) (by simp only [sizeAt, decide_eq_false (fun h => d2 (.inl h)), decide_eq_false (fun h => d2 (.inr h)), Bool.or_false, Bool.and_false, Bool.false_and])]
    have d3 : decide (sz.getD k 0 = sufS sz (k + 1)) = true ∨ decide (sz.getD k 0 + 1 = sufS sz (k + 1)) = true := by simpa using d2
    by_cases d4 : sufS sz k ≤ 128
    rotate_left
    · have d4' : (128 : Int) < (sufS sz (k + 1) : Nat) + (sz.getD k 0 : Nat) := by omega
      have hno : sizesF sz = false := sizesF_no (j := k) (by omega) (by simp only [sizeAt, decide_eq_false d4, Bool.and_false])
      rcases d2 with d2 | d2
      · have d2' : ((sz.getD k 0 : Nat) : Int) = (sufS sz (k + 1) : Nat) := by omega
        simp (disch := first | assumption | omega | rfl | (refine id ?_; simp only [gxD, ne_eq, reduceCtorEq, not_false_eq_true, Nat.reduceAdd, *]; done) | (refine id ?_; simp only [gxD]; omega)) only [↓gxPre, gxPost, ↓reduceIte, Nat.reduceEqDiff, reduceCtorEq, Nat.reduceAdd, hv.ia, hv.ld, castL_getD, e2, d1', decide_eq_true d2', d4', ne_eq, not_true]
        rw [hno]
      · have d2' : ¬ ((sz.getD k 0 : Nat) : Int) = (sufS sz (k + 1) : Nat) := by omega
        have d2'' : ((sz.getD k 0 : Nat) : Int) = (sufS sz (k + 1) : Nat) - 1 := by omega
        simp (disch := first | assumption | omega | rfl | (refine id ?_; simp only [gxD, ne_eq, reduceCtorEq, not_false_eq_true, Nat.reduceAdd, *]; done) | (refine id ?_; simp only [gxD]; omega)) only [↓gxPre, gxPost, ↓reduceIte, Nat.reduceEqDiff, reduceCtorEq, Nat.reduceAdd, hv.ia, hv.ld, castL_getD, e2, d1', d2', d2'', d4', ne_eq, not_true, not_false_eq_true]
        rw [hno]
    have d4' : ¬ (128 : Int) < (sufS sz (k + 1) : Nat) + (sz.getD k 0 : Nat) := by omega
    have hyes : sizeAt sz k = true := by
      simp only [sizeAt, decide_eq_true d1, decide_eq_true d4, Bool.and_true, Bool.true_and, Bool.or_eq_true]
      exact d3
    have hJ' : ∀ j, sz.length - 1 - (t + 1) ≤ j → j < sz.length - 1 → sizeAt sz j = true := fun j h1 h2 => by
      by_cases hjk : j = k
      · rw [hjk]; exact hyes
      · exact hJ j (by omega) h2
    have hst : ((sufS sz (k + 1) : Nat) : Int) + (sz.getD k 0 : Nat) = (sufS sz k : Nat) := by omega
    rcases d2 with d2 | d2
    · have d2' : ((sz.getD k 0 : Nat) : Int) = (sufS sz (k + 1) : Nat) := by omega
      simp (disch := first | assumption | omega | rfl | (refine id ?_; simp only [gxD, ne_eq, reduceCtorEq, not_false_eq_true, Nat.reduceAdd, *]; done) | (refine id ?_; simp only [gxD]; omega)) only [↓gxPre, gxPost, ↓reduceIte, Nat.reduceEqDiff, reduceCtorEq, Nat.reduceAdd, hv.ia, hv.ld, castL_getD, e2, d1', decide_eq_true d2', d4', ne_eq, not_true]
      refine ⟨?_, hJ'⟩
      rw [hk2, hst]
      simp; omega
    · have d2' : ¬ ((sz.getD k 0 : Nat) : Int) = (sufS sz (k + 1) : Nat) := by omega
      have d2'' : ((sz.getD k 0 : Nat) : Int) = (sufS sz (k + 1) : Nat) - 1 := by omega
      simp (disch := first | assumption | omega | rfl | (refine id ?_; simp only [gxD, ne_eq, reduceCtorEq, not_false_eq_true, Nat.reduceAdd, *]; done) | (refine id ?_; simp only [gxD]; omega)) only [↓gxPre, gxPost, ↓reduceIte, Nat.reduceEqDiff, reduceCtorEq, Nat.reduceAdd, hv.ia, hv.ld, castL_getD, e2, d1', d2', d2'', d4', ne_eq, not_true, not_false_eq_true]
      refine ⟨?_, hJ'⟩
      have e5 : ((sufS sz (k + 1) : Nat) : Int) + ((sufS sz (k + 1) : Nat) - 1) = (sufS sz k : Nat) := by omega
      rw [hk2, e5]
      simp; omega
theorem sizes_le {xss : List (List Nat)} (hm : totL xss ≤ 2 ^ 40) (j : Nat) : (xss.map List.length).getD j 0 ≤ 2 ^ 40 := by
  by_cases hj : j < xss.length
  · have := totL_row hm j
    simpa [List.getD_eq_getElem?_getD, hj] using this
  · simp [List.getD_eq_getElem?_getD, List.getElem?_eq_none (Nat.le_of_not_lt hj)]
theorem sizes_sum (xss : List (List Nat)) (hm : totL xss ≤ 2 ^ 40) : sufS (xss.map List.length) 0 ≤ 2 ^ 40 := by
  have : sufS (xss.map List.length) 0 = offN xss xss.length := by simp [sufS, offN]
  rw [this]
  unfold totL at hm
  omega
theorem i_AreBands_ok {H : Heap} {v : Value} {xss : List (List Nat)} (hv : SS H v xss) (hm : totL xss ≤ 2 ^ 40) :
    ACalls Try.prog n_i_AreBands [v] H fun r H' => r = .bool (bandsF xss) ∧ Ext H H' := by
  have hnx : xss.length ≤ 2 ^ 40 := by unfold totL at hm; omega
  refine k_i_AreBands.run rfl ?_
  unfold c_i_AreBands
  simp (disch := first | assumption | omega | rfl | (refine id ?_; simp only [gxD, ne_eq, reduceCtorEq, not_false_eq_true, Nat.reduceAdd, *]; done) | (refine id ?_; simp only [gxD]; omega)) only [↓gxPre, gxPost, ↓reduceIte, Nat.reduceEqDiff, reduceCtorEq, Nat.reduceAdd]
  refine callR_of (i_sizesOf_ok hv hm) ?_
  rintro _ G ⟨e, rfl, n1, c1⟩
  simp (disch := first | assumption | omega | rfl | (refine id ?_; simp only [gxD, ne_eq, reduceCtorEq, not_false_eq_true, Nat.reduceAdd, *]; done) | (refine id ?_; simp only [gxD]; omega)) only [↓gxPre, gxPost, ↓reduceIte, Nat.reduceEqDiff, reduceCtorEq, Nat.reduceAdd]
  refine callR_pure (i_areSizes_ok (IS.own c1 n1 (by simp [castL])) (by simpa using hnx) (sizes_le hm) (sizes_sum xss hm)) (.inl rfl) ?_
  cases h : sizesF (xss.map List.length)
  · simp (disch := first | assumption | omega | rfl | (refine id ?_; simp only [gxD, ne_eq, reduceCtorEq, not_false_eq_true, Nat.reduceAdd, *]; done) | (refine id ?_; simp only [gxD]; omega)) only [↓gxPre, gxPost, ↓reduceIte, Nat.reduceEqDiff, reduceCtorEq, Nat.reduceAdd]
    exact ⟨by simp only [bandsF, h, Bool.false_and], e⟩
  simp (disch := first | assumption | omega | rfl | (refine id ?_; simp only [gxD, ne_eq, reduceCtorEq, not_false_eq_true, Nat.reduceAdd, *]; done) | (refine id ?_; simp only [gxD]; omega)) only [↓gxPre, gxPost, ↓reduceIte, Nat.reduceEqDiff, reduceCtorEq, Nat.reduceAdd]
  refine callR_pure (i_areFinite_ok (hv.ext e) hnx fun j _ => totL_row hm j) (.inl rfl) ?_
  simp (disch := first | assumption | omega | rfl | (refine id ?_; simp only [gxD, ne_eq, reduceCtorEq, not_false_eq_true, Nat.reduceAdd, *]; done) | (refine id ?_; simp only [gxD]; omega)) only [↓gxPre, gxPost, ↓reduceIte, Nat.reduceEqDiff, reduceCtorEq, Nat.reduceAdd]
  exact ⟨by simp only [bandsF, h, Bool.true_and], e⟩
end Go.Proofs.Ytkojmlpaamdhoae
