/- Valid bands; rows of frames; ridges. -/
import Derived.Test.YtkojmlpaamdhoabRidgeOfH
namespace Go.Proofs.Ytkojmlpaamdhoab
open Go.Gx
set_option maxRecDepth 100000
set_option linter.unusedSimpArgs false
set_option linter.unusedVariables false

theorem i_areRows_ok {H : Heap} {v : Value} {xss : List (List Nat)} {most : Int} (hu0 : SS H v xss) (hm : totL xss ≤ 2 ^ 40) :
    ACalls Try.prog n_i_areRows [v, .int .i64 most] H fun r H' => r = .bool (rowsF xss most) ∧ H' = H := by
  obtain ⟨us, hu, hul, hus⟩ := hu0
  have hu0 : SS H v xss := ⟨us, hu, hul, hus⟩
  have hny : xss.length ≤ 2 ^ 40 := by unfold totL at hm; omega
  refine k_i_areRows.run rfl ?_
  unfold c_i_areRows
  simp (disch := first | assumption | omega | rfl | (refine id ?_; simp only [gxD, ne_eq, reduceCtorEq, not_false_eq_true, Nat.reduceAdd, *]; done) | (refine id ?_; simp only [gxD]; omega)) only [↓gxPre, gxPost, ↓reduceIte, Nat.reduceEqDiff, reduceCtorEq, Nat.reduceAdd, hu.len, hul]
  refine callR_pure (i_within_ok) (by first | exact Or.inl rfl | (simp (disch := first | assumption | omega | rfl | (refine id ?_; simp only [gxD, ne_eq, reduceCtorEq, not_false_eq_true, Nat.reduceAdd, *]; done) | (refine id ?_; simp only [gxD]; omega)) only [↓gxPre, gxPost, ↓reduceIte, Nat.reduceEqDiff, reduceCtorEq, Nat.reduceAdd, *]; done)) ?_
  simp (disch := first | assumption | omega | rfl | (refine id ?_; simp only [gxD, ne_eq, reduceCtorEq, not_false_eq_true, Nat.reduceAdd, *]; done) | (refine id ?_; simp only [gxD]; omega)) only [↓gxPre, gxPost, ↓reduceIte, Nat.reduceEqDiff, reduceCtorEq, Nat.reduceAdd, *]
  cases h1 : within xss.length 1 most
  · simp (disch := first | assumption | omega | rfl | (refine id ?_; simp only [gxD, ne_eq, reduceCtorEq, not_false_eq_true, Nat.reduceAdd, *]; done) | (refine id ?_; simp only [gxD]; omega)) only [↓gxPre, gxPost, ↓reduceIte, Nat.reduceEqDiff, reduceCtorEq, Nat.reduceAdd]
    simp only [rowsF, h1, Bool.false_and]
  have h1' := within_true.1 h1
  simp (disch := first | assumption | omega | rfl | (refine id ?_; simp only [gxD, ne_eq, reduceCtorEq, not_false_eq_true, Nat.reduceAdd, *]; done) | (refine id ?_; simp only [gxD]; omega)) only [↓gxPre, gxPost, ↓reduceIte, Nat.reduceEqDiff, reduceCtorEq, Nat.reduceAdd]
  refine callR_pure (i_areFinite_ok hu0 hny fun j _ => totL_row hm j) (.inl rfl) ?_
  cases h3 : (xss.all fun ys => ys.all finF)
  · simp (disch := first | assumption | omega | rfl | (refine id ?_; simp only [gxD, ne_eq, reduceCtorEq, not_false_eq_true, Nat.reduceAdd, *]; done) | (refine id ?_; simp only [gxD]; omega)) only [↓gxPre, gxPost, ↓reduceIte, Nat.reduceEqDiff, reduceCtorEq, Nat.reduceAdd]
    have : ∃ j, j < xss.length ∧ (xss.getD j []).all finF = false := by
      apply Classical.byContradiction
      intro hno
      rw [(allD []).2 fun j hj => by
        cases hf : (xss.getD j []).all finF
        · exact absurd ⟨j, hj, hf⟩ hno
        · rfl] at h3
      cases h3
    obtain ⟨j, hj, hf⟩ := this
    rw [rows_no hj (by simp only [isLongF, hf, Bool.and_false, Bool.false_and])]
  simp (disch := first | assumption | omega | rfl | (refine id ?_; simp only [gxD, ne_eq, reduceCtorEq, not_false_eq_true, Nat.reduceAdd, *]; done) | (refine id ?_; simp only [gxD]; omega)) only [↓gxPre, gxPost, ↓reduceIte, Nat.reduceEqDiff, reduceCtorEq, Nat.reduceAdd, hu.len, hul]
  refine loop_forH xss.length (fun i => [v, v, .int .i64 xss.length, .int .i64 i]) (fun i G' => H = G' ∧ ∀ j, j < i → (isLongF (xss.getD j []) && decide ((xss.getD j []).length = (xss.getD 0 []).length)) = true) rfl ⟨rfl, by intros; omega⟩ ?_ ?_
  · rintro _ ⟨rfl, hJ⟩
    simp (disch := first | assumption | omega | rfl | (refine id ?_; simp only [gxD, ne_eq, reduceCtorEq, not_false_eq_true, Nat.reduceAdd, *]; done) | (refine id ?_; simp only [gxD]; omega)) only [↓gxPre, gxPost, ↓reduceIte, Nat.reduceEqDiff, reduceCtorEq, Nat.reduceAdd, Int.lt_irrefl]
    simp only [rowsF, h1, allR.2 hJ, Bool.and_true]
  · rintro i _ hi ⟨rfl, hJ⟩
    have hfi : (xss.getD i []).all finF = true := (allD []).1 h3 i hi
    by_cases c1 : (xss.getD i []).length = (xss.getD 0 []).length
    · have c1' : ((xss.getD i []).length : Int) = (xss.getD 0 []).length := by omega
      simp (disch := first | assumption | omega | rfl | (refine id ?_; simp only [gxD, ne_eq, reduceCtorEq, not_false_eq_true, Nat.reduceAdd, *]; done) | (refine id ?_; simp only [gxD]; omega)) only [↓gxPre, gxPost, ↓reduceIte, Nat.reduceEqDiff, reduceCtorEq, Nat.reduceAdd, hu.ia, hu.ldD, hul, (hus i hi).len, (hus 0 (by omega)).len, c1', ne_eq, not_true, Int.reduceToNat]
      refine callR_pure (i_within_ok) (by first | exact Or.inl rfl | (simp (disch := first | assumption | omega | rfl | (refine id ?_; simp only [gxD, ne_eq, reduceCtorEq, not_false_eq_true, Nat.reduceAdd, *]; done) | (refine id ?_; simp only [gxD]; omega)) only [↓gxPre, gxPost, ↓reduceIte, Nat.reduceEqDiff, reduceCtorEq, Nat.reduceAdd, *]; done)) ?_
      simp (disch := first | assumption | omega | rfl | (refine id ?_; simp only [gxD, ne_eq, reduceCtorEq, not_false_eq_true, Nat.reduceAdd, *]; done) | (refine id ?_; simp only [gxD]; omega)) only [↓gxPre, gxPost, ↓reduceIte, Nat.reduceEqDiff, reduceCtorEq, Nat.reduceAdd, *]
      cases h4 : within ((xss.getD 0 []).length) 1 128
      · simp (disch := first | assumption | omega | rfl | (refine id ?_; simp only [gxD, ne_eq, reduceCtorEq, not_false_eq_true, Nat.reduceAdd, *]; done) | (refine id ?_; simp only [gxD]; omega)) only [↓gxPre, gxPost, ↓reduceIte, Nat.reduceEqDiff, reduceCtorEq, Nat.reduceAdd]
        rw [rows_no hi (by simp only [isLongF, c1, h4, Bool.false_and])]
      · simp (disch := first | assumption | omega | rfl | (refine id ?_; simp only [gxD, ne_eq, reduceCtorEq, not_false_eq_true, Nat.reduceAdd, *]; done) | (refine id ?_; simp only [gxD]; omega)) only [↓gxPre, gxPost, ↓reduceIte, Nat.reduceEqDiff, reduceCtorEq, Nat.reduceAdd]
        refine ⟨by simp, Nat.forall_lt_succ_right.2 ⟨hJ, ?_⟩⟩
        simp only [isLongF, c1, h4, hfi, decide_true, Bool.and_true]
    · have c1' : ¬ ((xss.getD i []).length : Int) = (xss.getD 0 []).length := by omega
      simp (disch := first | assumption | omega | rfl | (refine id ?_; simp only [gxD, ne_eq, reduceCtorEq, not_false_eq_true, Nat.reduceAdd, *]; done) | (refine id ?_; simp only [gxD]; omega)) only [↓gxPre, gxPost, ↓reduceIte, Nat.reduceEqDiff, reduceCtorEq, Nat.reduceAdd, hu.ia, hu.ldD, hul, (hus i hi).len, (hus 0 (by omega)).len, c1', ne_eq, not_false_eq_true, Int.reduceToNat]
      rw [rows_no hi (by simp only [decide_eq_false c1, Bool.and_false])]
theorem s_l03Rows_ok {H : Heap} {v : Value} {xss : List (List Nat)} {most : Int} (hu0 : SS H v xss) (hm : totL xss ≤ 2 ^ 40) :
    ACalls Try.prog n_s_l03Rows [v, .int .i64 most] H fun r H' => r = .bool (rowsF xss most) ∧ H' = H := by
  obtain ⟨us, hu, hul, hus⟩ := hu0
  have hny : xss.length ≤ 2 ^ 40 := by unfold totL at hm; omega
  refine k_s_l03Rows.run rfl ?_
  unfold c_s_l03Rows
  by_cases h0 : (xss.length : Int) < 1
  · simp (disch := first | assumption | omega | rfl | (refine id ?_; simp only [gxD, ne_eq, reduceCtorEq, not_false_eq_true, Nat.reduceAdd, *]; done) | (refine id ?_; simp only [gxD]; omega)) only [↓gxPre, gxPost, ↓reduceIte, Nat.reduceEqDiff, reduceCtorEq, Nat.reduceAdd, hu.len, hul]
    have : within xss.length 1 most = false := by simp [within]; omega
    simp only [rowsF, this, Bool.false_and]
  by_cases h6 : most < xss.length
  · simp (disch := first | assumption | omega | rfl | (refine id ?_; simp only [gxD, ne_eq, reduceCtorEq, not_false_eq_true, Nat.reduceAdd, *]; done) | (refine id ?_; simp only [gxD]; omega)) only [↓gxPre, gxPost, ↓reduceIte, Nat.reduceEqDiff, reduceCtorEq, Nat.reduceAdd, hu.len, hul]
    have : within xss.length 1 most = false := by simp [within]; omega
    simp only [rowsF, this, Bool.false_and]
  have h1 : within xss.length 1 most = true := within_true.2 ⟨by omega, by omega⟩
  simp (disch := first | assumption | omega | rfl | (refine id ?_; simp only [gxD, ne_eq, reduceCtorEq, not_false_eq_true, Nat.reduceAdd, *]; done) | (refine id ?_; simp only [gxD]; omega)) only [↓gxPre, gxPost, ↓reduceIte, Nat.reduceEqDiff, reduceCtorEq, Nat.reduceAdd, hu.len, hul]
  refine loop_forH xss.length (fun i => [v, .int .i64 xss.length, .int .i64 i]) (fun i G' => H = G' ∧ ∀ j, j < i → (isLongF (xss.getD j []) && decide ((xss.getD j []).length = (xss.getD 0 []).length)) = true) rfl ⟨rfl, by intros; omega⟩ ?_ ?_
  · rintro _ ⟨rfl, hJ⟩
    simp (disch := first | assumption | omega | rfl | (refine id ?_; simp only [gxD, ne_eq, reduceCtorEq, not_false_eq_true, Nat.reduceAdd, *]; done) | (refine id ?_; simp only [gxD]; omega)) only [↓gxPre, gxPost, ↓reduceIte, Nat.reduceEqDiff, reduceCtorEq, Nat.reduceAdd, Int.lt_irrefl]
    simp only [rowsF, h1, allR.2 hJ, Bool.and_true]
  · rintro i _ hi ⟨rfl, hJ⟩
    simp (disch := first | assumption | omega | rfl | (refine id ?_; simp only [gxD, ne_eq, reduceCtorEq, not_false_eq_true, Nat.reduceAdd, *]; done) | (refine id ?_; simp only [gxD]; omega)) only [↓gxPre, gxPost, ↓reduceIte, Nat.reduceEqDiff, reduceCtorEq, Nat.reduceAdd, hu.ia, hu.ldD, hul]
    refine callR_pure (s_l03Long_ok (hus i hi) (totL_row hm i)) (.inl rfl) ?_
    cases h4 : isLongF (xss.getD i [])
    · simp (disch := first | assumption | omega | rfl | (refine id ?_; simp only [gxD, ne_eq, reduceCtorEq, not_false_eq_true, Nat.reduceAdd, *]; done) | (refine id ?_; simp only [gxD]; omega)) only [↓gxPre, gxPost, ↓reduceIte, Nat.reduceEqDiff, reduceCtorEq, Nat.reduceAdd]
      rw [rows_no hi (by simp only [h4, Bool.false_and])]
    by_cases c1 : (xss.getD i []).length = (xss.getD 0 []).length
    · have c1' : ((xss.getD i []).length : Int) = (xss.getD 0 []).length := by omega
      simp (disch := first | assumption | omega | rfl | (refine id ?_; simp only [gxD, ne_eq, reduceCtorEq, not_false_eq_true, Nat.reduceAdd, *]; done) | (refine id ?_; simp only [gxD]; omega)) only [↓gxPre, gxPost, ↓reduceIte, Nat.reduceEqDiff, reduceCtorEq, Nat.reduceAdd, hu.ia, hu.ldD, hul, (hus i hi).len, (hus 0 (by omega)).len, c1', ne_eq, not_true, Int.reduceToNat]
      refine ⟨by simp, Nat.forall_lt_succ_right.2 ⟨hJ, ?_⟩⟩
      simp only [h4, c1, decide_true, Bool.and_true]
    · have c1' : ¬ ((xss.getD i []).length : Int) = (xss.getD 0 []).length := by omega
      simp (disch := first | assumption | omega | rfl | (refine id ?_; simp only [gxD, ne_eq, reduceCtorEq, not_false_eq_true, Nat.reduceAdd, *]; done) | (refine id ?_; simp only [gxD]; omega)) only [↓gxPre, gxPost, ↓reduceIte, Nat.reduceEqDiff, reduceCtorEq, Nat.reduceAdd, hu.ia, hu.ldD, hul, (hus i hi).len, (hus 0 (by omega)).len, c1', ne_eq, not_false_eq_true, Int.reduceToNat]
      rw [rows_no hi (by simp only [decide_eq_false c1, Bool.and_false])]
end Go.Proofs.Ytkojmlpaamdhoab
