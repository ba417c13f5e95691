/- Bands, pairs and rows of filters. -/
import Derived.Test.YtkojmlpaamdhoabSameBandsL
namespace Go.Proofs.Ytkojmlpaamdhoab
open Go.Gx
set_option maxRecDepth 100000
set_option linter.unusedSimpArgs false
set_option linter.unusedVariables false

theorem i_sameLists_ok {H : Heap} {v u : Value} {xss yss : List (List Nat)} (hv : SS H v xss) (hu : SS H u yss) (hn : totL xss ≤ 2 ^ 40) (hm : totL yss ≤ 2 ^ 40) (hx : W32S xss) (hy : W32S yss) :
    ACalls Try.prog n_i_sameLists [v, u] H fun r H' => r = .bool (sameRowsF xss yss) ∧ H' = H := by
  obtain ⟨vs, hv, hvl, hvs⟩ := hv
  obtain ⟨us, hu, hul, hus⟩ := hu
  have hnx : xss.length ≤ 2 ^ 40 := by unfold totL at hn; omega
  have hny : yss.length ≤ 2 ^ 40 := by unfold totL at hm; omega
  refine k_i_sameLists.run rfl ?_
  unfold c_i_sameLists
  by_cases hl : xss.length = yss.length
  · simp (disch := first | assumption | omega | rfl | (refine id ?_; simp only [gxD, ne_eq, reduceCtorEq, not_false_eq_true, Nat.reduceAdd, *]; done) | (refine id ?_; simp only [gxD]; omega)) only [↓gxPre, gxPost, ↓reduceIte, Nat.reduceEqDiff, reduceCtorEq, Nat.reduceAdd, hv.len, hu.len, hvl, hul, hl, ne_eq, not_true]
    refine loop_forH yss.length (fun i => [v, u, .int .i64 yss.length, .int .i64 i]) (fun i H' => H = H' ∧ ∀ j, j < i → sameL (xss.getD j []) (yss.getD j []) = true) rfl ⟨rfl, by intros; omega⟩ ?_ ?_
    · rintro _ ⟨rfl, hJ⟩
      simp (disch := first | assumption | omega | rfl | (refine id ?_; simp only [gxD, ne_eq, reduceCtorEq, not_false_eq_true, Nat.reduceAdd, *]; done) | (refine id ?_; simp only [gxD]; omega)) only [↓gxPre, gxPost, ↓reduceIte, Nat.reduceEqDiff, reduceCtorEq, Nat.reduceAdd, Int.lt_irrefl]
      simp only [sameRowsF, hl, decide_true, Bool.true_and]
      rw [allR.2 hJ]
    · rintro i _ hi ⟨rfl, hJ⟩
      simp (disch := first | assumption | omega | rfl | (refine id ?_; simp only [gxD, ne_eq, reduceCtorEq, not_false_eq_true, Nat.reduceAdd, *]; done) | (refine id ?_; simp only [gxD]; omega)) only [↓gxPre, gxPost, ↓reduceIte, Nat.reduceEqDiff, reduceCtorEq, Nat.reduceAdd, hv.ia, hu.ia, hv.ldD, hu.ldD, hvl, hul]
      refine callR_pure (i_sameNumbers_ok (hvs i (by omega)) (hus i hi) (totL_row hn i) (totL_row hm i) (hx i) (hy i)) (.inl rfl) ?_
      cases hs : sameL (xss.getD i []) (yss.getD i [])
      · simp (disch := first | assumption | omega | rfl | (refine id ?_; simp only [gxD, ne_eq, reduceCtorEq, not_false_eq_true, Nat.reduceAdd, *]; done) | (refine id ?_; simp only [gxD]; omega)) only [↓gxPre, gxPost, ↓reduceIte, Nat.reduceEqDiff, reduceCtorEq, Nat.reduceAdd]
        simp only [sameRowsF, hl, decide_true, Bool.true_and]
        rw [allR_false hi hs]
      · simp (disch := first | assumption | omega | rfl | (refine id ?_; simp only [gxD, ne_eq, reduceCtorEq, not_false_eq_true, Nat.reduceAdd, *]; done) | (refine id ?_; simp only [gxD]; omega)) only [↓gxPre, gxPost, ↓reduceIte, Nat.reduceEqDiff, reduceCtorEq, Nat.reduceAdd]
        exact ⟨by simp, Nat.forall_lt_succ_right.2 ⟨hJ, hs⟩⟩
  · have : ¬ ((xss.length : Int) = yss.length) := by omega
    simp (disch := first | assumption | omega | rfl | (refine id ?_; simp only [gxD, ne_eq, reduceCtorEq, not_false_eq_true, Nat.reduceAdd, *]; done) | (refine id ?_; simp only [gxD]; omega)) only [↓gxPre, gxPost, ↓reduceIte, Nat.reduceEqDiff, reduceCtorEq, Nat.reduceAdd, hv.len, hu.len, hvl, hul, ne_eq, this, not_false_eq_true]
    simp [sameRowsF, hl]
theorem s_l03SameRows_ok {H : Heap} {v u : Value} {xss yss : List (List Nat)} (hv : SS H v xss) (hu : SS H u yss) (hn : totL xss ≤ 2 ^ 40) (hm : totL yss ≤ 2 ^ 40) (hx : W32S xss) (hy : W32S yss) :
    ACalls Try.prog n_s_l03SameRows [v, u] H fun r H' => r = .bool (sameRowsF xss yss) ∧ H' = H := by
  obtain ⟨vs, hv, hvl, hvs⟩ := hv
  obtain ⟨us, hu, hul, hus⟩ := hu
  have hnx : xss.length ≤ 2 ^ 40 := by unfold totL at hn; omega
  have hny : yss.length ≤ 2 ^ 40 := by unfold totL at hm; omega
  refine k_s_l03SameRows.run rfl ?_
  unfold c_s_l03SameRows
  by_cases hl : xss.length = yss.length
  · simp (disch := first | assumption | omega | rfl | (refine id ?_; simp only [gxD, ne_eq, reduceCtorEq, not_false_eq_true, Nat.reduceAdd, *]; done) | (refine id ?_; simp only [gxD]; omega)) only [↓gxPre, gxPost, ↓reduceIte, Nat.reduceEqDiff, reduceCtorEq, Nat.reduceAdd, hv.len, hu.len, hvl, hul, hl, ne_eq, not_true]
    refine loop_forH yss.length (fun i => [v, u, .int .i64 yss.length, .int .i64 i]) (fun i H' => H = H' ∧ ∀ j, j < i → sameL (xss.getD j []) (yss.getD j []) = true) rfl ⟨rfl, by intros; omega⟩ ?_ ?_
    · rintro _ ⟨rfl, hJ⟩
      simp (disch := first | assumption | omega | rfl | (refine id ?_; simp only [gxD, ne_eq, reduceCtorEq, not_false_eq_true, Nat.reduceAdd, *]; done) | (refine id ?_; simp only [gxD]; omega)) only [↓gxPre, gxPost, ↓reduceIte, Nat.reduceEqDiff, reduceCtorEq, Nat.reduceAdd, Int.lt_irrefl]
      simp only [sameRowsF, hl, decide_true, Bool.true_and]
      rw [allR.2 hJ]
    · rintro i _ hi ⟨rfl, hJ⟩
      simp (disch := first | assumption | omega | rfl | (refine id ?_; simp only [gxD, ne_eq, reduceCtorEq, not_false_eq_true, Nat.reduceAdd, *]; done) | (refine id ?_; simp only [gxD]; omega)) only [↓gxPre, gxPost, ↓reduceIte, Nat.reduceEqDiff, reduceCtorEq, Nat.reduceAdd, hv.ia, hu.ia, hv.ldD, hu.ldD, hvl, hul]
      refine callR_pure (s_l01SameAll_ok (hvs i (by omega)) (hus i hi) (totL_row hn i) (totL_row hm i) (hx i) (hy i)) (.inl rfl) ?_
      cases hs : sameL (xss.getD i []) (yss.getD i [])
      · simp (disch := first | assumption | omega | rfl | (refine id ?_; simp only [gxD, ne_eq, reduceCtorEq, not_false_eq_true, Nat.reduceAdd, *]; done) | (refine id ?_; simp only [gxD]; omega)) only [↓gxPre, gxPost, ↓reduceIte, Nat.reduceEqDiff, reduceCtorEq, Nat.reduceAdd]
        simp only [sameRowsF, hl, decide_true, Bool.true_and]
        rw [allR_false hi hs]
      · simp (disch := first | assumption | omega | rfl | (refine id ?_; simp only [gxD, ne_eq, reduceCtorEq, not_false_eq_true, Nat.reduceAdd, *]; done) | (refine id ?_; simp only [gxD]; omega)) only [↓gxPre, gxPost, ↓reduceIte, Nat.reduceEqDiff, reduceCtorEq, Nat.reduceAdd]
        exact ⟨by simp, Nat.forall_lt_succ_right.2 ⟨hJ, hs⟩⟩
  · have : ¬ ((xss.length : Int) = yss.length) := by omega
    simp (disch := first | assumption | omega | rfl | (refine id ?_; simp only [gxD, ne_eq, reduceCtorEq, not_false_eq_true, Nat.reduceAdd, *]; done) | (refine id ?_; simp only [gxD]; omega)) only [↓gxPre, gxPost, ↓reduceIte, Nat.reduceEqDiff, reduceCtorEq, Nat.reduceAdd, hv.len, hu.len, hvl, hul, ne_eq, this, not_false_eq_true]
    simp [sameRowsF, hl]
theorem s_SameBands_law {H : Heap} {v0 u0 v1 u1 : Value} {xs0 xs1 : List Nat} {ys0 ys1 : List (List Nat)} (A : AF H v0 xs0) (B : AS H u0 ys0) (C : AF H v1 xs1) (D : AS H u1 ys1) :
    ACalls Try.prog n_s_SameBands [.agg #[v0, u0], .agg #[v1, u1]] H fun r H' => r = .bool (sameL xs0 xs1 && sameRowsF ys0 ys1) ∧ Ext H H' := by
  refine k_s_SameBands.run rfl ?_
  unfold c_s_SameBands
  have o1 := A.rd.one
  have o2 := B.rd.one'
  have o3 := C.rd.one
  have o4 := D.rd.one'
  have e : Ext H ((H.new ⟨true, t_Bands, [v0, u0]⟩).new ⟨true, t_Bands, [v1, u1]⟩) := (Ext.new _ _).trans (.new _ _)
  simp (disch := first | assumption | omega | rfl | (refine id ?_; simp only [gxD, ne_eq, reduceCtorEq, not_false_eq_true, Nat.reduceAdd, *]; done) | (refine id ?_; simp only [gxD]; omega)) only [↓gxPre, gxPost, ↓reduceIte, Nat.reduceEqDiff, reduceCtorEq, Nat.reduceAdd]
  refine callR_pure (s_l01SameAll_ok (A.rd.ext e) (C.rd.ext e) A.le C.le A.w C.w) (by first | exact Or.inl rfl | (simp (disch := first | assumption | omega | rfl | (refine id ?_; simp only [gxD, ne_eq, reduceCtorEq, not_false_eq_true, Nat.reduceAdd, *]; done) | (refine id ?_; simp only [gxD]; omega)) only [↓gxPre, gxPost, ↓reduceIte, Nat.reduceEqDiff, reduceCtorEq, Nat.reduceAdd, *]; done)) ?_
  simp (disch := first | assumption | omega | rfl | (refine id ?_; simp only [gxD, ne_eq, reduceCtorEq, not_false_eq_true, Nat.reduceAdd, *]; done) | (refine id ?_; simp only [gxD]; omega)) only [↓gxPre, gxPost, ↓reduceIte, Nat.reduceEqDiff, reduceCtorEq, Nat.reduceAdd, *]
  cases h : sameL xs0 xs1
  · simp (disch := first | assumption | omega | rfl | (refine id ?_; simp only [gxD, ne_eq, reduceCtorEq, not_false_eq_true, Nat.reduceAdd, *]; done) | (refine id ?_; simp only [gxD]; omega)) only [↓gxPre, gxPost, ↓reduceIte, Nat.reduceEqDiff, reduceCtorEq, Nat.reduceAdd]
    exact ⟨rfl, e⟩
  simp (disch := first | assumption | omega | rfl | (refine id ?_; simp only [gxD, ne_eq, reduceCtorEq, not_false_eq_true, Nat.reduceAdd, *]; done) | (refine id ?_; simp only [gxD]; omega)) only [↓gxPre, gxPost, ↓reduceIte, Nat.reduceEqDiff, reduceCtorEq, Nat.reduceAdd]
  refine callR_pure (s_l03SameRows_ok (B.rd.ext e) (D.rd.ext e) B.le D.le B.w D.w) (by first | exact Or.inl rfl | (simp (disch := first | assumption | omega | rfl | (refine id ?_; simp only [gxD, ne_eq, reduceCtorEq, not_false_eq_true, Nat.reduceAdd, *]; done) | (refine id ?_; simp only [gxD]; omega)) only [↓gxPre, gxPost, ↓reduceIte, Nat.reduceEqDiff, reduceCtorEq, Nat.reduceAdd, *]; done)) ?_
  simp (disch := first | assumption | omega | rfl | (refine id ?_; simp only [gxD, ne_eq, reduceCtorEq, not_false_eq_true, Nat.reduceAdd, *]; done) | (refine id ?_; simp only [gxD]; omega)) only [↓gxPre, gxPost, ↓reduceIte, Nat.reduceEqDiff, reduceCtorEq, Nat.reduceAdd, *]
  first | exact e | rfl | exact ⟨rfl, e⟩
theorem i_SameBands_law {H : Heap} {v0 u0 v1 u1 : Value} {xs0 xs1 : List Nat} {ys0 ys1 : List (List Nat)} (A : AF H v0 xs0) (B : AS H u0 ys0) (C : AF H v1 xs1) (D : AS H u1 ys1) :
    ACalls Try.prog n_i_SameBands [.agg #[v0, u0], .agg #[v1, u1]] H fun r H' => r = .bool (sameL xs0 xs1 && sameRowsF ys0 ys1) ∧ Ext H H' := by
  refine k_i_SameBands.run rfl ?_
  unfold c_i_SameBands
  have o1 := A.rd.one
  have o2 := B.rd.one'
  have o3 := C.rd.one
  have o4 := D.rd.one'
  have e : Ext H ((H.new ⟨true, t_Bands, [v0, u0]⟩).new ⟨true, t_Bands, [v1, u1]⟩) := (Ext.new _ _).trans (.new _ _)
  simp (disch := first | assumption | omega | rfl | (refine id ?_; simp only [gxD, ne_eq, reduceCtorEq, not_false_eq_true, Nat.reduceAdd, *]; done) | (refine id ?_; simp only [gxD]; omega)) only [↓gxPre, gxPost, ↓reduceIte, Nat.reduceEqDiff, reduceCtorEq, Nat.reduceAdd]
  refine callR_pure (i_sameNumbers_ok (A.rd.ext e) (C.rd.ext e) A.le C.le A.w C.w) (by first | exact Or.inl rfl | (simp (disch := first | assumption | omega | rfl | (refine id ?_; simp only [gxD, ne_eq, reduceCtorEq, not_false_eq_true, Nat.reduceAdd, *]; done) | (refine id ?_; simp only [gxD]; omega)) only [↓gxPre, gxPost, ↓reduceIte, Nat.reduceEqDiff, reduceCtorEq, Nat.reduceAdd, *]; done)) ?_
  simp (disch := first | assumption | omega | rfl | (refine id ?_; simp only [gxD, ne_eq, reduceCtorEq, not_false_eq_true, Nat.reduceAdd, *]; done) | (refine id ?_; simp only [gxD]; omega)) only [↓gxPre, gxPost, ↓reduceIte, Nat.reduceEqDiff, reduceCtorEq, Nat.reduceAdd, *]
  cases h : sameL xs0 xs1
  · simp (disch := first | assumption | omega | rfl | (refine id ?_; simp only [gxD, ne_eq, reduceCtorEq, not_false_eq_true, Nat.reduceAdd, *]; done) | (refine id ?_; simp only [gxD]; omega)) only [↓gxPre, gxPost, ↓reduceIte, Nat.reduceEqDiff, reduceCtorEq, Nat.reduceAdd]
    exact ⟨rfl, e⟩
  simp (disch := first | assumption | omega | rfl | (refine id ?_; simp only [gxD, ne_eq, reduceCtorEq, not_false_eq_true, Nat.reduceAdd, *]; done) | (refine id ?_; simp only [gxD]; omega)) only [↓gxPre, gxPost, ↓reduceIte, Nat.reduceEqDiff, reduceCtorEq, Nat.reduceAdd]
  refine callR_pure (i_sameLists_ok (B.rd.ext e) (D.rd.ext e) B.le D.le B.w D.w) (by first | exact Or.inl rfl | (simp (disch := first | assumption | omega | rfl | (refine id ?_; simp only [gxD, ne_eq, reduceCtorEq, not_false_eq_true, Nat.reduceAdd, *]; done) | (refine id ?_; simp only [gxD]; omega)) only [↓gxPre, gxPost, ↓reduceIte, Nat.reduceEqDiff, reduceCtorEq, Nat.reduceAdd, *]; done)) ?_
  simp (disch := first | assumption | omega | rfl | (refine id ?_; simp only [gxD, ne_eq, reduceCtorEq, not_false_eq_true, Nat.reduceAdd, *]; done) | (refine id ?_; simp only [gxD]; omega)) only [↓gxPre, gxPost, ↓reduceIte, Nat.reduceEqDiff, reduceCtorEq, Nat.reduceAdd, *]
  first | exact e | rfl | exact ⟨rfl, e⟩
end Go.Proofs.Ytkojmlpaamdhoab
