/- Valid bands; rows of frames; ridges. -/
import Derived.Test.YtkojmlpaamdhoaeJoinLevelsN
namespace Go.Proofs.Ytkojmlpaamdhoae
open Go.Gx
set_option maxRecDepth 100000
set_option linter.unusedSimpArgs false
set_option linter.unusedVariables false

theorem i_ValidBands_ok {H : Heap} {v u : Value} {xs : List Nat} {yss : List (List Nat)} (hv : FS H v xs) (hu0 : SS H u yss) (hn : xs.length ≤ 2 ^ 40) (hm : totL yss ≤ 2 ^ 40) :
    ACalls Try.prog n_i_ValidBands [.agg #[v, u]] H fun r H' => r = .bool (validBandsF xs yss) ∧ Ext H H' := by
  have o1 := hv.one
  have o2 := hu0.one'
  obtain ⟨us, hu, hul, hus⟩ := hu0
  have hu0 : SS H u yss := ⟨us, hu, hul, hus⟩
  have e : Ext H (H.new ⟨true, t_Bands, [v, u]⟩) := .new _ _
  have e2 : Ext H ((H.new ⟨true, t_Bands, [v, u]⟩).new ⟨true, t_sfloat32, [v]⟩) := e.news _
  have hu' := hu.ext e
  have hb2 : ((H.new ⟨true, t_Bands, [v, u]⟩).new ⟨true, t_sfloat32, [v]⟩).blk H.n = some ⟨true, t_Bands, [v, u]⟩ := by simp (disch := first | assumption | omega | rfl | (refine id ?_; simp only [gxD, ne_eq, reduceCtorEq, not_false_eq_true, Nat.reduceAdd, *]; done) | (refine id ?_; simp only [gxD]; omega)) only [↓gxPre, gxPost, ↓reduceIte, Nat.reduceEqDiff, reduceCtorEq, Nat.reduceAdd]
  have hny : yss.length ≤ 2 ^ 40 := by unfold totL at hm; omega
  refine k_i_ValidBands.run rfl ?_
  unfold c_i_ValidBands
  simp (disch := first | assumption | omega | rfl | (refine id ?_; simp only [gxD, ne_eq, reduceCtorEq, not_false_eq_true, Nat.reduceAdd, *]; done) | (refine id ?_; simp only [gxD]; omega)) only [↓gxPre, gxPost, ↓reduceIte, Nat.reduceEqDiff, reduceCtorEq, Nat.reduceAdd, hu'.len, hul]
  refine callR_pure (i_within_ok) (by first | exact Or.inl rfl | (simp (disch := first | assumption | omega | rfl | (refine id ?_; simp only [gxD, ne_eq, reduceCtorEq, not_false_eq_true, Nat.reduceAdd, *]; done) | (refine id ?_; simp only [gxD]; omega)) only [↓gxPre, gxPost, ↓reduceIte, Nat.reduceEqDiff, reduceCtorEq, Nat.reduceAdd, *]; done)) ?_
  simp (disch := first | assumption | omega | rfl | (refine id ?_; simp only [gxD, ne_eq, reduceCtorEq, not_false_eq_true, Nat.reduceAdd, *]; done) | (refine id ?_; simp only [gxD]; omega)) only [↓gxPre, gxPost, ↓reduceIte, Nat.reduceEqDiff, reduceCtorEq, Nat.reduceAdd, *]
  cases h1 : within yss.length 1 6
  · simp (disch := first | assumption | omega | rfl | (refine id ?_; simp only [gxD, ne_eq, reduceCtorEq, not_false_eq_true, Nat.reduceAdd, *]; done) | (refine id ?_; simp only [gxD]; omega)) only [↓gxPre, gxPost, ↓reduceIte, Nat.reduceEqDiff, reduceCtorEq, Nat.reduceAdd]
    exact ⟨by simp only [validBandsF, h1, Bool.false_and], e⟩
  have h1' := within_true.1 h1
  by_cases h2 : (yss.getD 0 []).length ≤ 64
  rotate_left
  · have h2' : (64 : Int) < (yss.getD 0 []).length := by omega
    simp (disch := first | assumption | omega | rfl | (refine id ?_; simp only [gxD, ne_eq, reduceCtorEq, not_false_eq_true, Nat.reduceAdd, *]; done) | (refine id ?_; simp only [gxD]; omega)) only [↓gxPre, gxPost, ↓reduceIte, Nat.reduceEqDiff, reduceCtorEq, Nat.reduceAdd, hu'.ia, hu'.ldD, hul, (hus 0 (by omega)).len, h2', Int.reduceToNat]
    exact ⟨by simp only [validBandsF, decide_eq_false h2, Bool.and_false, Bool.false_and], e⟩
  have h2' : ¬ (64 : Int) < (yss.getD 0 []).length := by omega
  simp (disch := first | assumption | omega | rfl | (refine id ?_; simp only [gxD, ne_eq, reduceCtorEq, not_false_eq_true, Nat.reduceAdd, *]; done) | (refine id ?_; simp only [gxD]; omega)) only [↓gxPre, gxPost, ↓reduceIte, Nat.reduceEqDiff, reduceCtorEq, Nat.reduceAdd, hu'.ia, hu'.ldD, hul, (hus 0 (by omega)).len, h2', Int.reduceToNat]
  refine callR_pure (i_areFinite_ok (hu0.ext e) hny fun j _ => totL_row hm j) (.inl rfl) ?_
  cases h3 : (yss.all fun ys => ys.all finF)
  · simp (disch := first | assumption | omega | rfl | (refine id ?_; simp only [gxD, ne_eq, reduceCtorEq, not_false_eq_true, Nat.reduceAdd, *]; done) | (refine id ?_; simp only [gxD]; omega)) only [↓gxPre, gxPost, ↓reduceIte, Nat.reduceEqDiff, reduceCtorEq, Nat.reduceAdd]
    exact ⟨by simp only [validBandsF, h3, Bool.and_false, Bool.false_and], e⟩
  simp (disch := first | assumption | omega | rfl | (refine id ?_; simp only [gxD, ne_eq, reduceCtorEq, not_false_eq_true, Nat.reduceAdd, *]; done) | (refine id ?_; simp only [gxD]; omega)) only [↓gxPre, gxPost, ↓reduceIte, Nat.reduceEqDiff, reduceCtorEq, Nat.reduceAdd]
  refine callR_pure (i_areFinite1_ok (by simp (disch := first | assumption | omega | rfl | (refine id ?_; simp only [gxD, ne_eq, reduceCtorEq, not_false_eq_true, Nat.reduceAdd, *]; done) | (refine id ?_; simp only [gxD]; omega)) only [↓gxPre, gxPost, ↓reduceIte, Nat.reduceEqDiff, reduceCtorEq, Nat.reduceAdd, *]; rfl) (by first | omega | (simp only [new_n, put_n]; omega)) (hv.ext e2) hn) (.inl rfl) ?_
  cases h4 : xs.all finF
  · simp (disch := first | assumption | omega | rfl | (refine id ?_; simp only [gxD, ne_eq, reduceCtorEq, not_false_eq_true, Nat.reduceAdd, *]; done) | (refine id ?_; simp only [gxD]; omega)) only [↓gxPre, gxPost, ↓reduceIte, Nat.reduceEqDiff, reduceCtorEq, Nat.reduceAdd]
    exact ⟨by simp only [validBandsF, h4, Bool.and_false, Bool.false_and], e2⟩
  have hu2 := hu.ext e2
  simp (disch := first | assumption | omega | rfl | (refine id ?_; simp only [gxD, ne_eq, reduceCtorEq, not_false_eq_true, Nat.reduceAdd, *]; done) | (refine id ?_; simp only [gxD]; omega)) only [↓gxPre, gxPost, ↓reduceIte, Nat.reduceEqDiff, reduceCtorEq, Nat.reduceAdd, hu2.len, hul]
  generalize ((H.new ⟨true, t_Bands, [v, u]⟩).new ⟨true, t_sfloat32, [v]⟩) = G at *
  refine loop_forH yss.length (fun i => [.pointer (some ⟨H.n, 0, some 2⟩), .int .i64 yss.length, u, .int .i64 yss.length, .int .i64 i]) (fun i G' => G = G' ∧ ∀ j, j < i → detAt yss j = true) rfl ⟨rfl, by intros; omega⟩ ?_ ?_
  · rintro _ ⟨rfl, hJ⟩
    have e1 : ((yss.length : Int) - 1).toNat = yss.length - 1 := by omega
    simp (disch := first | assumption | omega | rfl | (refine id ?_; simp only [gxD, ne_eq, reduceCtorEq, not_false_eq_true, Nat.reduceAdd, *]; done) | (refine id ?_; simp only [gxD]; omega)) only [↓gxPre, gxPost, ↓reduceIte, Nat.reduceEqDiff, reduceCtorEq, Nat.reduceAdd, Int.lt_irrefl, hb2, (hv.ext e2).len, hu2.ia, hu2.ldD, hul, e1, (hus (yss.length - 1) (by omega)).len]
    refine ⟨?_, e2⟩
    congr 1
    rw [Bool.eq_iff_iff]
    simp only [validBandsF, h1, h3, h4, allR.2 hJ, decide_eq_true h2, Bool.and_true, Bool.true_and, decide_eq_true_eq]
    omega
  · rintro i _ hi ⟨rfl, hJ⟩
    by_cases c1 : (yss.getD i []).length = 0
    · have c1' : ((yss.getD i []).length : Int) = 0 := by omega
      simp (disch := first | assumption | omega | rfl | (refine id ?_; simp only [gxD, ne_eq, reduceCtorEq, not_false_eq_true, Nat.reduceAdd, *]; done) | (refine id ?_; simp only [gxD]; omega)) only [↓gxPre, gxPost, ↓reduceIte, Nat.reduceEqDiff, reduceCtorEq, Nat.reduceAdd, hu2.ia, hu2.ldD, hul, (hus i hi).len, c1']
      exact ⟨by rw [vb_no hi (by simp only [detAt, c1]; simp)], e2⟩
    have c1' : ¬ ((yss.getD i []).length : Int) = 0 := by omega
    have hd1 : decide (1 ≤ (yss.getD i []).length) = true := decide_eq_true (by omega)
    by_cases c2 : i = 0
    · have c2' : ¬ ((0 : Int) < i) := by omega
      simp (disch := first | assumption | omega | rfl | (refine id ?_; simp only [gxD, ne_eq, reduceCtorEq, not_false_eq_true, Nat.reduceAdd, *]; done) | (refine id ?_; simp only [gxD]; omega)) only [↓gxPre, gxPost, ↓reduceIte, Nat.reduceEqDiff, reduceCtorEq, Nat.reduceAdd, hu2.ia, hu2.ldD, hul, (hus i hi).len, c1', c2']
      refine ⟨by simp, Nat.forall_lt_succ_right.2 ⟨hJ, ?_⟩⟩
      simp only [detAt, hd1, decide_eq_true c2, Bool.true_or, Bool.and_true]
    have c2' : (0 : Int) < i := by omega
    have e1 : ((i : Int) - 1).toNat = i - 1 := by omega
    have hr1 := totL_row hm i
    have hr2 := totL_row hm (i - 1)
    by_cases c3 : (yss.getD (i - 1) []).length = 2 * (yss.getD i []).length
    · have c3' : 2 * ((yss.getD i []).length : Int) = (yss.getD (i - 1) []).length := by omega
      simp (disch := first | assumption | omega | rfl | (refine id ?_; simp only [gxD, ne_eq, reduceCtorEq, not_false_eq_true, Nat.reduceAdd, *]; done) | (refine id ?_; simp only [gxD]; omega)) only [↓gxPre, gxPost, ↓reduceIte, Nat.reduceEqDiff, reduceCtorEq, Nat.reduceAdd, hu2.ia, hu2.ldD, hul, (hus i hi).len, c1', c2', hb2, e1, (hus (i - 1) (by omega)).len, c3', ne_eq, not_true]
      refine ⟨by simp, Nat.forall_lt_succ_right.2 ⟨hJ, ?_⟩⟩
      simp only [detAt, hd1, decide_eq_true c3, Bool.or_true, Bool.and_true]
    · have c3' : ¬ 2 * ((yss.getD i []).length : Int) = (yss.getD (i - 1) []).length := by omega
      simp (disch := first | assumption | omega | rfl | (refine id ?_; simp only [gxD, ne_eq, reduceCtorEq, not_false_eq_true, Nat.reduceAdd, *]; done) | (refine id ?_; simp only [gxD]; omega)) only [↓gxPre, gxPost, ↓reduceIte, Nat.reduceEqDiff, reduceCtorEq, Nat.reduceAdd, hu2.ia, hu2.ldD, hul, (hus i hi).len, c1', c2', hb2, e1, (hus (i - 1) (by omega)).len, c3', ne_eq, not_false_eq_true]
      exact ⟨by rw [vb_no hi (by simp only [detAt, decide_eq_false c3, decide_eq_false c2, Bool.or_false, Bool.and_false])], e2⟩
theorem s_l03Bands_ok {H : Heap} {h : Nat} {own : Bool} {ty : TypeId} {v u : Value} {xs : List Nat} {yss : List (List Nat)} (hb : H.blk h = some ⟨own, ty, [v, u]⟩) (hv : FS H v xs) (hu0 : SS H u yss) (hn : xs.length ≤ 2 ^ 40) (hm : totL yss ≤ 2 ^ 40) :
    ACalls Try.prog n_s_l03Bands [.pointer (some ⟨h, 0, some 2⟩)] H fun r H' => r = .bool (validBandsF xs yss) ∧ H' = H := by
  obtain ⟨us, hu, hul, hus⟩ := hu0
  have hny : yss.length ≤ 2 ^ 40 := by unfold totL at hm; omega
  refine k_s_l03Bands.run rfl ?_
  unfold c_s_l03Bands
  by_cases h0 : (yss.length : Int) < 1
  · simp (disch := first | assumption | omega | rfl | (refine id ?_; simp only [gxD, ne_eq, reduceCtorEq, not_false_eq_true, Nat.reduceAdd, *]; done) | (refine id ?_; simp only [gxD]; omega)) only [↓gxPre, gxPost, ↓reduceIte, Nat.reduceEqDiff, reduceCtorEq, Nat.reduceAdd, hb, hu.len, hul]
    have : within yss.length 1 6 = false := by simp [within]; omega
    simp only [validBandsF, this, Bool.false_and]
  by_cases h6 : (6 : Int) < yss.length
  · simp (disch := first | assumption | omega | rfl | (refine id ?_; simp only [gxD, ne_eq, reduceCtorEq, not_false_eq_true, Nat.reduceAdd, *]; done) | (refine id ?_; simp only [gxD]; omega)) only [↓gxPre, gxPost, ↓reduceIte, Nat.reduceEqDiff, reduceCtorEq, Nat.reduceAdd, hb, hu.len, hul]
    have : within yss.length 1 6 = false := by simp [within]; omega
    simp only [validBandsF, this, Bool.false_and]
  have h1 : within yss.length 1 6 = true := within_true.2 ⟨by omega, by omega⟩
  by_cases h2 : (yss.getD 0 []).length ≤ 64
  rotate_left
  · have h2' : (64 : Int) < (yss.getD 0 []).length := by omega
    simp (disch := first | assumption | omega | rfl | (refine id ?_; simp only [gxD, ne_eq, reduceCtorEq, not_false_eq_true, Nat.reduceAdd, *]; done) | (refine id ?_; simp only [gxD]; omega)) only [↓gxPre, gxPost, ↓reduceIte, Nat.reduceEqDiff, reduceCtorEq, Nat.reduceAdd, hb, hu.len, hu.ia, hu.ldD, hul, (hus 0 (by omega)).len, h2', Int.reduceToNat]
    simp only [validBandsF, decide_eq_false h2, Bool.and_false, Bool.false_and]
  have h2' : ¬ (64 : Int) < (yss.getD 0 []).length := by omega
  simp (disch := first | assumption | omega | rfl | (refine id ?_; simp only [gxD, ne_eq, reduceCtorEq, not_false_eq_true, Nat.reduceAdd, *]; done) | (refine id ?_; simp only [gxD]; omega)) only [↓gxPre, gxPost, ↓reduceIte, Nat.reduceEqDiff, reduceCtorEq, Nat.reduceAdd, hb, hu.len, hu.ia, hu.ldD, hul, (hus 0 (by omega)).len, h2', Int.reduceToNat]
  refine callR_pure (s_l02Finite_ok hv hn) (.inl rfl) ?_
  cases h4 : xs.all finF
  · simp (disch := first | assumption | omega | rfl | (refine id ?_; simp only [gxD, ne_eq, reduceCtorEq, not_false_eq_true, Nat.reduceAdd, *]; done) | (refine id ?_; simp only [gxD]; omega)) only [↓gxPre, gxPost, ↓reduceIte, Nat.reduceEqDiff, reduceCtorEq, Nat.reduceAdd]
    simp only [validBandsF, h4, Bool.and_false, Bool.false_and]
  simp (disch := first | assumption | omega | rfl | (refine id ?_; simp only [gxD, ne_eq, reduceCtorEq, not_false_eq_true, Nat.reduceAdd, *]; done) | (refine id ?_; simp only [gxD]; omega)) only [↓gxPre, gxPost, ↓reduceIte, Nat.reduceEqDiff, reduceCtorEq, Nat.reduceAdd, hb, hu.len, hul]
  refine loop_forH yss.length (fun i => [.pointer (some ⟨h, 0, some 2⟩), .int .i64 yss.length, .int .i64 yss.length, .int .i64 i]) (fun i G' => H = G' ∧ ∀ j, j < i → detAt yss j = true ∧ (yss.getD j []).all finF = true) rfl ⟨rfl, by intros; omega⟩ ?_ ?_
  · rintro _ ⟨rfl, hJ⟩
    have e1 : ((yss.length : Int) - 1).toNat = yss.length - 1 := by omega
    simp (disch := first | assumption | omega | rfl | (refine id ?_; simp only [gxD, ne_eq, reduceCtorEq, not_false_eq_true, Nat.reduceAdd, *]; done) | (refine id ?_; simp only [gxD]; omega)) only [↓gxPre, gxPost, ↓reduceIte, Nat.reduceEqDiff, reduceCtorEq, Nat.reduceAdd, Int.lt_irrefl, hb, hv.len, hu.ia, hu.ldD, hul, e1, (hus (yss.length - 1) (by omega)).len]
    have h3 : (yss.all fun ys => ys.all finF) = true := (allD []).2 fun j hj => (hJ j hj).2
    congr 1
    rw [Bool.eq_iff_iff]
    simp only [validBandsF, h1, h3, h4, allR.2 fun j hj => (hJ j hj).1, decide_eq_true h2, Bool.and_true, Bool.true_and, decide_eq_true_eq]
    omega
  · rintro i _ hi ⟨rfl, hJ⟩
    by_cases c1 : (yss.getD i []).length = 0
    · have c1' : ((yss.getD i []).length : Int) < 1 := by omega
      simp (disch := first | assumption | omega | rfl | (refine id ?_; simp only [gxD, ne_eq, reduceCtorEq, not_false_eq_true, Nat.reduceAdd, *]; done) | (refine id ?_; simp only [gxD]; omega)) only [↓gxPre, gxPost, ↓reduceIte, Nat.reduceEqDiff, reduceCtorEq, Nat.reduceAdd, hb, hu.ia, hu.ldD, hul, (hus i hi).len, c1']
      rw [vb_no hi (by simp only [detAt, c1]; simp)]
    have c1' : ¬ ((yss.getD i []).length : Int) < 1 := by omega
    have hd1 : decide (1 ≤ (yss.getD i []).length) = true := decide_eq_true (by omega)
    simp (disch := first | assumption | omega | rfl | (refine id ?_; simp only [gxD, ne_eq, reduceCtorEq, not_false_eq_true, Nat.reduceAdd, *]; done) | (refine id ?_; simp only [gxD]; omega)) only [↓gxPre, gxPost, ↓reduceIte, Nat.reduceEqDiff, reduceCtorEq, Nat.reduceAdd, hb, hu.ia, hu.ldD, hul, (hus i hi).len, c1']
    refine callR_pure (s_l02Finite_ok (hus i hi) (totL_row hm i)) (.inl rfl) ?_
    cases h5 : (yss.getD i []).all finF
    · simp (disch := first | assumption | omega | rfl | (refine id ?_; simp only [gxD, ne_eq, reduceCtorEq, not_false_eq_true, Nat.reduceAdd, *]; done) | (refine id ?_; simp only [gxD]; omega)) only [↓gxPre, gxPost, ↓reduceIte, Nat.reduceEqDiff, reduceCtorEq, Nat.reduceAdd]
      have : (yss.all fun ys => ys.all finF) = false := allD_false [] hi h5
      simp only [validBandsF, this, Bool.and_false, Bool.false_and]
    by_cases c2 : i = 0
    · have c2' : ¬ ((0 : Int) < i) := by omega
      simp (disch := first | assumption | omega | rfl | (refine id ?_; simp only [gxD, ne_eq, reduceCtorEq, not_false_eq_true, Nat.reduceAdd, *]; done) | (refine id ?_; simp only [gxD]; omega)) only [↓gxPre, gxPost, ↓reduceIte, Nat.reduceEqDiff, reduceCtorEq, Nat.reduceAdd, c2']
      refine ⟨by simp, Nat.forall_lt_succ_right.2 ⟨hJ, ?_, h5⟩⟩
      simp only [detAt, hd1, decide_eq_true c2, Bool.true_or, Bool.and_true]
    have c2' : (0 : Int) < i := by omega
    have e1 : ((i : Int) - 1).toNat = i - 1 := by omega
    have hr1 := totL_row hm i
    have hr2 := totL_row hm (i - 1)
    by_cases c3 : (yss.getD (i - 1) []).length = 2 * (yss.getD i []).length
    · have c3' : ((yss.getD (i - 1) []).length : Int) = 2 * ((yss.getD i []).length : Int) := by omega
      simp (disch := first | assumption | omega | rfl | (refine id ?_; simp only [gxD, ne_eq, reduceCtorEq, not_false_eq_true, Nat.reduceAdd, *]; done) | (refine id ?_; simp only [gxD]; omega)) only [↓gxPre, gxPost, ↓reduceIte, Nat.reduceEqDiff, reduceCtorEq, Nat.reduceAdd, hb, hu.ia, hu.ldD, hul, (hus i hi).len, c2', e1, (hus (i - 1) (by omega)).len, c3', ne_eq, not_true]
      refine ⟨by simp, Nat.forall_lt_succ_right.2 ⟨hJ, ?_, h5⟩⟩
      simp only [detAt, hd1, decide_eq_true c3, Bool.or_true, Bool.and_true]
    · have c3' : ¬ ((yss.getD (i - 1) []).length : Int) = 2 * ((yss.getD i []).length : Int) := by omega
      simp (disch := first | assumption | omega | rfl | (refine id ?_; simp only [gxD, ne_eq, reduceCtorEq, not_false_eq_true, Nat.reduceAdd, *]; done) | (refine id ?_; simp only [gxD]; omega)) only [↓gxPre, gxPost, ↓reduceIte, Nat.reduceEqDiff, reduceCtorEq, Nat.reduceAdd, hb, hu.ia, hu.ldD, hul, (hus i hi).len, c2', e1, (hus (i - 1) (by omega)).len, c3', ne_eq, not_false_eq_true]
      rw [vb_no hi (by simp only [detAt, decide_eq_false c3, decide_eq_false c2, Bool.or_false, Bool.and_false])]
theorem i_ValidBands_law {H : Heap} {v0 u0 : Value} {xs0 : List Nat} {ys0 : List (List Nat)} (A : AF H v0 xs0) (B : AS H u0 ys0) :
    ACalls Try.prog n_i_ValidBands [.agg #[v0, u0]] H fun r H' => r = .bool (validBandsF xs0 ys0) ∧ Ext H H' := i_ValidBands_ok A.rd B.rd A.le B.le
end Go.Proofs.Ytkojmlpaamdhoae
