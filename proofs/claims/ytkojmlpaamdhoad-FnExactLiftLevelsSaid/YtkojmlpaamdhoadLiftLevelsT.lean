/- Integers, lifted and led back. -/
import Derived.Test.YtkojmlpaamdhoadLiftLevelsS
namespace Go.Proofs.Ytkojmlpaamdhoad
open Go.Gx
set_option maxRecDepth 100000
set_option linter.unusedSimpArgs false
set_option linter.unusedVariables false

theorem i_areWithin_ok {H : Heap} {v : Value} {xs : List Int} {most : Int} (hv : IS H v xs) (hn : xs.length ≤ 2 ^ 40) (h0 : 0 ≤ most) (h1 : most ≤ 2 ^ 40) : ACalls Try.prog n_i_areWithin [v, .int .i64 most] H fun r H' => r = .bool (boundF xs most) ∧ H' = H := by
  refine k_i_areWithin.run rfl ?_
  unfold c_i_areWithin
  simp (disch := first | assumption | omega | rfl | (refine id ?_; simp only [gxD, ne_eq, reduceCtorEq, not_false_eq_true, Nat.reduceAdd, *]; done) | (refine id ?_; simp only [gxD]; omega)) only [↓gxPre, gxPost, ↓reduceIte, Nat.reduceEqDiff, reduceCtorEq, Nat.reduceAdd, hv.len]
  refine loop_forH xs.length (fun i => [.int .i64 most, v, .int .i64 xs.length, .int .i64 i]) (fun i G => H = G ∧ ∀ j, j < i → within (xs.getD j 0) (-most) most = true) rfl ⟨rfl, by intros; omega⟩ ?_ ?_
  · rintro _ ⟨rfl, hJ⟩
    simp (disch := first | assumption | omega | rfl | (refine id ?_; simp only [gxD, ne_eq, reduceCtorEq, not_false_eq_true, Nat.reduceAdd, *]; done) | (refine id ?_; simp only [gxD]; omega)) only [↓gxPre, gxPost, ↓reduceIte, Nat.reduceEqDiff, reduceCtorEq, Nat.reduceAdd, Int.lt_irrefl]
    have : boundF xs most = true := (allD 0).2 hJ
    rw [this]
  · rintro i _ hi ⟨rfl, hJ⟩
    simp (disch := first | assumption | omega | rfl | (refine id ?_; simp only [gxD, ne_eq, reduceCtorEq, not_false_eq_true, Nat.reduceAdd, *]; done) | (refine id ?_; simp only [gxD]; omega)) only [↓gxPre, gxPost, ↓reduceIte, Nat.reduceEqDiff, reduceCtorEq, Nat.reduceAdd, hv.ia, hv.ld, Int.zero_sub]
    refine callR_pure (i_within_ok) (by first | exact Or.inl rfl | (simp (disch := first | assumption | omega | rfl | (refine id ?_; simp only [gxD, ne_eq, reduceCtorEq, not_false_eq_true, Nat.reduceAdd, *]; done) | (refine id ?_; simp only [gxD]; omega)) only [↓gxPre, gxPost, ↓reduceIte, Nat.reduceEqDiff, reduceCtorEq, Nat.reduceAdd, *]; done)) ?_
    simp (disch := first | assumption | omega | rfl | (refine id ?_; simp only [gxD, ne_eq, reduceCtorEq, not_false_eq_true, Nat.reduceAdd, *]; done) | (refine id ?_; simp only [gxD]; omega)) only [↓gxPre, gxPost, ↓reduceIte, Nat.reduceEqDiff, reduceCtorEq, Nat.reduceAdd, *]
    cases hw : within (xs.getD i 0) (-most) most
    · simp (disch := first | assumption | omega | rfl | (refine id ?_; simp only [gxD, ne_eq, reduceCtorEq, not_false_eq_true, Nat.reduceAdd, *]; done) | (refine id ?_; simp only [gxD]; omega)) only [↓gxPre, gxPost, ↓reduceIte, Nat.reduceEqDiff, reduceCtorEq, Nat.reduceAdd]
      have : boundF xs most = false := allD_false 0 hi hw
      rw [this]
    · simp (disch := first | assumption | omega | rfl | (refine id ?_; simp only [gxD, ne_eq, reduceCtorEq, not_false_eq_true, Nat.reduceAdd, *]; done) | (refine id ?_; simp only [gxD]; omega)) only [↓gxPre, gxPost, ↓reduceIte, Nat.reduceEqDiff, reduceCtorEq, Nat.reduceAdd]
      exact ⟨by simp, Nat.forall_lt_succ_right.2 ⟨hJ, hw⟩⟩
theorem s_l02Bound_ok {H : Heap} {v : Value} {xs : List Int} {most : Int} (hv : IS H v xs) (hn : xs.length ≤ 2 ^ 40) (h0 : 0 ≤ most) (h1 : most ≤ 2 ^ 40) : ACalls Try.prog n_s_l02Bound [v, .int .i64 most] H fun r H' => r = .bool (boundF xs most) ∧ H' = H := by
  refine k_s_l02Bound.run rfl ?_
  unfold c_s_l02Bound
  simp (disch := first | assumption | omega | rfl | (refine id ?_; simp only [gxD, ne_eq, reduceCtorEq, not_false_eq_true, Nat.reduceAdd, *]; done) | (refine id ?_; simp only [gxD]; omega)) only [↓gxPre, gxPost, ↓reduceIte, Nat.reduceEqDiff, reduceCtorEq, Nat.reduceAdd]
  refine loop_forH xs.length (fun i => [v, .int .i64 most, .int .i64 i]) (fun i G => H = G ∧ ∀ j, j < i → within (xs.getD j 0) (-most) most = true) rfl ⟨rfl, by intros; omega⟩ ?_ ?_
  · rintro _ ⟨rfl, hJ⟩
    simp (disch := first | assumption | omega | rfl | (refine id ?_; simp only [gxD, ne_eq, reduceCtorEq, not_false_eq_true, Nat.reduceAdd, *]; done) | (refine id ?_; simp only [gxD]; omega)) only [↓gxPre, gxPost, ↓reduceIte, Nat.reduceEqDiff, reduceCtorEq, Nat.reduceAdd, hv.len, Int.lt_irrefl]
    have : boundF xs most = true := (allD 0).2 hJ
    rw [this]
  · rintro i _ hi ⟨rfl, hJ⟩
    simp (disch := first | assumption | omega | rfl | (refine id ?_; simp only [gxD, ne_eq, reduceCtorEq, not_false_eq_true, Nat.reduceAdd, *]; done) | (refine id ?_; simp only [gxD]; omega)) only [↓gxPre, gxPost, ↓reduceIte, Nat.reduceEqDiff, reduceCtorEq, Nat.reduceAdd, hv.len, hv.ia, hv.ld, Int.zero_sub]
    refine callR_pure (s_l00In_ok) (by first | exact Or.inl rfl | (simp (disch := first | assumption | omega | rfl | (refine id ?_; simp only [gxD, ne_eq, reduceCtorEq, not_false_eq_true, Nat.reduceAdd, *]; done) | (refine id ?_; simp only [gxD]; omega)) only [↓gxPre, gxPost, ↓reduceIte, Nat.reduceEqDiff, reduceCtorEq, Nat.reduceAdd, *]; done)) ?_
    simp (disch := first | assumption | omega | rfl | (refine id ?_; simp only [gxD, ne_eq, reduceCtorEq, not_false_eq_true, Nat.reduceAdd, *]; done) | (refine id ?_; simp only [gxD]; omega)) only [↓gxPre, gxPost, ↓reduceIte, Nat.reduceEqDiff, reduceCtorEq, Nat.reduceAdd, *]
    cases hw : within (xs.getD i 0) (-most) most
    · simp (disch := first | assumption | omega | rfl | (refine id ?_; simp only [gxD, ne_eq, reduceCtorEq, not_false_eq_true, Nat.reduceAdd, *]; done) | (refine id ?_; simp only [gxD]; omega)) only [↓gxPre, gxPost, ↓reduceIte, Nat.reduceEqDiff, reduceCtorEq, Nat.reduceAdd]
      have : boundF xs most = false := allD_false 0 hi hw
      rw [this]
    · simp (disch := first | assumption | omega | rfl | (refine id ?_; simp only [gxD, ne_eq, reduceCtorEq, not_false_eq_true, Nat.reduceAdd, *]; done) | (refine id ?_; simp only [gxD]; omega)) only [↓gxPre, gxPost, ↓reduceIte, Nat.reduceEqDiff, reduceCtorEq, Nat.reduceAdd]
      exact ⟨by simp, Nat.forall_lt_succ_right.2 ⟨hJ, hw⟩⟩
theorem i_AreIntegers_ok {H : Heap} {v : Value} {xs : List Int} (hv : IS H v xs) (hn : xs.length ≤ 2 ^ 40) : ACalls Try.prog n_i_AreIntegers [v] H fun r H' => r = .bool (integersF xs) ∧ H' = H := by
  refine k_i_AreIntegers.run rfl ?_
  unfold c_i_AreIntegers
  simp (disch := first | assumption | omega | rfl | (refine id ?_; simp only [gxD, ne_eq, reduceCtorEq, not_false_eq_true, Nat.reduceAdd, *]; done) | (refine id ?_; simp only [gxD]; omega)) only [↓gxPre, gxPost, ↓reduceIte, Nat.reduceEqDiff, reduceCtorEq, Nat.reduceAdd, hv.len]
  refine callR_pure (i_within_ok) (by first | exact Or.inl rfl | (simp (disch := first | assumption | omega | rfl | (refine id ?_; simp only [gxD, ne_eq, reduceCtorEq, not_false_eq_true, Nat.reduceAdd, *]; done) | (refine id ?_; simp only [gxD]; omega)) only [↓gxPre, gxPost, ↓reduceIte, Nat.reduceEqDiff, reduceCtorEq, Nat.reduceAdd, *]; done)) ?_
  simp (disch := first | assumption | omega | rfl | (refine id ?_; simp only [gxD, ne_eq, reduceCtorEq, not_false_eq_true, Nat.reduceAdd, *]; done) | (refine id ?_; simp only [gxD]; omega)) only [↓gxPre, gxPost, ↓reduceIte, Nat.reduceEqDiff, reduceCtorEq, Nat.reduceAdd, *]
  cases h : within xs.length 1 128
  · simp (disch := first | assumption | omega | rfl | (refine id ?_; simp only [gxD, ne_eq, reduceCtorEq, not_false_eq_true, Nat.reduceAdd, *]; done) | (refine id ?_; simp only [gxD]; omega)) only [↓gxPre, gxPost, ↓reduceIte, Nat.reduceEqDiff, reduceCtorEq, Nat.reduceAdd]
    simp only [integersF, h, Bool.false_and]
  simp (disch := first | assumption | omega | rfl | (refine id ?_; simp only [gxD, ne_eq, reduceCtorEq, not_false_eq_true, Nat.reduceAdd, *]; done) | (refine id ?_; simp only [gxD]; omega)) only [↓gxPre, gxPost, ↓reduceIte, Nat.reduceEqDiff, reduceCtorEq, Nat.reduceAdd]
  refine callR_pure (i_areWithin_ok hv hn (by omega) (by omega)) (.inl rfl) ?_
  simp (disch := first | assumption | omega | rfl | (refine id ?_; simp only [gxD, ne_eq, reduceCtorEq, not_false_eq_true, Nat.reduceAdd, *]; done) | (refine id ?_; simp only [gxD]; omega)) only [↓gxPre, gxPost, ↓reduceIte, Nat.reduceEqDiff, reduceCtorEq, Nat.reduceAdd]
  simp only [integersF, h, Bool.true_and]
theorem s_l02Integers_ok {H : Heap} {v : Value} {xs : List Int} (hv : IS H v xs) (hn : xs.length ≤ 2 ^ 40) : ACalls Try.prog n_s_l02Integers [v] H fun r H' => r = .bool (integersF xs) ∧ H' = H := by
  refine k_s_l02Integers.run rfl ?_
  unfold c_s_l02Integers
  by_cases h1 : (1 : Int) ≤ xs.length
  rotate_left
  · simp (disch := first | assumption | omega | rfl | (refine id ?_; simp only [gxD, ne_eq, reduceCtorEq, not_false_eq_true, Nat.reduceAdd, *]; done) | (refine id ?_; simp only [gxD]; omega)) only [↓gxPre, gxPost, ↓reduceIte, Nat.reduceEqDiff, reduceCtorEq, Nat.reduceAdd, hv.len, h1]
    have : within xs.length 1 128 = false := by simp [within]; omega
    simp only [integersF, this, Bool.false_and]
  by_cases h2 : (xs.length : Int) ≤ 128
  rotate_left
  · simp (disch := first | assumption | omega | rfl | (refine id ?_; simp only [gxD, ne_eq, reduceCtorEq, not_false_eq_true, Nat.reduceAdd, *]; done) | (refine id ?_; simp only [gxD]; omega)) only [↓gxPre, gxPost, ↓reduceIte, Nat.reduceEqDiff, reduceCtorEq, Nat.reduceAdd, hv.len, h1, h2]
    have : within xs.length 1 128 = false := by simp [within]; omega
    simp only [integersF, this, Bool.false_and]
  simp (disch := first | assumption | omega | rfl | (refine id ?_; simp only [gxD, ne_eq, reduceCtorEq, not_false_eq_true, Nat.reduceAdd, *]; done) | (refine id ?_; simp only [gxD]; omega)) only [↓gxPre, gxPost, ↓reduceIte, Nat.reduceEqDiff, reduceCtorEq, Nat.reduceAdd, hv.len, h1, h2]
  refine callR_pure (s_l02Bound_ok hv hn (by omega) (by omega)) (.inl rfl) ?_
  simp (disch := first | assumption | omega | rfl | (refine id ?_; simp only [gxD, ne_eq, reduceCtorEq, not_false_eq_true, Nat.reduceAdd, *]; done) | (refine id ?_; simp only [gxD]; omega)) only [↓gxPre, gxPost, ↓reduceIte, Nat.reduceEqDiff, reduceCtorEq, Nat.reduceAdd]
  simp only [integersF, within_true.2 ⟨h1, h2⟩, Bool.true_and]
theorem s_l02Kind_ok {H : Heap} {a : Int} : ACalls Try.prog n_s_l02Kind [.int .i64 a] H fun r H' => r = .bool (within a 0 2) ∧ H' = H := by
  refine k_s_l02Kind.run rfl ?_
  unfold c_s_l02Kind
  ((try simp (disch := first | assumption | omega | rfl | (refine id ?_; simp only [gxD, ne_eq, reduceCtorEq, not_false_eq_true, Nat.reduceAdd, *]; done) | (refine id ?_; simp only [gxD]; omega)) only [↓gxPre, gxPost, ↓reduceIte, Nat.reduceEqDiff, reduceCtorEq, Nat.reduceAdd, *]); repeat' (first | (refine grdR_split (fun _ => ?_) (fun _ => ?_) <;> simp (disch := first | assumption | omega | rfl | (refine id ?_; simp only [gxD, ne_eq, reduceCtorEq, not_false_eq_true, Nat.reduceAdd, *]; done) | (refine id ?_; simp only [gxD]; omega)) only [↓gxPre, gxPost, ↓reduceIte, Nat.reduceEqDiff, reduceCtorEq, Nat.reduceAdd, *]) | (refine condR_split (fun _ => ?_) (fun _ => ?_) <;> simp (disch := first | assumption | omega | rfl | (refine id ?_; simp only [gxD, ne_eq, reduceCtorEq, not_false_eq_true, Nat.reduceAdd, *]; done) | (refine id ?_; simp only [gxD]; omega)) only [↓gxPre, gxPost, ↓reduceIte, Nat.reduceEqDiff, reduceCtorEq, Nat.reduceAdd, *]) | (refine callR_pure (s_l00In_ok) (by first | exact Or.inl rfl | (simp (disch := first | assumption | omega | rfl | (refine id ?_; simp only [gxD, ne_eq, reduceCtorEq, not_false_eq_true, Nat.reduceAdd, *]; done) | (refine id ?_; simp only [gxD]; omega)) only [↓gxPre, gxPost, ↓reduceIte, Nat.reduceEqDiff, reduceCtorEq, Nat.reduceAdd, *]; done)) ?_; simp (disch := first | assumption | omega | rfl | (refine id ?_; simp only [gxD, ne_eq, reduceCtorEq, not_false_eq_true, Nat.reduceAdd, *]; done) | (refine id ?_; simp only [gxD]; omega)) only [↓gxPre, gxPost, ↓reduceIte, Nat.reduceEqDiff, reduceCtorEq, Nat.reduceAdd, *])))
theorem s_l02Levels_ok {H : Heap} {a : Int} : ACalls Try.prog n_s_l02Levels [.int .i64 a] H fun r H' => r = .bool (within a 1 6) ∧ H' = H := by
  refine k_s_l02Levels.run rfl ?_
  unfold c_s_l02Levels
  ((try simp (disch := first | assumption | omega | rfl | (refine id ?_; simp only [gxD, ne_eq, reduceCtorEq, not_false_eq_true, Nat.reduceAdd, *]; done) | (refine id ?_; simp only [gxD]; omega)) only [↓gxPre, gxPost, ↓reduceIte, Nat.reduceEqDiff, reduceCtorEq, Nat.reduceAdd, *]); repeat' (first | (refine grdR_split (fun _ => ?_) (fun _ => ?_) <;> simp (disch := first | assumption | omega | rfl | (refine id ?_; simp only [gxD, ne_eq, reduceCtorEq, not_false_eq_true, Nat.reduceAdd, *]; done) | (refine id ?_; simp only [gxD]; omega)) only [↓gxPre, gxPost, ↓reduceIte, Nat.reduceEqDiff, reduceCtorEq, Nat.reduceAdd, *]) | (refine condR_split (fun _ => ?_) (fun _ => ?_) <;> simp (disch := first | assumption | omega | rfl | (refine id ?_; simp only [gxD, ne_eq, reduceCtorEq, not_false_eq_true, Nat.reduceAdd, *]; done) | (refine id ?_; simp only [gxD]; omega)) only [↓gxPre, gxPost, ↓reduceIte, Nat.reduceEqDiff, reduceCtorEq, Nat.reduceAdd, *]) | (refine callR_pure (s_l00In_ok) (by first | exact Or.inl rfl | (simp (disch := first | assumption | omega | rfl | (refine id ?_; simp only [gxD, ne_eq, reduceCtorEq, not_false_eq_true, Nat.reduceAdd, *]; done) | (refine id ?_; simp only [gxD]; omega)) only [↓gxPre, gxPost, ↓reduceIte, Nat.reduceEqDiff, reduceCtorEq, Nat.reduceAdd, *]; done)) ?_; simp (disch := first | assumption | omega | rfl | (refine id ?_; simp only [gxD, ne_eq, reduceCtorEq, not_false_eq_true, Nat.reduceAdd, *]; done) | (refine id ?_; simp only [gxD]; omega)) only [↓gxPre, gxPost, ↓reduceIte, Nat.reduceEqDiff, reduceCtorEq, Nat.reduceAdd, *])))
theorem i_lifted_ok {H : Heap} {kind : Int} {v : Value} {xs : List Int} (hv : IS H v xs) (hn : xs.length ≤ 2 ^ 30) (hw : I64 xs) :
    ACalls Try.prog n_i_lifted [.int .i64 kind, v] H fun r H' => Ext H H' ∧ H.n + 2 ≤ H'.n ∧ r = .tuple #[.slice (some ⟨H.n, 0, none⟩) ((xs.length + 1) / 2) ((xs.length + 1) / 2), .slice (some ⟨H.n + 1, 0, none⟩) (xs.length / 2) (xs.length / 2)] ∧
      H'.blk H.n = some ⟨true, t_int64, (liftE kind xs).map iv⟩ ∧ H'.blk (H.n + 1) = some ⟨true, t_int64, (liftO kind xs).map iv⟩ := by
  refine k_i_lifted.run rfl ?_
  unfold c_i_lifted
  obtain ⟨ev, hev⟩ : ∃ ev, ev = evL 0 xs xs.length := ⟨_, rfl⟩
  obtain ⟨od, hod⟩ : ∃ od, od = odL 0 xs xs.length := ⟨_, rfl⟩
  have lev : ev.length = (xs.length + 1) / 2 := by rw [hev, evL_length]
  have lod : od.length = xs.length / 2 := by rw [hod, odL_length]
  have wev : I64 ev := by rw [hev]; exact i64_ev hw _
  have wod : I64 od := by rw [hod]; exact i64_od hw _
  simp (disch := first | assumption | omega | rfl | (refine id ?_; simp only [gxD, ne_eq, reduceCtorEq, not_false_eq_true, Nat.reduceAdd, *]; done) | (refine id ?_; simp only [gxD]; omega)) only [↓gxPre, gxPost, ↓reduceIte, Nat.reduceEqDiff, reduceCtorEq, Nat.reduceAdd]
  refine callR_of (i_split_i_ok hv (by omega)) ?_
  rintro _ K ⟨eK, nK, rfl, hcK, hdK⟩
  rw [← hev] at hcK
  rw [← hod] at hdK
  simp (disch := first | assumption | omega | rfl | (refine id ?_; simp only [gxD, ne_eq, reduceCtorEq, not_false_eq_true, Nat.reduceAdd, *]; done) | (refine id ?_; simp only [gxD]; omega)) only [↓gxPre, gxPost, ↓reduceIte, Nat.reduceEqDiff, reduceCtorEq, Nat.reduceAdd]
  have hu0 : updL (fun j => wr (od.getD j 0 - oddByF kind ev j)) od 0 = od := updL_zero _ _
  refine loop_forH (xs.length / 2) (fun j => [.int .i64 kind, .slice (some ⟨H.n, 0, none⟩) ((xs.length + 1) / 2) ((xs.length + 1) / 2), .slice (some ⟨H.n + 1, 0, none⟩) (xs.length / 2) (xs.length / 2), .int .i64 ((xs.length / 2 : Nat) : Int), .int .i64 j])
    (fun j G => H.n + 2 ≤ G.n ∧ Ext H G ∧ G.blk H.n = some ⟨true, t_int64, ev.map iv⟩ ∧ G.blk (H.n + 1) = some ⟨true, t_int64, (updL (fun j => wr (od.getD j 0 - oddByF kind ev j)) od j).map iv⟩) rfl ⟨nK, eK, hcK, by rw [hu0]; exact hdK⟩ ?_ ?_
  · rintro G ⟨hG, hE, hc, hd⟩
    have hO : updL (fun j => wr (od.getD j 0 - oddByF kind ev j)) od (xs.length / 2) = liftO kind xs := by
      rw [← lod, updL_all, hev, hod]; rfl
    rw [hO] at hd
    have lO := liftO_length kind xs
    have wO := i64_liftO kind xs
    simp (disch := first | assumption | omega | rfl | (refine id ?_; simp only [gxD, ne_eq, reduceCtorEq, not_false_eq_true, Nat.reduceAdd, *]; done) | (refine id ?_; simp only [gxD]; omega)) only [↓gxPre, gxPost, ↓reduceIte, Nat.reduceEqDiff, reduceCtorEq, Nat.reduceAdd, Int.lt_irrefl]
    have hv0 : updL (fun j => wr (ev.getD j 0 + evenByF kind (liftO kind xs) j)) ev 0 = ev := updL_zero _ _
    refine loop_forH ((xs.length + 1) / 2) (fun j => [.int .i64 kind, .slice (some ⟨H.n, 0, none⟩) ((xs.length + 1) / 2) ((xs.length + 1) / 2), .slice (some ⟨H.n + 1, 0, none⟩) (xs.length / 2) (xs.length / 2), .int .i64 (((xs.length + 1) / 2 : Nat) : Int), .int .i64 j])
      (fun j G => H.n + 2 ≤ G.n ∧ Ext H G ∧ G.blk H.n = some ⟨true, t_int64, (updL (fun j => wr (ev.getD j 0 + evenByF kind (liftO kind xs) j)) ev j).map iv⟩ ∧ G.blk (H.n + 1) = some ⟨true, t_int64, (liftO kind xs).map iv⟩) rfl ⟨hG, hE, by rw [hv0]; exact hc, hd⟩ ?_ ?_
    · rintro G ⟨hG, hE, hc, hd⟩
      have hP : updL (fun j => wr (ev.getD j 0 + evenByF kind (liftO kind xs) j)) ev ((xs.length + 1) / 2) = liftE kind xs := by
        rw [← lev, updL_all, hev]; rfl
      rw [hP] at hc
      simp (disch := first | assumption | omega | rfl | (refine id ?_; simp only [gxD, ne_eq, reduceCtorEq, not_false_eq_true, Nat.reduceAdd, *]; done) | (refine id ?_; simp only [gxD]; omega)) only [↓gxPre, gxPost, ↓reduceIte, Nat.reduceEqDiff, reduceCtorEq, Nat.reduceAdd, Int.lt_irrefl]
      exact ⟨hE, hG, hc, hd⟩
    · rintro j G hj ⟨hG, hE, hc, hd⟩
      have l1 : ((updL (fun j => wr (ev.getD j 0 + evenByF kind (liftO kind xs) j)) ev j).map iv).length = (xs.length + 1) / 2 := by rw [lMapI, updL_length, lev]
      have ha := updL_at (g := fun j => wr (ev.getD j 0 + evenByF kind (liftO kind xs) j)) (xs := ev) (i := j) (by omega)
      have hs : ((updL (fun j => wr (ev.getD j 0 + evenByF kind (liftO kind xs) j)) ev j).map iv).set j (.int .i64 (IntKind.wrap .i64 (ev.getD j 0 + evenByF kind (liftO kind xs) j))) = (updL (fun j => wr (ev.getD j 0 + evenByF kind (liftO kind xs) j)) ev (j + 1)).map iv := by
        rw [iv_set, ← updL_set]; rfl
      simp (disch := first | assumption | omega | rfl | (refine id ?_; simp only [gxD, ne_eq, reduceCtorEq, not_false_eq_true, Nat.reduceAdd, *]; done) | (refine id ?_; simp only [gxD]; omega)) only [↓gxPre, gxPost, ↓reduceIte, Nat.reduceEqDiff, reduceCtorEq, Nat.reduceAdd, hc, hd, ha]
      refine callR_pure (i_evenBy_ok (IS.own hd (by omega) lO) (by omega) (by omega) wO) (by first | exact .inl rfl | (simp (disch := first | assumption | omega | rfl | (refine id ?_; simp only [gxD, ne_eq, reduceCtorEq, not_false_eq_true, Nat.reduceAdd, *]; done) | (refine id ?_; simp only [gxD]; omega)) only [↓gxPre, gxPost, ↓reduceIte, Nat.reduceEqDiff, reduceCtorEq, Nat.reduceAdd, hc, hd, ha]; done)) ?_
      simp (disch := first | assumption | omega | rfl | (refine id ?_; simp only [gxD, ne_eq, reduceCtorEq, not_false_eq_true, Nat.reduceAdd, *]; done) | (refine id ?_; simp only [gxD]; omega)) only [↓gxPre, gxPost, ↓reduceIte, Nat.reduceEqDiff, reduceCtorEq, Nat.reduceAdd, hc, hd, ha]
      exact ⟨by simp, hG, hE.put (Nat.le_refl _) _, by rw [hs]⟩
  · rintro j G hj ⟨hG, hE, hc, hd⟩
    have l1 : ((updL (fun j => wr (od.getD j 0 - oddByF kind ev j)) od j).map iv).length = xs.length / 2 := by rw [lMapI, updL_length, lod]
    have ha := updL_at (g := fun j => wr (od.getD j 0 - oddByF kind ev j)) (xs := od) (i := j) (by omega)
    have hs : ((updL (fun j => wr (od.getD j 0 - oddByF kind ev j)) od j).map iv).set j (.int .i64 (IntKind.wrap .i64 (od.getD j 0 - oddByF kind ev j))) = (updL (fun j => wr (od.getD j 0 - oddByF kind ev j)) od (j + 1)).map iv := by
      rw [iv_set, ← updL_set]; rfl
    simp (disch := first | assumption | omega | rfl | (refine id ?_; simp only [gxD, ne_eq, reduceCtorEq, not_false_eq_true, Nat.reduceAdd, *]; done) | (refine id ?_; simp only [gxD]; omega)) only [↓gxPre, gxPost, ↓reduceIte, Nat.reduceEqDiff, reduceCtorEq, Nat.reduceAdd, hc, hd, ha]
    refine callR_ext (i_oddBy_ok (IS.own hc (by omega) lev) (by omega) (by omega) wev) ?_
    intro G1 n1 b1
    have hc1 := (b1 H.n (by omega)).trans hc
    have hd1 := (b1 (H.n + 1) (by omega)).trans hd
    have e1 : Ext G G1 := ⟨n1, b1⟩
    simp (disch := first | assumption | omega | rfl | (refine id ?_; simp only [gxD, ne_eq, reduceCtorEq, not_false_eq_true, Nat.reduceAdd, *]; done) | (refine id ?_; simp only [gxD]; omega)) only [↓gxPre, gxPost, ↓reduceIte, Nat.reduceEqDiff, reduceCtorEq, Nat.reduceAdd, hc1, hd1, ha]
    exact ⟨by simp, by omega, (hE.trans e1).put (by omega) _, by rw [hs]⟩
theorem s_l02Lift_ok {H : Heap} {kind : Int} {v : Value} {xs : List Int} (hv : IS H v xs) (hn : xs.length ≤ 2 ^ 30) (hw : I64 xs) :
    ACalls Try.prog n_s_l02Lift [.int .i64 kind, v] H fun r H' => Ext H H' ∧ H.n + 2 ≤ H'.n ∧ r = .tuple #[.slice (some ⟨H.n, 0, none⟩) ((xs.length + 1) / 2) ((xs.length + 1) / 2), .slice (some ⟨H.n + 1, 0, none⟩) (xs.length / 2) (xs.length / 2)] ∧
      H'.blk H.n = some ⟨true, t_int64, (liftE kind xs).map iv⟩ ∧ H'.blk (H.n + 1) = some ⟨true, t_int64, (liftO kind xs).map iv⟩ := by
  refine k_s_l02Lift.run rfl ?_
  unfold c_s_l02Lift
  obtain ⟨ev, hev⟩ : ∃ ev, ev = evL 0 xs xs.length := ⟨_, rfl⟩
  obtain ⟨od, hod⟩ : ∃ od, od = odL 0 xs xs.length := ⟨_, rfl⟩
  have lev : ev.length = (xs.length + 1) / 2 := by rw [hev, evL_length]
  have lod : od.length = xs.length / 2 := by rw [hod, odL_length]
  have wev : I64 ev := by rw [hev]; exact i64_ev hw _
  have wod : I64 od := by rw [hod]; exact i64_od hw _
  simp (disch := first | assumption | omega | rfl | (refine id ?_; simp only [gxD, ne_eq, reduceCtorEq, not_false_eq_true, Nat.reduceAdd, *]; done) | (refine id ?_; simp only [gxD]; omega)) only [↓gxPre, gxPost, ↓reduceIte, Nat.reduceEqDiff, reduceCtorEq, Nat.reduceAdd]
  refine callR_of (s_l02Split_ok hv (by omega)) ?_
  rintro _ K ⟨eK, nK, rfl, hcK, hdK⟩
  rw [← hev] at hcK
  rw [← hod] at hdK
  simp (disch := first | assumption | omega | rfl | (refine id ?_; simp only [gxD, ne_eq, reduceCtorEq, not_false_eq_true, Nat.reduceAdd, *]; done) | (refine id ?_; simp only [gxD]; omega)) only [↓gxPre, gxPost, ↓reduceIte, Nat.reduceEqDiff, reduceCtorEq, Nat.reduceAdd]
  have hu0 : updL (fun j => wr (od.getD j 0 - oddByF kind ev j)) od 0 = od := updL_zero _ _
  refine loop_forH (xs.length / 2) (fun j => [.int .i64 kind, .slice (some ⟨H.n, 0, none⟩) ((xs.length + 1) / 2) ((xs.length + 1) / 2), .slice (some ⟨H.n + 1, 0, none⟩) (xs.length / 2) (xs.length / 2), .int .i64 j])
    (fun j G => H.n + 2 ≤ G.n ∧ Ext H G ∧ G.blk H.n = some ⟨true, t_int64, ev.map iv⟩ ∧ G.blk (H.n + 1) = some ⟨true, t_int64, (updL (fun j => wr (od.getD j 0 - oddByF kind ev j)) od j).map iv⟩) rfl ⟨nK, eK, hcK, by rw [hu0]; exact hdK⟩ ?_ ?_
  · rintro G ⟨hG, hE, hc, hd⟩
    have hO : updL (fun j => wr (od.getD j 0 - oddByF kind ev j)) od (xs.length / 2) = liftO kind xs := by
      rw [← lod, updL_all, hev, hod]; rfl
    rw [hO] at hd
    have lO := liftO_length kind xs
    have wO := i64_liftO kind xs
    simp (disch := first | assumption | omega | rfl | (refine id ?_; simp only [gxD, ne_eq, reduceCtorEq, not_false_eq_true, Nat.reduceAdd, *]; done) | (refine id ?_; simp only [gxD]; omega)) only [↓gxPre, gxPost, ↓reduceIte, Nat.reduceEqDiff, reduceCtorEq, Nat.reduceAdd, Int.lt_irrefl]
    have hv0 : updL (fun j => wr (ev.getD j 0 + evenByF kind (liftO kind xs) j)) ev 0 = ev := updL_zero _ _
    refine loop_forH ((xs.length + 1) / 2) (fun j => [.int .i64 kind, .slice (some ⟨H.n, 0, none⟩) ((xs.length + 1) / 2) ((xs.length + 1) / 2), .slice (some ⟨H.n + 1, 0, none⟩) (xs.length / 2) (xs.length / 2), .int .i64 j])
      (fun j G => H.n + 2 ≤ G.n ∧ Ext H G ∧ G.blk H.n = some ⟨true, t_int64, (updL (fun j => wr (ev.getD j 0 + evenByF kind (liftO kind xs) j)) ev j).map iv⟩ ∧ G.blk (H.n + 1) = some ⟨true, t_int64, (liftO kind xs).map iv⟩) rfl ⟨hG, hE, by rw [hv0]; exact hc, hd⟩ ?_ ?_
    · rintro G ⟨hG, hE, hc, hd⟩
      have hP : updL (fun j => wr (ev.getD j 0 + evenByF kind (liftO kind xs) j)) ev ((xs.length + 1) / 2) = liftE kind xs := by
        rw [← lev, updL_all, hev]; rfl
      rw [hP] at hc
      simp (disch := first | assumption | omega | rfl | (refine id ?_; simp only [gxD, ne_eq, reduceCtorEq, not_false_eq_true, Nat.reduceAdd, *]; done) | (refine id ?_; simp only [gxD]; omega)) only [↓gxPre, gxPost, ↓reduceIte, Nat.reduceEqDiff, reduceCtorEq, Nat.reduceAdd, Int.lt_irrefl]
      exact ⟨hE, hG, hc, hd⟩
    · rintro j G hj ⟨hG, hE, hc, hd⟩
      have l1 : ((updL (fun j => wr (ev.getD j 0 + evenByF kind (liftO kind xs) j)) ev j).map iv).length = (xs.length + 1) / 2 := by rw [lMapI, updL_length, lev]
      have ha := updL_at (g := fun j => wr (ev.getD j 0 + evenByF kind (liftO kind xs) j)) (xs := ev) (i := j) (by omega)
      have hs : ((updL (fun j => wr (ev.getD j 0 + evenByF kind (liftO kind xs) j)) ev j).map iv).set j (.int .i64 (IntKind.wrap .i64 (ev.getD j 0 + evenByF kind (liftO kind xs) j))) = (updL (fun j => wr (ev.getD j 0 + evenByF kind (liftO kind xs) j)) ev (j + 1)).map iv := by
        rw [iv_set, ← updL_set]; rfl
      simp (disch := first | assumption | omega | rfl | (refine id ?_; simp only [gxD, ne_eq, reduceCtorEq, not_false_eq_true, Nat.reduceAdd, *]; done) | (refine id ?_; simp only [gxD]; omega)) only [↓gxPre, gxPost, ↓reduceIte, Nat.reduceEqDiff, reduceCtorEq, Nat.reduceAdd, hc, hd, ha]
      refine callR_pure (s_l02Gain_ok (IS.own hd (by omega) lO) (by omega) (by omega) wO) (by first | exact .inl rfl | (simp (disch := first | assumption | omega | rfl | (refine id ?_; simp only [gxD, ne_eq, reduceCtorEq, not_false_eq_true, Nat.reduceAdd, *]; done) | (refine id ?_; simp only [gxD]; omega)) only [↓gxPre, gxPost, ↓reduceIte, Nat.reduceEqDiff, reduceCtorEq, Nat.reduceAdd, hc, hd, ha]; done)) ?_
      simp (disch := first | assumption | omega | rfl | (refine id ?_; simp only [gxD, ne_eq, reduceCtorEq, not_false_eq_true, Nat.reduceAdd, *]; done) | (refine id ?_; simp only [gxD]; omega)) only [↓gxPre, gxPost, ↓reduceIte, Nat.reduceEqDiff, reduceCtorEq, Nat.reduceAdd, hc, hd, ha]
      exact ⟨by simp, hG, hE.put (Nat.le_refl _) _, by rw [hs]⟩
  · rintro j G hj ⟨hG, hE, hc, hd⟩
    have l1 : ((updL (fun j => wr (od.getD j 0 - oddByF kind ev j)) od j).map iv).length = xs.length / 2 := by rw [lMapI, updL_length, lod]
    have ha := updL_at (g := fun j => wr (od.getD j 0 - oddByF kind ev j)) (xs := od) (i := j) (by omega)
    have hs : ((updL (fun j => wr (od.getD j 0 - oddByF kind ev j)) od j).map iv).set j (.int .i64 (IntKind.wrap .i64 (od.getD j 0 - oddByF kind ev j))) = (updL (fun j => wr (od.getD j 0 - oddByF kind ev j)) od (j + 1)).map iv := by
      rw [iv_set, ← updL_set]; rfl
    simp (disch := first | assumption | omega | rfl | (refine id ?_; simp only [gxD, ne_eq, reduceCtorEq, not_false_eq_true, Nat.reduceAdd, *]; done) | (refine id ?_; simp only [gxD]; omega)) only [↓gxPre, gxPost, ↓reduceIte, Nat.reduceEqDiff, reduceCtorEq, Nat.reduceAdd, hc, hd, ha]
    refine callR_pure (s_l02Guess_ok (IS.own hc (by omega) lev) (by omega) (by omega) wev) (by first | exact .inl rfl | (simp (disch := first | assumption | omega | rfl | (refine id ?_; simp only [gxD, ne_eq, reduceCtorEq, not_false_eq_true, Nat.reduceAdd, *]; done) | (refine id ?_; simp only [gxD]; omega)) only [↓gxPre, gxPost, ↓reduceIte, Nat.reduceEqDiff, reduceCtorEq, Nat.reduceAdd, hc, hd, ha]; done)) ?_
    simp (disch := first | assumption | omega | rfl | (refine id ?_; simp only [gxD, ne_eq, reduceCtorEq, not_false_eq_true, Nat.reduceAdd, *]; done) | (refine id ?_; simp only [gxD]; omega)) only [↓gxPre, gxPost, ↓reduceIte, Nat.reduceEqDiff, reduceCtorEq, Nat.reduceAdd, hc, hd, ha]
    exact ⟨by simp, hG, hE.put (by omega) _, by rw [hs]⟩
end Go.Proofs.Ytkojmlpaamdhoad
