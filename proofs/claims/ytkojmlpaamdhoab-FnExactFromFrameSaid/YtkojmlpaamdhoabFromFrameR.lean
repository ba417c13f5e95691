/- Frames led back; ridges; parts of pictures. -/
import Derived.Test.YtkojmlpaamdhoabFromFrameO
namespace Go.Proofs.Ytkojmlpaamdhoab
open Go.Gx
set_option maxRecDepth 100000
set_option linter.unusedSimpArgs false
set_option linter.unusedVariables false

theorem rows_yes {xss : List (List Nat)} {most : Int} (h : rowsF xss most = true) : (1 ≤ (xss.length : Int) ∧ (xss.length : Int) ≤ most) ∧ ∀ j, j < xss.length → isLongF (xss.getD j []) = true ∧ (xss.getD j []).length = (xss.getD 0 []).length := by
  unfold rowsF at h
  simp only [Bool.and_eq_true] at h
  refine ⟨within_true.1 h.1, fun j hj => ?_⟩
  have := allR.1 h.2 j hj
  simpa using this
theorem long_len {xs : List Nat} (h : isLongF xs = true) : (1 ≤ xs.length ∧ xs.length ≤ 128) ∧ xs.all finF = true := by
  unfold isLongF at h
  simp only [Bool.and_eq_true] at h
  have := within_true.1 h.1
  exact ⟨by omega, h.2⟩
theorem tab_set {m i a : Nat} {f g : Nat → Nat} (h1 : g i = a) (h2 : ∀ j, j < m → j ≠ i → g j = f j) : (tabL m f).set i a = tabL m g := by
  refine list_ext_getD 0 (by simp [tabL]) fun j hj => ?_
  have hj' : j < m := by simpa [tabL] using hj
  rw [tabL_getD hj']
  by_cases hji : j = i
  · subst hji
    rw [getD_set_self (by rw [tabL_length]; exact hj'), h1]
  · rw [Go.Gx.getD_set_ne (Ne.symm hji), tabL_getD hj', h2 j hj' hji]
theorem rep_tab (m : Nat) : List.replicate m (Value.float .f32 0) = (tabL m fun _ => 0).map fv := by
  simp [tabL, fv, List.map_const']
theorem tab_at {m i : Nat} {f : Nat → Nat} (h : i < m) : ((tabL m f).map fv)[i]? = some (.float .f32 (f i)) := by
  simp [tabL, h, fv]
def frameAt (xss : List (List Nat)) (t i j : Nat) : Nat := if j < i then frameSum xss j (t + 1) else frameSum xss j t
theorem frameAt_zero (xss : List (List Nat)) (t : Nat) : frameAt xss t 0 = fun j => frameSum xss j t := by funext j; simp [frameAt]
theorem frameAt_next (xss : List (List Nat)) (t m : Nat) : tabL m (frameAt xss t m) = tabL m (frameAt xss (t + 1) 0) := tabL_congr fun j hj => by simp [frameAt, hj]
theorem frameAt_set {xss : List (List Nat)} {t i m : Nat} : (tabL m (frameAt xss t i)).set i (fbin .add .f32 (frameAt xss t i i) ((xss.getD (xss.length - 1 - t) []).getD i 0)) = tabL m (frameAt xss t (i + 1)) := by
  refine tab_set ?_ fun j _ hne => ?_
  · simp [frameAt, frameSum, foldI_succ]
  · unfold frameAt
    by_cases h : j < i
    · rw [if_pos h, if_pos (by omega)]
    · rw [if_neg h, if_neg (by omega)]
def frameL (xss : List (List Nat)) : List Nat := tabL (xss.getD 0 []).length (frameAt xss xss.length 0)
theorem bestF_lt {xss : List (List Nat)} {i : Nat} (h : 0 < xss.length) : ∀ k, k ≤ xss.length → bestF xss i k < xss.length
  | 0, _ => h
  | k + 1, hk => by
    have ih := bestF_lt (i := i) h k (by omega)
    simp only [bestF, foldI_succ] at ih ⊢
    split
    · omega
    · exact ih
def ridgeL (xss : List (List Nat)) (i : Nat) : List Int := (List.range i).map fun j => ((bestF xss j xss.length : Nat) : Int)
theorem ridgeL_length (xss : List (List Nat)) (i : Nat) : (ridgeL xss i).length = i := by simp [ridgeL]
theorem ridgeL_snoc (xss : List (List Nat)) (i : Nat) : (ridgeL xss i).map iv ++ [.int .i64 ((bestF xss i xss.length : Nat) : Int)] = (ridgeL xss (i + 1)).map iv := by simp [ridgeL, List.range_succ, iv]
theorem i_FromFrame_law {H : Heap} {v0 : Value} {xs0 : List (List Nat)} (A : AS H v0 xs0) : ACalls Try.prog n_i_FromFrame [v0] H fun r H' => ListR fv t_float32 H (rowsF xs0 7 && (frameL xs0).all finF) (frameL xs0) r H' := by
  have hm := A.le
  obtain ⟨us, hu, hul, hus⟩ := A.rd
  refine k_i_FromFrame.run rfl ?_
  unfold c_i_FromFrame
  simp (disch := first | assumption | omega | rfl | (refine id ?_; simp only [gxD, ne_eq, reduceCtorEq, not_false_eq_true, Nat.reduceAdd, *]; done) | (refine id ?_; simp only [gxD]; omega)) only [↓gxPre, gxPost, ↓reduceIte, Nat.reduceEqDiff, reduceCtorEq, Nat.reduceAdd]
  refine callR_pure (i_areRows_ok A.rd hm) (.inl rfl) ?_
  cases hk : rowsF xs0 7
  · simp (disch := first | assumption | omega | rfl | (refine id ?_; simp only [gxD, ne_eq, reduceCtorEq, not_false_eq_true, Nat.reduceAdd, *]; done) | (refine id ?_; simp only [gxD]; omega)) only [↓gxPre, gxPost, ↓reduceIte, Nat.reduceEqDiff, reduceCtorEq, Nat.reduceAdd, Bool.false_and, Bool.true_and, Bool.and_true, Bool.and_false, Bool.or_true, Bool.true_or, Bool.false_or, Bool.or_false, Bool.and_self, Bool.or_self]
    exact .no rfl (.refl _)
  have hy := rows_yes hk
  have hl0 := long_len (hy.2 0 (by omega)).1
  obtain ⟨m, hmm⟩ : ∃ m, m = (xs0.getD 0 []).length := ⟨_, rfl⟩
  have hfl : frameL xs0 = tabL m (frameAt xs0 xs0.length 0) := by rw [hmm]; rfl
  simp (disch := first | assumption | omega | rfl | (refine id ?_; simp only [gxD, ne_eq, reduceCtorEq, not_false_eq_true, Nat.reduceAdd, *]; done) | (refine id ?_; simp only [gxD]; omega)) only [↓gxPre, gxPost, ↓reduceIte, Nat.reduceEqDiff, reduceCtorEq, Nat.reduceAdd, hu.ia, hu.ldD, hul, (hus 0 (by omega)).len, eMks_i, Int.reduceToNat, hu.len]
  rw [← hmm] at hl0 ⊢
  refine loop_forH xs0.length (fun t => [v0, .slice (some ⟨H.n, 0, none⟩) m m, .int .i64 ((xs0.length : Int) - 1 - t)])
    (fun t G => H.n + 1 ≤ G.n ∧ Ext H G ∧ G.blk H.n = some ⟨true, t_float32, (tabL m (frameAt xs0 t 0)).map fv⟩) (by simp) ⟨by simp only [new_n]; omega, ⟨by first | omega | (simp only [new_n, put_n]; omega) | (simp only [new_n, put_n] at *; omega), fun i hi => by simp (disch := first | assumption | omega | rfl | (refine id ?_; simp only [gxD, ne_eq, reduceCtorEq, not_false_eq_true, Nat.reduceAdd, *]; done) | (refine id ?_; simp only [gxD]; omega)) only [↓gxPre, gxPost, ↓reduceIte, Nat.reduceEqDiff, reduceCtorEq, Nat.reduceAdd, *]⟩, by rw [new_self, rep_tab]; rfl⟩ ?_ ?_
  · rintro G ⟨hG, hE, hc⟩
    rw [← hfl] at hc
    have hlen : (frameL xs0).length = m := by rw [hfl, tabL_length]
    simp (disch := first | assumption | omega | rfl | (refine id ?_; simp only [gxD, ne_eq, reduceCtorEq, not_false_eq_true, Nat.reduceAdd, *]; done) | (refine id ?_; simp only [gxD]; omega)) only [↓gxPre, gxPost, ↓reduceIte, Nat.reduceEqDiff, reduceCtorEq, Nat.reduceAdd]
    refine callR_ext (i_finiteList_ok (FS.own hc (by omega) hlen) (by omega)) ?_
    intro G2 n2 b2
    have e2 : Ext G G2 := ⟨n2, b2⟩
    cases hf : (frameL xs0).all finF
    · simp (disch := first | assumption | omega | rfl | (refine id ?_; simp only [gxD, ne_eq, reduceCtorEq, not_false_eq_true, Nat.reduceAdd, *]; done) | (refine id ?_; simp only [gxD]; omega)) only [↓gxPre, gxPost, ↓reduceIte, Nat.reduceEqDiff, reduceCtorEq, Nat.reduceAdd, listV]
      exact .no rfl (hE.trans e2)
    · simp (disch := first | assumption | omega | rfl | (refine id ?_; simp only [gxD, ne_eq, reduceCtorEq, not_false_eq_true, Nat.reduceAdd, *]; done) | (refine id ?_; simp only [gxD]; omega)) only [↓gxPre, gxPost, ↓reduceIte, Nat.reduceEqDiff, reduceCtorEq, Nat.reduceAdd, listV]
      exact .yes rfl (hE.trans e2) (.mk ((e2.blk H.n (by omega)).trans hc) (by simpa using hlen) (by first | omega | (simp only [new_n, put_n]; omega)) (by first | omega | (simp only [new_n, put_n]; omega)) (by first | omega | (simp only [new_n, put_n]; omega))) (by omega)
  · rintro t G hlt ⟨hG, hE, hc⟩
    have e2 : ((xs0.length : Int) - 1 - t).toNat = xs0.length - 1 - t := by omega
    have hj : xs0.length - 1 - t < xs0.length := by omega
    have hrl := (hy.2 _ hj).2
    rw [← hmm] at hrl
    have hu' := hu.ext hE
    have hr := (hus _ hj)
    simp (disch := first | assumption | omega | rfl | (refine id ?_; simp only [gxD, ne_eq, reduceCtorEq, not_false_eq_true, Nat.reduceAdd, *]; done) | (refine id ?_; simp only [gxD]; omega)) only [↓gxPre, gxPost, ↓reduceIte, Nat.reduceEqDiff, reduceCtorEq, Nat.reduceAdd, hu'.ia, hu'.ldD, hul, e2, hr.len, hrl]
    refine loop_forH m (fun i => [v0, .slice (some ⟨H.n, 0, none⟩) m m, .int .i64 ((xs0.length : Int) - 1 - t), us.getD (xs0.length - 1 - t) undef, .int .i64 m, .int .i64 i])
      (fun i G => H.n + 1 ≤ G.n ∧ Ext H G ∧ G.blk H.n = some ⟨true, t_float32, (tabL m (frameAt xs0 t i)).map fv⟩) rfl ⟨hG, hE, hc⟩ ?_ ?_
    · rintro G ⟨hG, hE, hc⟩
      rw [frameAt_next] at hc
      simp (disch := first | assumption | omega | rfl | (refine id ?_; simp only [gxD, ne_eq, reduceCtorEq, not_false_eq_true, Nat.reduceAdd, *]; done) | (refine id ?_; simp only [gxD]; omega)) only [↓gxPre, gxPost, ↓reduceIte, Nat.reduceEqDiff, reduceCtorEq, Nat.reduceAdd, Int.lt_irrefl]
      refine ⟨?_, hG, hE, hc⟩
      simp; omega
    · rintro i G hi ⟨hG, hE, hc⟩
      have hr' := hr.ext hE
      have ht : ((tabL m (frameAt xs0 t i)).map fv).length = m := by rw [lMapN, tabL_length]
      have ha := tab_at (f := frameAt xs0 t i) hi
      have hs : ((tabL m (frameAt xs0 t i)).map fv).set i (.float .f32 (fbin .add .f32 (frameAt xs0 t i i) ((xs0.getD (xs0.length - 1 - t) []).getD i 0))) = (tabL m (frameAt xs0 t (i + 1))).map fv := by rw [fv_set', frameAt_set]
      simp (disch := first | assumption | omega | rfl | (refine id ?_; simp only [gxD, ne_eq, reduceCtorEq, not_false_eq_true, Nat.reduceAdd, *]; done) | (refine id ?_; simp only [gxD]; omega)) only [↓gxPre, gxPost, ↓reduceIte, Nat.reduceEqDiff, reduceCtorEq, Nat.reduceAdd, hr'.ia, hr'.ld, hrl, hc, ha]
      exact ⟨by simp, hG, hE.put (Nat.le_refl _) _, by rw [hs]⟩
theorem s_FromFrame_law {H : Heap} {v0 : Value} {xs0 : List (List Nat)} (A : AS H v0 xs0) : ACalls Try.prog n_s_FromFrame [v0] H fun r H' => ListR fv t_float32 H (rowsF xs0 7 && (frameL xs0).all finF) (frameL xs0) r H' := by
  have hm := A.le
  obtain ⟨us, hu, hul, hus⟩ := A.rd
  refine k_s_FromFrame.run rfl ?_
  unfold c_s_FromFrame
  simp (disch := first | assumption | omega | rfl | (refine id ?_; simp only [gxD, ne_eq, reduceCtorEq, not_false_eq_true, Nat.reduceAdd, *]; done) | (refine id ?_; simp only [gxD]; omega)) only [↓gxPre, gxPost, ↓reduceIte, Nat.reduceEqDiff, reduceCtorEq, Nat.reduceAdd]
  refine callR_pure (s_l03Rows_ok A.rd hm) (.inl rfl) ?_
  cases hk : rowsF xs0 7
  · simp (disch := first | assumption | omega | rfl | (refine id ?_; simp only [gxD, ne_eq, reduceCtorEq, not_false_eq_true, Nat.reduceAdd, *]; done) | (refine id ?_; simp only [gxD]; omega)) only [↓gxPre, gxPost, ↓reduceIte, Nat.reduceEqDiff, reduceCtorEq, Nat.reduceAdd, Bool.false_and, Bool.true_and, Bool.and_true, Bool.and_false, Bool.or_true, Bool.true_or, Bool.false_or, Bool.or_false, Bool.and_self, Bool.or_self]
    exact .no rfl (.refl _)
  have hy := rows_yes hk
  have hl0 := long_len (hy.2 0 (by omega)).1
  obtain ⟨m, hmm⟩ : ∃ m, m = (xs0.getD 0 []).length := ⟨_, rfl⟩
  have hfl : frameL xs0 = tabL m (frameAt xs0 xs0.length 0) := by rw [hmm]; rfl
  simp (disch := first | assumption | omega | rfl | (refine id ?_; simp only [gxD, ne_eq, reduceCtorEq, not_false_eq_true, Nat.reduceAdd, *]; done) | (refine id ?_; simp only [gxD]; omega)) only [↓gxPre, gxPost, ↓reduceIte, Nat.reduceEqDiff, reduceCtorEq, Nat.reduceAdd, hu.ia, hu.ldD, hul, (hus 0 (by omega)).len, eMks_i, Int.reduceToNat, hu.len]
  rw [← hmm] at hl0 ⊢
  refine loop_forH xs0.length (fun t => [v0, .slice (some ⟨H.n, 0, none⟩) m m, .int .i64 ((xs0.length : Int) - 1 - t)])
    (fun t G => H.n + 1 ≤ G.n ∧ Ext H G ∧ G.blk H.n = some ⟨true, t_float32, (tabL m (frameAt xs0 t 0)).map fv⟩) (by simp) ⟨by simp only [new_n]; omega, ⟨by first | omega | (simp only [new_n, put_n]; omega) | (simp only [new_n, put_n] at *; omega), fun i hi => by simp (disch := first | assumption | omega | rfl | (refine id ?_; simp only [gxD, ne_eq, reduceCtorEq, not_false_eq_true, Nat.reduceAdd, *]; done) | (refine id ?_; simp only [gxD]; omega)) only [↓gxPre, gxPost, ↓reduceIte, Nat.reduceEqDiff, reduceCtorEq, Nat.reduceAdd, *]⟩, by rw [new_self, rep_tab]; rfl⟩ ?_ ?_
  · rintro G ⟨hG, hE, hc⟩
    rw [← hfl] at hc
    have hlen : (frameL xs0).length = m := by rw [hfl, tabL_length]
    simp (disch := first | assumption | omega | rfl | (refine id ?_; simp only [gxD, ne_eq, reduceCtorEq, not_false_eq_true, Nat.reduceAdd, *]; done) | (refine id ?_; simp only [gxD]; omega)) only [↓gxPre, gxPost, ↓reduceIte, Nat.reduceEqDiff, reduceCtorEq, Nat.reduceAdd]
    refine callR_pure (s_l02Finite_ok (FS.own hc (by omega) hlen) (by omega)) (.inl rfl) ?_
    cases hf : (frameL xs0).all finF
    · simp (disch := first | assumption | omega | rfl | (refine id ?_; simp only [gxD, ne_eq, reduceCtorEq, not_false_eq_true, Nat.reduceAdd, *]; done) | (refine id ?_; simp only [gxD]; omega)) only [↓gxPre, gxPost, ↓reduceIte, Nat.reduceEqDiff, reduceCtorEq, Nat.reduceAdd]
      exact .no rfl hE
    · simp (disch := first | assumption | omega | rfl | (refine id ?_; simp only [gxD, ne_eq, reduceCtorEq, not_false_eq_true, Nat.reduceAdd, *]; done) | (refine id ?_; simp only [gxD]; omega)) only [↓gxPre, gxPost, ↓reduceIte, Nat.reduceEqDiff, reduceCtorEq, Nat.reduceAdd]
      exact .yes rfl hE (.mk hc (by simpa using hlen) (by first | omega | (simp only [new_n, put_n]; omega)) (by first | omega | (simp only [new_n, put_n]; omega)) (by first | omega | (simp only [new_n, put_n]; omega))) (by omega)
  · rintro t G hlt ⟨hG, hE, hc⟩
    have e2 : ((xs0.length : Int) - 1 - t).toNat = xs0.length - 1 - t := by omega
    have hj : xs0.length - 1 - t < xs0.length := by omega
    have hrl := (hy.2 _ hj).2
    rw [← hmm] at hrl
    have hr := (hus _ hj)
    simp (disch := first | assumption | omega | rfl | (refine id ?_; simp only [gxD, ne_eq, reduceCtorEq, not_false_eq_true, Nat.reduceAdd, *]; done) | (refine id ?_; simp only [gxD]; omega)) only [↓gxPre, gxPost, ↓reduceIte, Nat.reduceEqDiff, reduceCtorEq, Nat.reduceAdd]
    refine loop_forH m (fun i => [v0, .slice (some ⟨H.n, 0, none⟩) m m, .int .i64 ((xs0.length : Int) - 1 - t), .int .i64 m, .int .i64 i])
      (fun i G => H.n + 1 ≤ G.n ∧ Ext H G ∧ G.blk H.n = some ⟨true, t_float32, (tabL m (frameAt xs0 t i)).map fv⟩) rfl ⟨hG, hE, hc⟩ ?_ ?_
    · rintro G ⟨hG, hE, hc⟩
      rw [frameAt_next] at hc
      simp (disch := first | assumption | omega | rfl | (refine id ?_; simp only [gxD, ne_eq, reduceCtorEq, not_false_eq_true, Nat.reduceAdd, *]; done) | (refine id ?_; simp only [gxD]; omega)) only [↓gxPre, gxPost, ↓reduceIte, Nat.reduceEqDiff, reduceCtorEq, Nat.reduceAdd, Int.lt_irrefl]
      refine ⟨?_, hG, hE, hc⟩
      simp; omega
    · rintro i G hi ⟨hG, hE, hc⟩
      have hr' := hr.ext hE
      have hu' := hu.ext hE
      have ht : ((tabL m (frameAt xs0 t i)).map fv).length = m := by rw [lMapN, tabL_length]
      have ha := tab_at (f := frameAt xs0 t i) hi
      have hs : ((tabL m (frameAt xs0 t i)).map fv).set i (.float .f32 (fbin .add .f32 (frameAt xs0 t i i) ((xs0.getD (xs0.length - 1 - t) []).getD i 0))) = (tabL m (frameAt xs0 t (i + 1))).map fv := by rw [fv_set', frameAt_set]
      simp (disch := first | assumption | omega | rfl | (refine id ?_; simp only [gxD, ne_eq, reduceCtorEq, not_false_eq_true, Nat.reduceAdd, *]; done) | (refine id ?_; simp only [gxD]; omega)) only [↓gxPre, gxPost, ↓reduceIte, Nat.reduceEqDiff, reduceCtorEq, Nat.reduceAdd, hu'.ia, hu'.ldD, hul, e2, hr'.ia, hr'.ld, hrl, hc, ha]
      exact ⟨by simp, hG, hE.put (Nat.le_refl _) _, by rw [hs]⟩
end Go.Proofs.Ytkojmlpaamdhoab
