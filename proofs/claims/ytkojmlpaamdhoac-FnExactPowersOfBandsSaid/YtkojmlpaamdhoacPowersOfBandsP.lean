/- Bands of lists; powers; frames; ridges. -/
import Derived.Test.YtkojmlpaamdhoacPowersOfBandsO
namespace Go.Proofs.Ytkojmlpaamdhoac
open Go.Gx
set_option maxRecDepth 100000
set_option linter.unusedSimpArgs false
set_option linter.unusedVariables false

theorem i_PowersOfBands_law {H : Heap} {v0 u0 : Value} {xs0 : List Nat} {ys0 : List (List Nat)} (A : AF H v0 xs0) (B : AS H u0 ys0) :
    ACalls Try.prog n_i_PowersOfBands [.agg #[v0, u0]] H fun r H' => ListR fv t_float32 H (validBandsF xs0 ys0 && (powersF xs0 ys0).all finF) (powersF xs0 ys0) r H' := by
  have hm := B.le
  have hnx : ys0.length ≤ 2 ^ 40 := by unfold totL at hm; omega
  have o1 := A.rd.one
  have o2 := B.rd.one'
  obtain ⟨us, hu, hul, hus⟩ := B.rd
  refine k_i_PowersOfBands.run rfl ?_
  unfold c_i_PowersOfBands
  simp (disch := first | assumption | omega | rfl | (refine id ?_; simp only [gxD, ne_eq, reduceCtorEq, not_false_eq_true, Nat.reduceAdd, *]; done) | (refine id ?_; simp only [gxD]; omega)) only [↓gxPre, gxPost, ↓reduceIte, Nat.reduceEqDiff, reduceCtorEq, Nat.reduceAdd]
  refine callR_new ?_
  intro G e hb nn
  refine callR_ext (i_ValidBands_ok (A.rd.ext e) (B.rd.ext e) A.le B.le) ?_
  intro K n1 b1
  have eK : Ext H K := e.trans ⟨n1, b1⟩
  have hbK := (b1 H.n (by omega)).trans hb
  cases hk : validBandsF xs0 ys0
  · simp (disch := first | assumption | omega | rfl | (refine id ?_; simp only [gxD, ne_eq, reduceCtorEq, not_false_eq_true, Nat.reduceAdd, *]; done) | (refine id ?_; simp only [gxD]; omega)) only [↓gxPre, gxPost, ↓reduceIte, Nat.reduceEqDiff, reduceCtorEq, Nat.reduceAdd, Bool.false_and, Bool.true_and, Bool.and_true, Bool.and_false, Bool.or_true, Bool.true_or, Bool.false_or, Bool.or_false, Bool.and_self, Bool.or_self]
    exact .no rfl eK
  have hK0 : H.n < K.n := by omega
  simp (disch := first | assumption | omega | rfl | (refine id ?_; simp only [gxD, ne_eq, reduceCtorEq, not_false_eq_true, Nat.reduceAdd, *]; done) | (refine id ?_; simp only [gxD]; omega)) only [↓gxPre, gxPost, ↓reduceIte, Nat.reduceEqDiff, reduceCtorEq, Nat.reduceAdd, hbK, hu.len, hul]
  refine loop_forH ys0.length (fun i => [.pointer (some ⟨H.n, 0, some 2⟩), .slice (some ⟨K.n, 0, none⟩) i i, u0, .int .i64 ys0.length, .int .i64 i])
    (fun i G => K.n + 1 ≤ G.n ∧ Ext K G ∧ G.blk K.n = some ⟨true, t_float32, (tabL i (sqF ys0)).map fv⟩) rfl ⟨by simp only [new_n]; omega, ⟨by first | omega | (simp only [new_n, put_n]; omega) | (simp only [new_n, put_n] at *; omega), fun i hi => by simp (disch := first | assumption | omega | rfl | (refine id ?_; simp only [gxD, ne_eq, reduceCtorEq, not_false_eq_true, Nat.reduceAdd, *]; done) | (refine id ?_; simp only [gxD]; omega)) only [↓gxPre, gxPost, ↓reduceIte, Nat.reduceEqDiff, reduceCtorEq, Nat.reduceAdd, *]⟩, by simp (disch := first | assumption | omega | rfl | (refine id ?_; simp only [gxD, ne_eq, reduceCtorEq, not_false_eq_true, Nat.reduceAdd, *]; done) | (refine id ?_; simp only [gxD]; omega)) only [↓gxPre, gxPost, ↓reduceIte, Nat.reduceEqDiff, reduceCtorEq, Nat.reduceAdd]; rfl⟩ ?_ ?_
  · rintro G ⟨hG, hE, hc⟩
    have hv' := (A.rd.ext eK).ext hE
    have hb' := (hE.blk H.n hK0).trans hbK
    have ht := tabL_length ys0.length (sqF ys0)
    obtain ⟨f1, f2, f3, f4⟩ := push_at hE hc (Nat.le_refl _) (by omega) (fv_snoc' (tabL ys0.length (sqF ys0)) (squaresF xs0))
    have hl : (powersF xs0 ys0).length = ys0.length + 1 := by simp [powersF, tabL_length]
    have h6 := (vb_yes hk).1
    simp (disch := first | assumption | omega | rfl | (refine id ?_; simp only [gxD, ne_eq, reduceCtorEq, not_false_eq_true, Nat.reduceAdd, *]; done) | (refine id ?_; simp only [gxD]; omega)) only [↓gxPre, gxPost, ↓reduceIte, Nat.reduceEqDiff, reduceCtorEq, Nat.reduceAdd, Int.lt_irrefl, hb']
    refine callR_pure (i_squares_ok hv' A.le) (.inl rfl) ?_
    simp (disch := first | assumption | omega | rfl | (refine id ?_; simp only [gxD, ne_eq, reduceCtorEq, not_false_eq_true, Nat.reduceAdd, *]; done) | (refine id ?_; simp only [gxD]; omega)) only [↓gxPre, gxPost, ↓reduceIte, Nat.reduceEqDiff, reduceCtorEq, Nat.reduceAdd, hc, lMapN, tabL_length]
    refine callR_ext (i_finiteList_ok (xs := powersF xs0 ys0) (FS.own f2 (by first | omega | (simp only [new_n, put_n]; omega)) hl) (by omega)) ?_
    intro G2 n2 b2
    have e2 : Ext ((G.new ⟨true, t_float32, [.float .f32 (squaresF xs0)]⟩).put K.n ⟨true, t_float32, (tabL ys0.length (sqF ys0)).map fv ++ [.float .f32 (squaresF xs0)]⟩) G2 := ⟨n2, b2⟩
    rw [f3] at n2
    cases hf : (powersF xs0 ys0).all finF
    · simp (disch := first | assumption | omega | rfl | (refine id ?_; simp only [gxD, ne_eq, reduceCtorEq, not_false_eq_true, Nat.reduceAdd, *]; done) | (refine id ?_; simp only [gxD]; omega)) only [↓gxPre, gxPost, ↓reduceIte, Nat.reduceEqDiff, reduceCtorEq, Nat.reduceAdd, listV]
      exact .no rfl ((eK.trans f1).trans e2)
    · simp (disch := first | assumption | omega | rfl | (refine id ?_; simp only [gxD, ne_eq, reduceCtorEq, not_false_eq_true, Nat.reduceAdd, *]; done) | (refine id ?_; simp only [gxD]; omega)) only [↓gxPre, gxPost, ↓reduceIte, Nat.reduceEqDiff, reduceCtorEq, Nat.reduceAdd, listV]
      exact .yes rfl ((eK.trans f1).trans e2) (.mk ((e2.blk K.n (by first | omega | (simp only [new_n, put_n]; omega))).trans f2) (by simpa using hl) (by first | omega | (simp only [new_n, put_n]; omega)) (by first | omega | (simp only [new_n, put_n]; omega)) (by first | omega | (simp only [new_n, put_n]; omega))) (by omega)
  · rintro i G hi ⟨hG, hE, hc⟩
    have hu' := (hu.ext eK).ext hE
    have ht := tabL_length i (sqF ys0)
    have hm5 : (tabL i (sqF ys0)).map fv ++ [.float .f32 (squaresF (ys0.getD i []))] = (tabL (i + 1) (sqF ys0)).map fv := by rw [tabL_succ, ← fv_snoc']; rfl
    obtain ⟨f1, f2, f3, f4⟩ := push_at hE hc (Nat.le_refl _) (by omega) hm5
    simp (disch := first | assumption | omega | rfl | (refine id ?_; simp only [gxD, ne_eq, reduceCtorEq, not_false_eq_true, Nat.reduceAdd, *]; done) | (refine id ?_; simp only [gxD]; omega)) only [↓gxPre, gxPost, ↓reduceIte, Nat.reduceEqDiff, reduceCtorEq, Nat.reduceAdd, hu'.ia, hu'.ldD, hul]
    refine callR_pure (i_squares_ok (((hus i hi).ext eK).ext hE) (totL_row hm i)) (.inl rfl) ?_
    simp (disch := first | assumption | omega | rfl | (refine id ?_; simp only [gxD, ne_eq, reduceCtorEq, not_false_eq_true, Nat.reduceAdd, *]; done) | (refine id ?_; simp only [gxD]; omega)) only [↓gxPre, gxPost, ↓reduceIte, Nat.reduceEqDiff, reduceCtorEq, Nat.reduceAdd, hc, lMapN, tabL_length]
    exact ⟨by simp, by omega, f1, by rw [hm5]⟩
theorem s_l03Energy_ok {H : Heap} {v : Value} {xs : List Nat} (hv : FS H v xs) (hn : xs.length ≤ 2 ^ 40) :
    ACalls Try.prog n_s_l03Energy [v] H fun r H' => r = .float .f32 (squaresF xs) ∧ H' = H := by
  refine k_s_l03Energy.run rfl ?_
  unfold c_s_l03Energy
  simp (disch := first | assumption | omega | rfl | (refine id ?_; simp only [gxD, ne_eq, reduceCtorEq, not_false_eq_true, Nat.reduceAdd, *]; done) | (refine id ?_; simp only [gxD]; omega)) only [↓gxPre, gxPost, ↓reduceIte, Nat.reduceEqDiff, reduceCtorEq, Nat.reduceAdd, hv.len]
  refine loop_for xs.length (fun i => [v, .float .f32 (foldI (fun i s => fbin .add .f32 s (fbin .mul .f32 (xs.getD i 0) (xs.getD i 0))) 0 i), .int .i64 xs.length, .int .i64 i]) rfl ?_ ?_
  · simp (disch := first | assumption | omega | rfl | (refine id ?_; simp only [gxD, ne_eq, reduceCtorEq, not_false_eq_true, Nat.reduceAdd, *]; done) | (refine id ?_; simp only [gxD]; omega)) only [↓gxPre, gxPost, ↓reduceIte, Nat.reduceEqDiff, reduceCtorEq, Nat.reduceAdd, hv.len, Int.lt_irrefl]
    rfl
  · intro i hi
    simp (disch := first | assumption | omega | rfl | (refine id ?_; simp only [gxD, ne_eq, reduceCtorEq, not_false_eq_true, Nat.reduceAdd, *]; done) | (refine id ?_; simp only [gxD]; omega)) only [↓gxPre, gxPost, ↓reduceIte, Nat.reduceEqDiff, reduceCtorEq, Nat.reduceAdd, hv.len, hv.ia, hv.ld, hi]
    simp [foldI_succ]
theorem s_PowersOfBands_law {H : Heap} {v0 u0 : Value} {xs0 : List Nat} {ys0 : List (List Nat)} (A : AF H v0 xs0) (B : AS H u0 ys0) :
    ACalls Try.prog n_s_PowersOfBands [.agg #[v0, u0]] H fun r H' => ListR fv t_float32 H (validBandsF xs0 ys0 && (powersF xs0 ys0).all finF) (powersF xs0 ys0) r H' := by
  have hm := B.le
  have hnx : ys0.length ≤ 2 ^ 40 := by unfold totL at hm; omega
  have o1 := A.rd.one
  have o2 := B.rd.one'
  obtain ⟨us, hu, hul, hus⟩ := B.rd
  refine k_s_PowersOfBands.run rfl ?_
  unfold c_s_PowersOfBands
  simp (disch := first | assumption | omega | rfl | (refine id ?_; simp only [gxD, ne_eq, reduceCtorEq, not_false_eq_true, Nat.reduceAdd, *]; done) | (refine id ?_; simp only [gxD]; omega)) only [↓gxPre, gxPost, ↓reduceIte, Nat.reduceEqDiff, reduceCtorEq, Nat.reduceAdd]
  refine callR_new ?_
  intro K eK hbK nn
  refine callR_pure (s_l03Bands_ok hbK (A.rd.ext eK) (B.rd.ext eK) A.le B.le) (.inl rfl) ?_
  cases hk : validBandsF xs0 ys0
  · simp (disch := first | assumption | omega | rfl | (refine id ?_; simp only [gxD, ne_eq, reduceCtorEq, not_false_eq_true, Nat.reduceAdd, *]; done) | (refine id ?_; simp only [gxD]; omega)) only [↓gxPre, gxPost, ↓reduceIte, Nat.reduceEqDiff, reduceCtorEq, Nat.reduceAdd, Bool.false_and, Bool.true_and, Bool.and_true, Bool.and_false, Bool.or_true, Bool.true_or, Bool.false_or, Bool.or_false, Bool.and_self, Bool.or_self]
    exact .no rfl eK
  have hK0 : H.n < K.n := by omega
  simp (disch := first | assumption | omega | rfl | (refine id ?_; simp only [gxD, ne_eq, reduceCtorEq, not_false_eq_true, Nat.reduceAdd, *]; done) | (refine id ?_; simp only [gxD]; omega)) only [↓gxPre, gxPost, ↓reduceIte, Nat.reduceEqDiff, reduceCtorEq, Nat.reduceAdd, hbK, hu.len, hul]
  refine loop_forH ys0.length (fun i => [.pointer (some ⟨H.n, 0, some 2⟩), .slice (some ⟨K.n, 0, none⟩) i i, .int .i64 ys0.length, .int .i64 i])
    (fun i G => K.n + 1 ≤ G.n ∧ Ext K G ∧ G.blk K.n = some ⟨true, t_float32, (tabL i (sqF ys0)).map fv⟩) rfl ⟨by simp only [new_n]; omega, ⟨by first | omega | (simp only [new_n, put_n]; omega) | (simp only [new_n, put_n] at *; omega), fun i hi => by simp (disch := first | assumption | omega | rfl | (refine id ?_; simp only [gxD, ne_eq, reduceCtorEq, not_false_eq_true, Nat.reduceAdd, *]; done) | (refine id ?_; simp only [gxD]; omega)) only [↓gxPre, gxPost, ↓reduceIte, Nat.reduceEqDiff, reduceCtorEq, Nat.reduceAdd, *]⟩, by simp (disch := first | assumption | omega | rfl | (refine id ?_; simp only [gxD, ne_eq, reduceCtorEq, not_false_eq_true, Nat.reduceAdd, *]; done) | (refine id ?_; simp only [gxD]; omega)) only [↓gxPre, gxPost, ↓reduceIte, Nat.reduceEqDiff, reduceCtorEq, Nat.reduceAdd]; rfl⟩ ?_ ?_
  · rintro G ⟨hG, hE, hc⟩
    have hv' := (A.rd.ext eK).ext hE
    have hb' := (hE.blk H.n hK0).trans hbK
    have ht := tabL_length ys0.length (sqF ys0)
    obtain ⟨f1, f2, f3, f4⟩ := push_at hE hc (Nat.le_refl _) (by omega) (fv_snoc' (tabL ys0.length (sqF ys0)) (squaresF xs0))
    have hl : (powersF xs0 ys0).length = ys0.length + 1 := by simp [powersF, tabL_length]
    have h6 := (vb_yes hk).1
    simp (disch := first | assumption | omega | rfl | (refine id ?_; simp only [gxD, ne_eq, reduceCtorEq, not_false_eq_true, Nat.reduceAdd, *]; done) | (refine id ?_; simp only [gxD]; omega)) only [↓gxPre, gxPost, ↓reduceIte, Nat.reduceEqDiff, reduceCtorEq, Nat.reduceAdd, Int.lt_irrefl, hb']
    refine callR_pure (s_l03Energy_ok hv' A.le) (.inl rfl) ?_
    simp (disch := first | assumption | omega | rfl | (refine id ?_; simp only [gxD, ne_eq, reduceCtorEq, not_false_eq_true, Nat.reduceAdd, *]; done) | (refine id ?_; simp only [gxD]; omega)) only [↓gxPre, gxPost, ↓reduceIte, Nat.reduceEqDiff, reduceCtorEq, Nat.reduceAdd, hc, lMapN, tabL_length]
    refine callR_pure (s_l02Finite_ok (xs := powersF xs0 ys0) (FS.own f2 (by first | omega | (simp only [new_n, put_n]; omega)) hl) (by omega)) (.inl rfl) ?_
    cases hf : (powersF xs0 ys0).all finF
    · simp (disch := first | assumption | omega | rfl | (refine id ?_; simp only [gxD, ne_eq, reduceCtorEq, not_false_eq_true, Nat.reduceAdd, *]; done) | (refine id ?_; simp only [gxD]; omega)) only [↓gxPre, gxPost, ↓reduceIte, Nat.reduceEqDiff, reduceCtorEq, Nat.reduceAdd]
      exact .no rfl (eK.trans f1)
    · simp (disch := first | assumption | omega | rfl | (refine id ?_; simp only [gxD, ne_eq, reduceCtorEq, not_false_eq_true, Nat.reduceAdd, *]; done) | (refine id ?_; simp only [gxD]; omega)) only [↓gxPre, gxPost, ↓reduceIte, Nat.reduceEqDiff, reduceCtorEq, Nat.reduceAdd]
      exact .yes rfl (eK.trans f1) (.mk f2 (by simpa using hl) (by first | omega | (simp only [new_n, put_n]; omega)) (by first | omega | (simp only [new_n, put_n]; omega)) (by first | omega | (simp only [new_n, put_n]; omega))) (by omega)
  · rintro i G hi ⟨hG, hE, hc⟩
    have hu' := (hu.ext eK).ext hE
    have hb' := (hE.blk H.n hK0).trans hbK
    have ht := tabL_length i (sqF ys0)
    have hm5 : (tabL i (sqF ys0)).map fv ++ [.float .f32 (squaresF (ys0.getD i []))] = (tabL (i + 1) (sqF ys0)).map fv := by rw [tabL_succ, ← fv_snoc']; rfl
    obtain ⟨f1, f2, f3, f4⟩ := push_at hE hc (Nat.le_refl _) (by omega) hm5
    simp (disch := first | assumption | omega | rfl | (refine id ?_; simp only [gxD, ne_eq, reduceCtorEq, not_false_eq_true, Nat.reduceAdd, *]; done) | (refine id ?_; simp only [gxD]; omega)) only [↓gxPre, gxPost, ↓reduceIte, Nat.reduceEqDiff, reduceCtorEq, Nat.reduceAdd, hb', hu'.ia, hu'.ldD, hul]
    refine callR_pure (s_l03Energy_ok (((hus i hi).ext eK).ext hE) (totL_row hm i)) (.inl rfl) ?_
    simp (disch := first | assumption | omega | rfl | (refine id ?_; simp only [gxD, ne_eq, reduceCtorEq, not_false_eq_true, Nat.reduceAdd, *]; done) | (refine id ?_; simp only [gxD]; omega)) only [↓gxPre, gxPost, ↓reduceIte, Nat.reduceEqDiff, reduceCtorEq, Nat.reduceAdd, hc, lMapN, tabL_length]
    exact ⟨by simp, by omega, f1, by rw [hm5]⟩
end Go.Proofs.Ytkojmlpaamdhoac
