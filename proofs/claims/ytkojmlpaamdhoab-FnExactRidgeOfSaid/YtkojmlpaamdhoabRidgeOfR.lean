/- Frames led back; ridges; parts of pictures. -/
import Derived.Test.YtkojmlpaamdhoabRidgeOfO
namespace Go.Proofs.Ytkojmlpaamdhoab
open Go.Gx
set_option maxRecDepth 100000
set_option linter.unusedSimpArgs false
set_option linter.unusedVariables false

theorem rows_yes {xss : List (List Nat)} {most : Int} (h : rowsF xss most = true) : (1 ≤ (xss.length : Int) ∧ (xss.length : Int) ≤ most) ∧ ∀ j, j < xss.length → isLongF (xss.getD j []) = true ∧ (xss.getD j []).length = (xss.getD 0 []).length := by
  unfold rowsF at h
  simp only [Bool.and_eq_true] at h
  refine ⟨within_true.1 h.1, fun j hj => ?_⟩
  have := allR.1 h.2 j hj
  simpa using this
theorem long_len {xs : List Nat} (h : isLongF xs = true) : (1 ≤ xs.length ∧ xs.length ≤ 128) ∧ xs.all finF = true := by
  unfold isLongF at h
  simp only [Bool.and_eq_true] at h
  have := within_true.1 h.1
  exact ⟨by omega, h.2⟩
theorem tab_set {m i a : Nat} {f g : Nat → Nat} (h1 : g i = a) (h2 : ∀ j, j < m → j ≠ i → g j = f j) : (tabL m f).set i a = tabL m g := by
  refine list_ext_getD 0 (by simp [tabL]) fun j hj => ?_
  have hj' : j < m := by simpa [tabL] using hj
  rw [tabL_getD hj']
  by_cases hji : j = i
  · subst hji
    rw [getD_set_self (by rw [tabL_length]; exact hj'), h1]
  · rw [Go.Gx.getD_set_ne (Ne.symm hji), tabL_getD hj', h2 j hj' hji]
theorem rep_tab (m : Nat) : List.replicate m (Value.float .f32 0) = (tabL m fun _ => 0).map fv := by
  simp [tabL, fv, List.map_const']
theorem tab_at {m i : Nat} {f : Nat → Nat} (h : i < m) : ((tabL m f).map fv)[i]? = some (.float .f32 (f i)) := by
  simp [tabL, h, fv]
def frameAt (xss : List (List Nat)) (t i j : Nat) : Nat := if j < i then frameSum xss j (t + 1) else frameSum xss j t
theorem frameAt_zero (xss : List (List Nat)) (t : Nat) : frameAt xss t 0 = fun j => frameSum xss j t := by funext j; simp [frameAt]
theorem frameAt_next (xss : List (List Nat)) (t m : Nat) : tabL m (frameAt xss t m) = tabL m (frameAt xss (t + 1) 0) := tabL_congr fun j hj => by simp [frameAt, hj]
theorem frameAt_set {xss : List (List Nat)} {t i m : Nat} : (tabL m (frameAt xss t i)).set i (fbin .add .f32 (frameAt xss t i i) ((xss.getD (xss.length - 1 - t) []).getD i 0)) = tabL m (frameAt xss t (i + 1)) := by
  refine tab_set ?_ fun j _ hne => ?_
  · simp [frameAt, frameSum, foldI_succ]
  · unfold frameAt
    by_cases h : j < i
    · rw [if_pos h, if_pos (by omega)]
    · rw [if_neg h, if_neg (by omega)]
def frameL (xss : List (List Nat)) : List Nat := tabL (xss.getD 0 []).length (frameAt xss xss.length 0)
theorem bestF_lt {xss : List (List Nat)} {i : Nat} (h : 0 < xss.length) : ∀ k, k ≤ xss.length → bestF xss i k < xss.length
  | 0, _ => h
  | k + 1, hk => by
    have ih := bestF_lt (i := i) h k (by omega)
    simp only [bestF, foldI_succ] at ih ⊢
    split
    · omega
    · exact ih
def ridgeL (xss : List (List Nat)) (i : Nat) : List Int := (List.range i).map fun j => ((bestF xss j xss.length : Nat) : Int)
theorem ridgeL_length (xss : List (List Nat)) (i : Nat) : (ridgeL xss i).length = i := by simp [ridgeL]
theorem ridgeL_snoc (xss : List (List Nat)) (i : Nat) : (ridgeL xss i).map iv ++ [.int .i64 ((bestF xss i xss.length : Nat) : Int)] = (ridgeL xss (i + 1)).map iv := by simp [ridgeL, List.range_succ, iv]
theorem i_RidgeOf_law {H : Heap} {v0 : Value} {xs0 : List (List Nat)} (A : AS H v0 xs0) : ACalls Try.prog n_i_RidgeOf [v0] H fun r H' => ListR iv t_int64 H (rowsF xs0 12) (ridgeL xs0 (xs0.getD 0 []).length) r H' := by
  have hm := A.le
  obtain ⟨us, hu, hul, hus⟩ := A.rd
  refine k_i_RidgeOf.run rfl ?_
  unfold c_i_RidgeOf
  simp (disch := first | assumption | omega | rfl | (refine id ?_; simp only [gxD, ne_eq, reduceCtorEq, not_false_eq_true, Nat.reduceAdd, *]; done) | (refine id ?_; simp only [gxD]; omega)) only [↓gxPre, gxPost, ↓reduceIte, Nat.reduceEqDiff, reduceCtorEq, Nat.reduceAdd]
  refine callR_pure (i_areRows_ok A.rd hm) (.inl rfl) ?_
  cases hk : rowsF xs0 12
  · simp (disch := first | assumption | omega | rfl | (refine id ?_; simp only [gxD, ne_eq, reduceCtorEq, not_false_eq_true, Nat.reduceAdd, *]; done) | (refine id ?_; simp only [gxD]; omega)) only [↓gxPre, gxPost, ↓reduceIte, Nat.reduceEqDiff, reduceCtorEq, Nat.reduceAdd]
    exact .no rfl (.refl _)
  have hy := rows_yes hk
  have hl0 := long_len (hy.2 0 (by omega)).1
  obtain ⟨m, hmm⟩ : ∃ m, m = (xs0.getD 0 []).length := ⟨_, rfl⟩
  have hu0 := hu.ext (.new H ⟨true, t_int64, []⟩)
  simp (disch := first | assumption | omega | rfl | (refine id ?_; simp only [gxD, ne_eq, reduceCtorEq, not_false_eq_true, Nat.reduceAdd, *]; done) | (refine id ?_; simp only [gxD]; omega)) only [↓gxPre, gxPost, ↓reduceIte, Nat.reduceEqDiff, reduceCtorEq, Nat.reduceAdd, hu0.ia, hu0.ldD, hul, (hus 0 (by omega)).len, Int.reduceToNat]
  rw [← hmm] at hl0 ⊢
  refine loop_forH m (fun i => [v0, .slice (some ⟨H.n, 0, none⟩) i i, .int .i64 m, .int .i64 i])
    (fun i G => H.n + 1 ≤ G.n ∧ Ext H G ∧ G.blk H.n = some ⟨true, t_int64, (ridgeL xs0 i).map iv⟩) rfl ⟨by simp only [new_n]; omega, ⟨by first | omega | (simp only [new_n, put_n]; omega) | (simp only [new_n, put_n] at *; omega), fun i hi => by simp (disch := first | assumption | omega | rfl | (refine id ?_; simp only [gxD, ne_eq, reduceCtorEq, not_false_eq_true, Nat.reduceAdd, *]; done) | (refine id ?_; simp only [gxD]; omega)) only [↓gxPre, gxPost, ↓reduceIte, Nat.reduceEqDiff, reduceCtorEq, Nat.reduceAdd, *]⟩, by simp (disch := first | assumption | omega | rfl | (refine id ?_; simp only [gxD, ne_eq, reduceCtorEq, not_false_eq_true, Nat.reduceAdd, *]; done) | (refine id ?_; simp only [gxD]; omega)) only [↓gxPre, gxPost, ↓reduceIte, Nat.reduceEqDiff, reduceCtorEq, Nat.reduceAdd]; rfl⟩ ?_ ?_
  · rintro G ⟨hG, hE, hc⟩
    simp (disch := first | assumption | omega | rfl | (refine id ?_; simp only [gxD, ne_eq, reduceCtorEq, not_false_eq_true, Nat.reduceAdd, *]; done) | (refine id ?_; simp only [gxD]; omega)) only [↓gxPre, gxPost, ↓reduceIte, Nat.reduceEqDiff, reduceCtorEq, Nat.reduceAdd, Int.lt_irrefl]
    exact .yes rfl hE (.mk hc (by simp [ridgeL]) (by first | omega | (simp only [new_n, put_n]; omega)) (by first | omega | (simp only [new_n, put_n]; omega)) (by first | omega | (simp only [new_n, put_n]; omega))) (by rw [ridgeL_length]; omega)
  · rintro i G hi ⟨hG, hE, hc⟩
    simp (disch := first | assumption | omega | rfl | (refine id ?_; simp only [gxD, ne_eq, reduceCtorEq, not_false_eq_true, Nat.reduceAdd, *]; done) | (refine id ?_; simp only [gxD]; omega)) only [↓gxPre, gxPost, ↓reduceIte, Nat.reduceEqDiff, reduceCtorEq, Nat.reduceAdd, hu.len, hul]
    refine loop_for xs0.length (fun k => [v0, .slice (some ⟨H.n, 0, none⟩) i i, .int .i64 i, .int .i64 ((bestF xs0 i k : Nat) : Int), .int .i64 m, .int .i64 i, v0, .int .i64 xs0.length, .int .i64 k]) rfl ?_ ?_
    · have ht : ((ridgeL xs0 i).map iv).length = i := by rw [lMapI, ridgeL_length]
      have hb := bestF_lt (xss := xs0) (i := i) (by omega) xs0.length (Nat.le_refl _)
      obtain ⟨f1, f2, f3, f4⟩ := push_at hE hc (Nat.le_refl _) (by omega) (ridgeL_snoc xs0 i)
      simp (disch := first | assumption | omega | rfl | (refine id ?_; simp only [gxD, ne_eq, reduceCtorEq, not_false_eq_true, Nat.reduceAdd, *]; done) | (refine id ?_; simp only [gxD]; omega)) only [↓gxPre, gxPost, ↓reduceIte, Nat.reduceEqDiff, reduceCtorEq, Nat.reduceAdd, Int.lt_irrefl, hc]
      exact ⟨by simp, by omega, f1, by rw [ridgeL_snoc]⟩
    · intro k hkk
      have hb := bestF_lt (xss := xs0) (i := i) (by omega) k (by omega)
      have hu' := hu.ext hE
      have r1 := (hus k hkk).ext hE
      have r2 := (hus _ hb).ext hE
      have l1 := (hy.2 k hkk).2
      have l2 := (hy.2 _ hb).2
      rw [← hmm] at l1 l2
      cases hg : fcB .gtr .f32 ((xs0.getD k []).getD i 0) ((xs0.getD (bestF xs0 i k) []).getD i 0)
      · have hbs : bestF xs0 i (k + 1) = bestF xs0 i k := by
          simp only [bestF, foldI_succ] at hg ⊢
          rw [hg]; rfl
        simp (disch := first | assumption | omega | rfl | (refine id ?_; simp only [gxD, ne_eq, reduceCtorEq, not_false_eq_true, Nat.reduceAdd, *]; done) | (refine id ?_; simp only [gxD]; omega)) only [↓gxPre, gxPost, ↓reduceIte, Nat.reduceEqDiff, reduceCtorEq, Nat.reduceAdd, hu'.ia, hu'.ldD, hul, r1.ia, r1.ld, r2.ia, r2.ld, hg]
        simp [hbs]
      · have hbs : bestF xs0 i (k + 1) = k := by
          simp only [bestF, foldI_succ] at hg ⊢
          rw [hg]; rfl
        simp (disch := first | assumption | omega | rfl | (refine id ?_; simp only [gxD, ne_eq, reduceCtorEq, not_false_eq_true, Nat.reduceAdd, *]; done) | (refine id ?_; simp only [gxD]; omega)) only [↓gxPre, gxPost, ↓reduceIte, Nat.reduceEqDiff, reduceCtorEq, Nat.reduceAdd, hu'.ia, hu'.ldD, hul, r1.ia, r1.ld, r2.ia, r2.ld, hg]
        simp [hbs]
theorem s_RidgeOf_law {H : Heap} {v0 : Value} {xs0 : List (List Nat)} (A : AS H v0 xs0) : ACalls Try.prog n_s_RidgeOf [v0] H fun r H' => ListR iv t_int64 H (rowsF xs0 12) (ridgeL xs0 (xs0.getD 0 []).length) r H' := by
  have hm := A.le
  obtain ⟨us, hu, hul, hus⟩ := A.rd
  refine k_s_RidgeOf.run rfl ?_
  unfold c_s_RidgeOf
  simp (disch := first | assumption | omega | rfl | (refine id ?_; simp only [gxD, ne_eq, reduceCtorEq, not_false_eq_true, Nat.reduceAdd, *]; done) | (refine id ?_; simp only [gxD]; omega)) only [↓gxPre, gxPost, ↓reduceIte, Nat.reduceEqDiff, reduceCtorEq, Nat.reduceAdd]
  refine callR_pure (s_l03Rows_ok A.rd hm) (.inl rfl) ?_
  cases hk : rowsF xs0 12
  · simp (disch := first | assumption | omega | rfl | (refine id ?_; simp only [gxD, ne_eq, reduceCtorEq, not_false_eq_true, Nat.reduceAdd, *]; done) | (refine id ?_; simp only [gxD]; omega)) only [↓gxPre, gxPost, ↓reduceIte, Nat.reduceEqDiff, reduceCtorEq, Nat.reduceAdd]
    exact .no rfl (.refl _)
  have hy := rows_yes hk
  have hl0 := long_len (hy.2 0 (by omega)).1
  obtain ⟨m, hmm⟩ : ∃ m, m = (xs0.getD 0 []).length := ⟨_, rfl⟩
  have hu0 := hu.ext (.new H ⟨true, t_int64, []⟩)
  simp (disch := first | assumption | omega | rfl | (refine id ?_; simp only [gxD, ne_eq, reduceCtorEq, not_false_eq_true, Nat.reduceAdd, *]; done) | (refine id ?_; simp only [gxD]; omega)) only [↓gxPre, gxPost, ↓reduceIte, Nat.reduceEqDiff, reduceCtorEq, Nat.reduceAdd, hu0.ia, hu0.ldD, hul, (hus 0 (by omega)).len, Int.reduceToNat]
  rw [← hmm] at hl0 ⊢
  refine loop_forH m (fun i => [v0, .slice (some ⟨H.n, 0, none⟩) i i, .int .i64 m, .int .i64 i])
    (fun i G => H.n + 1 ≤ G.n ∧ Ext H G ∧ G.blk H.n = some ⟨true, t_int64, (ridgeL xs0 i).map iv⟩) rfl ⟨by simp only [new_n]; omega, ⟨by first | omega | (simp only [new_n, put_n]; omega) | (simp only [new_n, put_n] at *; omega), fun i hi => by simp (disch := first | assumption | omega | rfl | (refine id ?_; simp only [gxD, ne_eq, reduceCtorEq, not_false_eq_true, Nat.reduceAdd, *]; done) | (refine id ?_; simp only [gxD]; omega)) only [↓gxPre, gxPost, ↓reduceIte, Nat.reduceEqDiff, reduceCtorEq, Nat.reduceAdd, *]⟩, by simp (disch := first | assumption | omega | rfl | (refine id ?_; simp only [gxD, ne_eq, reduceCtorEq, not_false_eq_true, Nat.reduceAdd, *]; done) | (refine id ?_; simp only [gxD]; omega)) only [↓gxPre, gxPost, ↓reduceIte, Nat.reduceEqDiff, reduceCtorEq, Nat.reduceAdd]; rfl⟩ ?_ ?_
  · rintro G ⟨hG, hE, hc⟩
    simp (disch := first | assumption | omega | rfl | (refine id ?_; simp only [gxD, ne_eq, reduceCtorEq, not_false_eq_true, Nat.reduceAdd, *]; done) | (refine id ?_; simp only [gxD]; omega)) only [↓gxPre, gxPost, ↓reduceIte, Nat.reduceEqDiff, reduceCtorEq, Nat.reduceAdd, Int.lt_irrefl]
    exact .yes rfl hE (.mk hc (by simp [ridgeL]) (by first | omega | (simp only [new_n, put_n]; omega)) (by first | omega | (simp only [new_n, put_n]; omega)) (by first | omega | (simp only [new_n, put_n]; omega))) (by rw [ridgeL_length]; omega)
  · rintro i G hi ⟨hG, hE, hc⟩
    simp (disch := first | assumption | omega | rfl | (refine id ?_; simp only [gxD, ne_eq, reduceCtorEq, not_false_eq_true, Nat.reduceAdd, *]; done) | (refine id ?_; simp only [gxD]; omega)) only [↓gxPre, gxPost, ↓reduceIte, Nat.reduceEqDiff, reduceCtorEq, Nat.reduceAdd, hu.len, hul]
    refine loop_for xs0.length (fun k => [v0, .slice (some ⟨H.n, 0, none⟩) i i, .int .i64 i, .int .i64 ((bestF xs0 i k : Nat) : Int), .int .i64 m, .int .i64 i, .int .i64 xs0.length, .int .i64 k]) rfl ?_ ?_
    · have ht : ((ridgeL xs0 i).map iv).length = i := by rw [lMapI, ridgeL_length]
      have hb := bestF_lt (xss := xs0) (i := i) (by omega) xs0.length (Nat.le_refl _)
      obtain ⟨f1, f2, f3, f4⟩ := push_at hE hc (Nat.le_refl _) (by omega) (ridgeL_snoc xs0 i)
      simp (disch := first | assumption | omega | rfl | (refine id ?_; simp only [gxD, ne_eq, reduceCtorEq, not_false_eq_true, Nat.reduceAdd, *]; done) | (refine id ?_; simp only [gxD]; omega)) only [↓gxPre, gxPost, ↓reduceIte, Nat.reduceEqDiff, reduceCtorEq, Nat.reduceAdd, Int.lt_irrefl, hc]
      exact ⟨by simp, by omega, f1, by rw [ridgeL_snoc]⟩
    · intro k hkk
      have hb := bestF_lt (xss := xs0) (i := i) (by omega) k (by omega)
      have hu' := hu.ext hE
      have r1 := (hus k hkk).ext hE
      have r2 := (hus _ hb).ext hE
      have l1 := (hy.2 k hkk).2
      have l2 := (hy.2 _ hb).2
      rw [← hmm] at l1 l2
      cases hg : fcB .gtr .f32 ((xs0.getD k []).getD i 0) ((xs0.getD (bestF xs0 i k) []).getD i 0)
      · have hbs : bestF xs0 i (k + 1) = bestF xs0 i k := by
          simp only [bestF, foldI_succ] at hg ⊢
          rw [hg]; rfl
        simp (disch := first | assumption | omega | rfl | (refine id ?_; simp only [gxD, ne_eq, reduceCtorEq, not_false_eq_true, Nat.reduceAdd, *]; done) | (refine id ?_; simp only [gxD]; omega)) only [↓gxPre, gxPost, ↓reduceIte, Nat.reduceEqDiff, reduceCtorEq, Nat.reduceAdd, hu'.ia, hu'.ldD, hul, r1.ia, r1.ld, r2.ia, r2.ld, hg]
        simp [hbs]
      · have hbs : bestF xs0 i (k + 1) = k := by
          simp only [bestF, foldI_succ] at hg ⊢
          rw [hg]; rfl
        simp (disch := first | assumption | omega | rfl | (refine id ?_; simp only [gxD, ne_eq, reduceCtorEq, not_false_eq_true, Nat.reduceAdd, *]; done) | (refine id ?_; simp only [gxD]; omega)) only [↓gxPre, gxPost, ↓reduceIte, Nat.reduceEqDiff, reduceCtorEq, Nat.reduceAdd, hu'.ia, hu'.ldD, hul, r1.ia, r1.ld, r2.ia, r2.ld, hg]
        simp [hbs]
end Go.Proofs.Ytkojmlpaamdhoab
