/- Coarse lists. -/
import Derived.Test.YtkojmlpaamdhoaeCoarseOfXK
namespace Go.Proofs.Ytkojmlpaamdhoae
open Go.Gx
set_option maxRecDepth 100000
set_option linter.unusedSimpArgs false
set_option linter.unusedVariables false

theorem stopN_all {p : Nat → Bool} : ∀ n k, k < stopN p n → p k = true
  | 0, k, h => absurd h (Nat.not_lt_zero _)
  | n + 1, k, h => by
    have hle := stopN_le p n
    unfold stopN at h
    split at h
    · rename_i hc
      by_cases hk : k = n
      · rw [hk]; exact hc.2
      · exact stopN_all n k (by omega)
    · exact stopN_all n k h
theorem stopN_stop {p : Nat → Bool} {n : Nat} (h : stopN p n < n) : p (stopN p n) = false := by
  cases hp : p (stopN p n)
  · rfl
  · have := stopN_gt (p := p) (t := stopN p n) (n := n) (fun k hk => by
      by_cases hk' : k = stopN p n
      · rw [hk']; exact hp
      · exact stopN_all n k (by omega)) h
    omega
theorem levelsD_len (ws : List Nat) (sc : Nat) (xs : List Nat) (n : Nat) : (levelsD ws sc xs n).length = stopN (moreD ws sc xs) n + 1 := by simp [levelsD, outD_len]
theorem levelsD_at {ws : List Nat} {sc : Nat} {xs : List Nat} {n k : Nat} (hk : k < stopN (moreD ws sc xs) n) : (levelsD ws sc xs n).getD k [] = (liftF ws sc (nowD ws sc xs k)).2 := by
  unfold levelsD
  rw [getD_app_lt (by rw [outD_len]; exact hk), outD]
  exact getD_range_map hk
theorem levelsD_last (ws : List Nat) (sc : Nat) (xs : List Nat) (n : Nat) : (levelsD ws sc xs n).getD (stopN (moreD ws sc xs) n) [] = nowD ws sc xs (stopN (moreD ws sc xs) n) := by
  unfold levelsD
  have := @getD_app_at _ (outD ws sc xs (stopN (moreD ws sc xs) n)) (nowD ws sc xs (stopN (moreD ws sc xs) n)) []
  rwa [outD_len] at this
/-- The sizes from 'k' on make up the list that is lifted at 'k'. -/
theorem levels_suf (ws : List Nat) (sc : Nat) (xs : List Nat) (n : Nat) : ∀ d k, k + d = stopN (moreD ws sc xs) n → sufS ((levelsD ws sc xs n).map List.length) k = (nowD ws sc xs k).length
  | 0, k, h => by
    have hk : k = stopN (moreD ws sc xs) n := by omega
    have hl := levelsD_len ws sc xs n
    have h1 := sufS_last (sz := (levelsD ws sc xs n).map List.length) (by rw [List.length_map]; omega)
    rw [List.length_map, hl, Nat.add_sub_cancel, ← hk, sizes_len] at h1
    rw [h1, hk, levelsD_last]
  | d + 1, k, h => by
    have ih := levels_suf ws sc xs n d (k + 1) (by omega)
    have hl := levelsD_len ws sc xs n
    rw [sufS_succ (by rw [List.length_map]; omega), ih, sizes_len, levelsD_at (by omega), nowD_succ, liftF_len1, liftF_len2]
    omega
theorem levels_sizes {ws : List Nat} {sc : Nat} {xs : List Nat} {n : Nat} (h1 : 1 ≤ xs.length) (hx : xs.length ≤ 128) (hn : 1 ≤ n) (hn6 : n ≤ 6) : sizesF ((levelsD ws sc xs n).map List.length) = true := by
  have hs := stopN_le (moreD ws sc xs) n
  have hl := levelsD_len ws sc xs n
  obtain ⟨L, hL⟩ : ∃ L, L = stopN (moreD ws sc xs) n := ⟨_, rfl⟩
  have hlast := nowD_le ws sc xs h1 L
  refine (sizesF_yes (within_true.2 ?_) ?_ ?_ ?_).1
  · rw [List.length_map, hl]; omega
  · rw [List.length_map, hl, Nat.add_sub_cancel, sizes_len, levelsD_last, ← hL]; omega
  · rw [List.length_map, hl, sizes_len]
    by_cases hz : L = 0
    · refine .inr ?_
      have h2 := stopN_stop (p := moreD ws sc xs) (n := n) (by omega)
      have h3 := levelsD_last ws sc xs n
      rw [← hL, hz] at h2 h3
      rw [h3]
      have h4 := of_decide_eq_false h2
      rw [hz] at hlast
      omega
    · exact .inl (by omega)
  · intro j hj
    rw [List.length_map, hl, Nat.add_sub_cancel] at hj
    have h2 := of_decide_eq_true (stopN_all (p := moreD ws sc xs) n j hj)
    have h3 := levels_suf ws sc xs n (stopN (moreD ws sc xs) n - j) j (by omega)
    have h4 := levels_suf ws sc xs n (stopN (moreD ws sc xs) n - (j + 1)) (j + 1) (by omega)
    have h5 := nowD_le ws sc xs h1 j
    rw [nowD_succ, liftF_len1] at h4
    unfold sizeAt
    rw [sizes_len, levelsD_at hj, liftF_len2, h3, h4]
    simp only [Bool.and_eq_true, Bool.or_eq_true, decide_eq_true_eq]
    omega
def coarseL (xss : List (List Nat)) (keep i : Nat) : List Nat := if i + 1 + keep < xss.length then zerosF (xss.getD i []).length else xss.getD i []
def coarseU (xss : List (List Nat)) (keep t : Nat) : List (List Nat) := (List.range xss.length).map fun i => if i < t then coarseL xss keep i else xss.getD i []
theorem coarseU_len (xss : List (List Nat)) (keep t : Nat) : (coarseU xss keep t).length = xss.length := by simp [coarseU]
theorem coarseU_at {xss : List (List Nat)} {keep t i : Nat} (h : i < xss.length) : (coarseU xss keep t).getD i [] = if i < t then coarseL xss keep i else xss.getD i [] := by
  rw [coarseU, getD_range_map h]
theorem coarseL_len (xss : List (List Nat)) (keep i : Nat) : (coarseL xss keep i).length = (xss.getD i []).length := by
  unfold coarseL
  split
  · exact zerosF_length _
  · rfl
theorem coarseU_row {xss : List (List Nat)} {keep t i : Nat} (h : i < xss.length) : ((coarseU xss keep t).getD i []).length = (xss.getD i []).length := by
  rw [coarseU_at h]
  split
  · exact coarseL_len _ _ _
  · rfl
theorem coarseU_zero (xss : List (List Nat)) (keep : Nat) : coarseU xss keep 0 = xss := by
  refine list_ext_getD [] (coarseU_len _ _ _) fun j hj => ?_
  rw [coarseU_len] at hj
  rw [coarseU_at hj]; rfl
theorem coarseU_succ {xss : List (List Nat)} {keep t : Nat} (h : t < xss.length) : coarseU xss keep (t + 1) = (coarseU xss keep t).set t (coarseL xss keep t) := by
  refine list_ext_getD [] (by simp [coarseU_len]) fun j hj => ?_
  rw [coarseU_len] at hj
  rw [coarseU_at hj]
  by_cases hjt : j = t
  · subst hjt
    rw [getD_set_self (by rw [coarseU_len]; exact hj), if_pos (by omega)]
  · rw [Go.Gx.getD_set_ne (Ne.symm hjt), coarseU_at hj]
    by_cases h2 : j < t
    · rw [if_pos h2, if_pos (by omega)]
    · rw [if_neg h2, if_neg (by omega)]
theorem coarseU_sizes (xss : List (List Nat)) (keep t : Nat) : (coarseU xss keep t).map List.length = xss.map List.length := by
  refine list_ext_getD 0 (by simp [coarseU_len]) fun j hj => ?_
  have hj' : j < xss.length := by simpa [coarseU_len] using hj
  rw [sizes_len, sizes_len, coarseU_row hj']
theorem coarseU_tot (xss : List (List Nat)) (keep t : Nat) : totL (coarseU xss keep t) = totL xss := by
  unfold totL offN
  rw [List.take_of_length_le (Nat.le_refl _), List.take_of_length_le (Nat.le_refl _), coarseU_len, coarseU_sizes]
theorem levels_fin {ws : List Nat} {sc : Nat} {xs : List Nat} {n : Nat} (hx : isLongF xs = true) (h : ∀ k, k < stopN (moreD ws sc xs) n → liftOkF ws sc (nowD ws sc xs k) = true) (i : Nat) (hi : i < (levelsD ws sc xs n).length) : ((levelsD ws sc xs n).getD i []).all finF = true := by
  rw [levelsD_len] at hi
  by_cases hk : i < stopN (moreD ws sc xs) n
  · rw [levelsD_at hk]
    have h1 := h i hk
    have h2 := of_decide_eq_true (stopN_all (p := moreD ws sc xs) n i hk)
    unfold liftOkF at h1
    rw [Bool.or_eq_true, Bool.and_eq_true, decide_eq_true_eq] at h1
    rcases h1 with h1 | h1
    · omega
    · exact h1.2
  · have hk' : i = stopN (moreD ws sc xs) n := by omega
    rw [hk', levelsD_last]
    exact isLong_fin (nowD_long hx _ h)
theorem coarse_bands {ws : List Nat} {sc : Nat} {xs : List Nat} {n keep t : Nat} (hx : isLongF xs = true) (hn : 1 ≤ n) (hn6 : n ≤ 6) (h : ∀ k, k < stopN (moreD ws sc xs) n → liftOkF ws sc (nowD ws sc xs k) = true) : bandsF (coarseU (levelsD ws sc xs n) keep t) = true := by
  obtain ⟨hl, hl1⟩ := isLong_len hx
  unfold bandsF
  rw [coarseU_sizes, levels_sizes hl1 hl hn hn6, Bool.true_and]
  refine (allD []).2 fun j hj => ?_
  rw [coarseU_len] at hj
  rw [coarseU_at hj]
  have hf := levels_fin hx h j hj
  split
  · unfold coarseL
    split
    · exact zerosF_fin _
    · exact hf
  · exact hf
theorem deepOk_parts {ws : List Nat} {sc : Nat} {xs : List Nat} {n : Int} (h : deepOk ws sc xs n = true) : schemeF ws sc = true ∧ isLongF xs = true ∧ within n 1 6 = true ∧ ∀ k, k < stopN (moreD ws sc xs) n.toNat → liftOkF ws sc (nowD ws sc xs k) = true := by
  unfold deepOk at h
  rw [Bool.and_eq_true, Bool.and_eq_true, Bool.and_eq_true, List.all_eq_true] at h
  exact ⟨h.1.1.1, h.1.1.2, h.1.2, fun k hk => h.2 k (List.mem_range.2 hk)⟩
theorem OwN_at {lo hi i : Nat} {H : Heap} {ty : TypeId} {vs : List Value} {ls : List (List Value)} {v : Value} {l : List Value} (o : OwN lo hi H ty vs ls) (hi' : i < ls.length) (p : OwL lo hi H ty v l) (hd : ∀ j h, j < ls.length → hdl (vs.getD j undef) = some h → hdl v ≠ some h) : OwN lo hi H ty (vs.set i v) (ls.set i l) := by
  obtain ⟨h1, h2, h3⟩ := o
  have es : (vs.set i v).getD i undef = v := getD_set_self (by omega)
  have en : ∀ j, j ≠ i → (vs.set i v).getD j undef = vs.getD j undef := fun j hj => Go.Gx.getD_set_ne (Ne.symm hj)
  refine ⟨by simp [h1], fun j hj => ?_, fun j k h hj hk hh hk' => ?_⟩
  · rw [List.length_set] at hj
    by_cases hji : j = i
    · rw [hji, es, getD_set_self hi']; exact p
    · rw [en j hji, Go.Gx.getD_set_ne (Ne.symm hji)]; exact h2 j hj
  · rw [List.length_set] at hj hk
    by_cases hji : j = i
    · by_cases hki : k = i
      · rw [hji, hki]
      · rw [hji, es] at hh
        rw [en k hki] at hk'
        exact absurd hh (hd k h hk hk')
    · by_cases hki : k = i
      · rw [hki, es] at hk'
        rw [en j hji] at hh
        exact absurd hk' (hd j h hj hh)
      · rw [en j hji] at hh
        rw [en k hki] at hk'
        exact h3 j k h hj hk hh hk'
def coarseOk (ws : List Nat) (sc : Nat) (xs : List Nat) (n keep : Int) : Bool := decide (0 ≤ keep) && (deepOk ws sc xs n && unOk ws sc (coarseU (levelsD ws sc xs n.toNat) keep.toNat ((levelsD ws sc xs n.toNat).length - 1 - keep.toNat)))
def coarseD (ws : List Nat) (sc : Nat) (xs : List Nat) (n keep : Int) : List Nat := dropD ws sc (coarseU (levelsD ws sc xs n.toNat) keep.toNat ((levelsD ws sc xs n.toNat).length - 1 - keep.toNat)) ((levelsD ws sc xs n.toNat).length - 1)
theorem i_CoarseOf_law {H : Heap} {v0 v1 : Value} {xs0 xs1 : List Nat} {a0 : Nat} {a2 a3 : Int} (A0 : AF H v0 xs0) (b0 : a0 < 2 ^ 32) (A1 : AF H v1 xs1) (b2 : -9223372036854775808 ≤ a2 ∧ a2 ≤ 9223372036854775807) (b3 : -9223372036854775808 ≤ a3 ∧ a3 ≤ 9223372036854775807) :
    ACalls Try.prog n_i_CoarseOf [.agg #[v0, .float .f32 a0], v1, .int .i64 a2, .int .i64 a3] H fun r H' => ListR fv t_float32 H (coarseOk xs0 a0 xs1 a2 a3) (coarseD xs0 a0 xs1 a2 a3) r H' := by
  refine k_i_CoarseOf.run rfl ?_
  unfold c_i_CoarseOf
  have o0 := A0.rd.one
  simp (disch := first | assumption | omega | rfl | (refine id ?_; simp only [gxD, ne_eq, reduceCtorEq, not_false_eq_true, Nat.reduceAdd, *]; done) | (refine id ?_; simp only [gxD]; omega)) only [↓gxPre, gxPost, ↓reduceIte, Nat.reduceEqDiff, reduceCtorEq, Nat.reduceAdd]
  refine callR_new ?_
  intro K eK hsK nK
  refine callR_of (i_LiftDeep_law ⟨A0.rd.ext eK, A0.le, A0.w⟩ b0 ⟨A1.rd.ext eK, A1.le, A1.w⟩ b2) ?_
  rintro _ M ⟨eM, v, rfl, o, q⟩
  have eHM := eK.trans eM
  have nM := eM.n
  cases h1 : deepOk xs0 a0 xs1 a2
  · simp (disch := first | assumption | omega | rfl | (refine id ?_; simp only [gxD, ne_eq, reduceCtorEq, not_false_eq_true, Nat.reduceAdd, *]; done) | (refine id ?_; simp only [gxD]; omega)) only [↓gxPre, gxPost, ↓reduceIte, Nat.reduceEqDiff, reduceCtorEq, Nat.reduceAdd]
    exact .no (by simp only [coarseOk, h1, Bool.false_and, Bool.true_and, Bool.and_true, Bool.and_false, Bool.or_true, Bool.true_or, Bool.false_or, Bool.or_false, Bool.and_self, Bool.or_self]) eHM
  rw [h1] at o q
  simp only [selL, if_true] at o q
  by_cases h2 : a3 < 0
  · simp (disch := first | assumption | omega | rfl | (refine id ?_; simp only [gxD, ne_eq, reduceCtorEq, not_false_eq_true, Nat.reduceAdd, *]; done) | (refine id ?_; simp only [gxD]; omega)) only [↓gxPre, gxPost, ↓reduceIte, Nat.reduceEqDiff, reduceCtorEq, Nat.reduceAdd, h2]
    exact .no (by simp only [coarseOk, decide_eq_false (by omega : ¬ (0 : Int) ≤ a3), Bool.false_and, Bool.true_and, Bool.and_true, Bool.and_false, Bool.or_true, Bool.true_or, Bool.false_or, Bool.or_false, Bool.and_self, Bool.or_self]) eHM
  obtain ⟨k, rfl⟩ : ∃ k : Nat, a3 = k := ⟨a3.toNat, by omega⟩
  obtain ⟨d1, d2, d3, d4⟩ := deepOk_parts h1
  have hw2 := within_true.1 d3
  obtain ⟨xss, hxs⟩ : ∃ xss, xss = levelsD xs0 a0 xs1 a2.toNat := ⟨_, rfl⟩
  have hbands : ∀ t, bandsF (coarseU xss k t) = true := fun t => by rw [hxs]; exact coarse_bands d2 (by omega) (by omega) d4
  have hln : xss.length = stopN (moreD xs0 a0 xs1) a2.toNat + 1 := by rw [hxs]; exact levelsD_len _ _ _ _
  have hO : coarseOk xs0 a0 xs1 a2 k = unOk xs0 a0 (coarseU xss k (xss.length - 1 - k)) := by
    simp only [coarseOk, h1, decide_eq_true (by omega : (0 : Int) ≤ (k : Int)), Bool.false_and, Bool.true_and, Bool.and_true, Bool.and_false, Bool.or_true, Bool.true_or, Bool.false_or, Bool.or_false, Bool.and_self, Bool.or_self, Int.toNat_natCast, ← hxs]
  have hL : coarseD xs0 a0 xs1 a2 k = dropD xs0 a0 (coarseU xss k (xss.length - 1 - k)) ((coarseU xss k (xss.length - 1 - k)).length - 1) := by
    simp only [coarseD, Int.toNat_natCast, ← hxs, coarseU_len]
  rw [hO, hL]
  rw [← hxs] at o q
  obtain ⟨vs, ow, on⟩ := o
  have hvl : vs.length = xss.length := by have := on.1; simpa using this
  have hown : ∃ h, v = .slice (some ⟨h, 0, none⟩) xss.length xss.length ∧ K.n ≤ h ∧ h < M.n ∧ M.blk h = some ⟨true, t_sfloat32, vs⟩ := by
    rcases ow with ⟨_, hnil⟩ | ⟨h, hv, g1, g2, g3, g4⟩
    · rw [hnil] at hvl
      simp at hvl
      omega
    · exact ⟨h, by rw [hv, hvl], g1, g3, g4⟩
  obtain ⟨h, rfl, g1, g2, g3⟩ := hown
  have hsM := (eM.blk _ (by omega)).trans hsK
  have hn7 : xss.length ≤ 7 := by
    have := stopN_le (moreD xs0 a0 xs1) a2.toNat
    omega
  have hk0 : ¬ (k : Int) < 0 := by omega
  simp (disch := first | assumption | omega | rfl | (refine id ?_; simp only [gxD, ne_eq, reduceCtorEq, not_false_eq_true, Nat.reduceAdd, *]; done) | (refine id ?_; simp only [gxD]; omega)) only [↓gxPre, gxPost, ↓reduceIte, Nat.reduceEqDiff, reduceCtorEq, Nat.reduceAdd, hk0]
  refine loop_forH (xss.length - 1 - k) (fun i => [.int .i64 k, .pointer (some ⟨H.n, 0, some 2⟩), .slice (some ⟨h, 0, none⟩) xss.length xss.length, .int .i64 i])
    (fun i F => M.n ≤ F.n ∧ Ext K F ∧ ∃ us, F.blk h = some ⟨true, t_sfloat32, us⟩ ∧ OwN K.n F.n F t_float32 us ((coarseU xss k i).map (List.map fv))) rfl
    ⟨Nat.le_refl _, eM, vs, g3, by rw [coarseU_zero]; exact on⟩ ?_ ?_
  · rintro F ⟨nF, eF, us, hb, ho⟩
    have hul : us.length = xss.length := by have := ho.1; simpa [coarseU_len] using this
    have hsF := (eF.blk _ (by omega)).trans hsK
    have eHF := eK.trans eF
    have hlt : ¬ (((xss.length - 1 - k : Nat) : Int) < (xss.length : Int) - 1 - (k : Int)) := by omega
    have hss : SS F (.slice (some ⟨h, 0, none⟩) xss.length xss.length) (coarseU xss k (xss.length - 1 - k)) :=
      OwS.ss (lo := K.n) (hi := F.n) (sty := t_sfloat32) (ty := t_float32) ⟨us, .mk hb hul g1 (by omega) (by omega), ho⟩
    simp (disch := first | assumption | omega | rfl | (refine id ?_; simp only [gxD, ne_eq, reduceCtorEq, not_false_eq_true, Nat.reduceAdd, *]; done) | (refine id ?_; simp only [gxD]; omega)) only [↓gxPre, gxPost, ↓reduceIte, Nat.reduceEqDiff, reduceCtorEq, Nat.reduceAdd, hlt, hsF]
    refine callR_of (i_DropDeep_core ⟨A0.rd.ext eHF, A0.le⟩ b0 ⟨hss, by rw [coarseU_tot]; exact q⟩) ?_
    rintro _ W ⟨eW, w, rfl, ow, qw⟩
    have hn := eHF.n
    simp (disch := first | assumption | omega | rfl | (refine id ?_; simp only [gxD, ne_eq, reduceCtorEq, not_false_eq_true, Nat.reduceAdd, *]; done) | (refine id ?_; simp only [gxD]; omega)) only [↓gxPre, gxPost, ↓reduceIte, Nat.reduceEqDiff, reduceCtorEq, Nat.reduceAdd]
    exact ⟨eHF.trans eW, _, rfl, ow.wide hn (Nat.le_refl _), qw⟩
  · rintro i F hi ⟨nF, eF, us, hb, ho⟩
    have hul : us.length = xss.length := by have := ho.1; simpa [coarseU_len] using this
    have hlt : (i : Int) < (xss.length : Int) - 1 - (k : Int) := by omega
    have hat : us[i]? = some (us.getD i undef) := by
      have : i < us.length := by omega
      simp [List.getD_eq_getElem?_getD, this]
    have hrow : ((coarseU xss k i).map (List.map fv)).getD i [] = (xss.getD i []).map fv := by
      have h1 : (coarseU xss k i).getD i [] = xss.getD i [] := by rw [coarseU_at (by omega), if_neg (by omega)]
      rw [← h1]
      have : i < (coarseU xss k i).length := by rw [coarseU_len]; omega
      simp [List.getD_eq_getElem?_getD, this]
    have hoi : OwL K.n F.n F t_float32 (us.getD i undef) ((xss.getD i []).map fv) := by
      have := ho.2.1 i (by rw [List.length_map, coarseU_len]; omega)
      rwa [hrow] at this
    have hlen := hoi.fs.len
    obtain ⟨L, hLn⟩ : ∃ L, L = (xss.getD i []).length := ⟨_, rfl⟩
    have hLb : L ≤ 2 ^ 40 := by rw [hLn]; exact totL_row q i
    rw [← hLn] at hlen
    have hmk : ∀ G, eMks t_float32 4 (.float .f32 0) (.int .i64 (L : Int)) (.int .i64 (L : Int)) G = some (.slice (some ⟨G.n, 0, none⟩) L L, G.new ⟨true, t_float32, (zerosF L).map fv⟩) := fun G => by
      rw [← zerosF_map]
      exact eMks_i (by omega)
    simp (disch := first | assumption | omega | rfl | (refine id ?_; simp only [gxD, ne_eq, reduceCtorEq, not_false_eq_true, Nat.reduceAdd, *]; done) | (refine id ?_; simp only [gxD]; omega)) only [↓gxPre, gxPost, ↓reduceIte, Nat.reduceEqDiff, reduceCtorEq, Nat.reduceAdd, hlt, hb, hat, hlen, hmk]
    have eZ : Ext F (F.new ⟨true, t_float32, (zerosF L).map fv⟩) := .new _ _
    have hbZ := (eZ.blk _ (by omega)).trans hb
    have pz : OwL K.n (F.n + 1) (F.new ⟨true, t_float32, (zerosF L).map fv⟩) t_float32 (.slice (some ⟨F.n, 0, none⟩) L L) ((zerosF L).map fv) := .mk (new_self _ _) (by rw [lMapN, zerosF_length]) (by omega) (by omega) (by first | omega | (simp only [new_n, put_n]; omega))
    have q1 := OwN_at ((ho.ext eZ).wide (Nat.le_refl _) (Nat.le_succ _)) (i := i) (by rw [List.length_map, coarseU_len]; omega) pz fun j x hj hx hz => by
      have h1 := (ho.lt hj hx).2.1
      simp only [hdl, Option.some.injEq] at hz
      omega
    have q2 := OwN_put (b := ⟨true, t_sfloat32, us.set i (.slice (some ⟨F.n, 0, none⟩) L L)⟩) q1 hbZ (by decide)
    refine ⟨by simp, (by first | omega | (simp only [new_n, put_n]; omega)), (eF.trans eZ).put g1 _, _, rfl, ?_⟩
    rw [coarseU_succ (by omega), List.map_set]
    have hc : coarseL xss k i = zerosF L := by unfold coarseL; rw [if_pos (by omega), hLn]
    rw [hc]
    exact q2
theorem s_CoarseOf_law {H : Heap} {v0 v1 : Value} {xs0 xs1 : List Nat} {a0 : Nat} {a2 a3 : Int} (A0 : AF H v0 xs0) (b0 : a0 < 2 ^ 32) (A1 : AF H v1 xs1) (b2 : -9223372036854775808 ≤ a2 ∧ a2 ≤ 9223372036854775807) (b3 : -9223372036854775808 ≤ a3 ∧ a3 ≤ 9223372036854775807) :
    ACalls Try.prog n_s_CoarseOf [.agg #[v0, .float .f32 a0], v1, .int .i64 a2, .int .i64 a3] H fun r H' => ListR fv t_float32 H (coarseOk xs0 a0 xs1 a2 a3) (coarseD xs0 a0 xs1 a2 a3) r H' := by
  refine k_s_CoarseOf.run rfl ?_
  unfold c_s_CoarseOf
  have o0 := A0.rd.one
  simp (disch := first | assumption | omega | rfl | (refine id ?_; simp only [gxD, ne_eq, reduceCtorEq, not_false_eq_true, Nat.reduceAdd, *]; done) | (refine id ?_; simp only [gxD]; omega)) only [↓gxPre, gxPost, ↓reduceIte, Nat.reduceEqDiff, reduceCtorEq, Nat.reduceAdd]
  have eK : Ext H (H.new ⟨true, t_Scheme, [v0, .float .f32 a0]⟩) := .new _ _
  have hsK : (H.new ⟨true, t_Scheme, [v0, .float .f32 a0]⟩).blk H.n = some ⟨true, t_Scheme, [v0, .float .f32 a0]⟩ := new_self _ _
  have nK : (H.new ⟨true, t_Scheme, [v0, .float .f32 a0]⟩).n = H.n + 1 := rfl
  generalize H.new ⟨true, t_Scheme, [v0, .float .f32 a0]⟩ = K at eK hsK nK ⊢
  by_cases h2 : a3 < 0
  · simp (disch := first | assumption | omega | rfl | (refine id ?_; simp only [gxD, ne_eq, reduceCtorEq, not_false_eq_true, Nat.reduceAdd, *]; done) | (refine id ?_; simp only [gxD]; omega)) only [↓gxPre, gxPost, ↓reduceIte, Nat.reduceEqDiff, reduceCtorEq, Nat.reduceAdd, h2]
    exact .no (by simp only [coarseOk, decide_eq_false (by omega : ¬ (0 : Int) ≤ a3), Bool.false_and, Bool.true_and, Bool.and_true, Bool.and_false, Bool.or_true, Bool.true_or, Bool.false_or, Bool.or_false, Bool.and_self, Bool.or_self]) eK
  simp (disch := first | assumption | omega | rfl | (refine id ?_; simp only [gxD, ne_eq, reduceCtorEq, not_false_eq_true, Nat.reduceAdd, *]; done) | (refine id ?_; simp only [gxD]; omega)) only [↓gxPre, gxPost, ↓reduceIte, Nat.reduceEqDiff, reduceCtorEq, Nat.reduceAdd, h2, hsK]
  refine callR_of (s_LiftDeep_law ⟨A0.rd.ext eK, A0.le, A0.w⟩ b0 ⟨A1.rd.ext eK, A1.le, A1.w⟩ b2) ?_
  rintro _ M ⟨eM, v, rfl, o, q⟩
  have eHM := eK.trans eM
  have nM := eM.n
  cases h1 : deepOk xs0 a0 xs1 a2
  · simp (disch := first | assumption | omega | rfl | (refine id ?_; simp only [gxD, ne_eq, reduceCtorEq, not_false_eq_true, Nat.reduceAdd, *]; done) | (refine id ?_; simp only [gxD]; omega)) only [↓gxPre, gxPost, ↓reduceIte, Nat.reduceEqDiff, reduceCtorEq, Nat.reduceAdd]
    exact .no (by simp only [coarseOk, h1, Bool.false_and, Bool.true_and, Bool.and_true, Bool.and_false, Bool.or_true, Bool.true_or, Bool.false_or, Bool.or_false, Bool.and_self, Bool.or_self]) eHM
  rw [h1] at o q
  simp only [selL, if_true] at o q
  obtain ⟨k, rfl⟩ : ∃ k : Nat, a3 = k := ⟨a3.toNat, by omega⟩
  obtain ⟨d1, d2, d3, d4⟩ := deepOk_parts h1
  have hw2 := within_true.1 d3
  obtain ⟨xss, hxs⟩ : ∃ xss, xss = levelsD xs0 a0 xs1 a2.toNat := ⟨_, rfl⟩
  have hbands : ∀ t, bandsF (coarseU xss k t) = true := fun t => by rw [hxs]; exact coarse_bands d2 (by omega) (by omega) d4
  have hln : xss.length = stopN (moreD xs0 a0 xs1) a2.toNat + 1 := by rw [hxs]; exact levelsD_len _ _ _ _
  have hO : coarseOk xs0 a0 xs1 a2 k = unOk xs0 a0 (coarseU xss k (xss.length - 1 - k)) := by
    simp only [coarseOk, h1, decide_eq_true (by omega : (0 : Int) ≤ (k : Int)), Bool.false_and, Bool.true_and, Bool.and_true, Bool.and_false, Bool.or_true, Bool.true_or, Bool.false_or, Bool.or_false, Bool.and_self, Bool.or_self, Int.toNat_natCast, ← hxs]
  have hL : coarseD xs0 a0 xs1 a2 k = dropD xs0 a0 (coarseU xss k (xss.length - 1 - k)) ((coarseU xss k (xss.length - 1 - k)).length - 1) := by
    simp only [coarseD, Int.toNat_natCast, ← hxs, coarseU_len]
  rw [hO, hL]
  rw [← hxs] at o q
  obtain ⟨vs, ow, on⟩ := o
  have hvl : vs.length = xss.length := by have := on.1; simpa using this
  have hown : ∃ h, v = .slice (some ⟨h, 0, none⟩) xss.length xss.length ∧ K.n ≤ h ∧ h < M.n ∧ M.blk h = some ⟨true, t_sfloat32, vs⟩ := by
    rcases ow with ⟨_, hnil⟩ | ⟨h, hv, g1, g2, g3, g4⟩
    · rw [hnil] at hvl
      simp at hvl
      omega
    · exact ⟨h, by rw [hv, hvl], g1, g3, g4⟩
  obtain ⟨h, rfl, g1, g2, g3⟩ := hown
  have hsM := (eM.blk _ (by omega)).trans hsK
  have hn7 : xss.length ≤ 7 := by
    have := stopN_le (moreD xs0 a0 xs1) a2.toNat
    omega
  simp (disch := first | assumption | omega | rfl | (refine id ?_; simp only [gxD, ne_eq, reduceCtorEq, not_false_eq_true, Nat.reduceAdd, *]; done) | (refine id ?_; simp only [gxD]; omega)) only [↓gxPre, gxPost, ↓reduceIte, Nat.reduceEqDiff, reduceCtorEq, Nat.reduceAdd]
  refine loop_forH (xss.length - 1 - k) (fun i => [.int .i64 k, .pointer (some ⟨H.n, 0, some 2⟩), .slice (some ⟨h, 0, none⟩) xss.length xss.length, .int .i64 i])
    (fun i F => M.n ≤ F.n ∧ Ext K F ∧ ∃ us, F.blk h = some ⟨true, t_sfloat32, us⟩ ∧ OwN K.n F.n F t_float32 us ((coarseU xss k i).map (List.map fv))) rfl
    ⟨Nat.le_refl _, eM, vs, g3, by rw [coarseU_zero]; exact on⟩ ?_ ?_
  · rintro F ⟨nF, eF, us, hb, ho⟩
    have hul : us.length = xss.length := by have := ho.1; simpa [coarseU_len] using this
    have hsF := (eF.blk _ (by omega)).trans hsK
    have eHF := eK.trans eF
    have hlt : ¬ (((xss.length - 1 - k : Nat) : Int) < (xss.length : Int) - 1 - (k : Int)) := by omega
    have hss : SS F (.slice (some ⟨h, 0, none⟩) xss.length xss.length) (coarseU xss k (xss.length - 1 - k)) :=
      OwS.ss (lo := K.n) (hi := F.n) (sty := t_sfloat32) (ty := t_float32) ⟨us, .mk hb hul g1 (by omega) (by omega), ho⟩
    simp (disch := first | assumption | omega | rfl | (refine id ?_; simp only [gxD, ne_eq, reduceCtorEq, not_false_eq_true, Nat.reduceAdd, *]; done) | (refine id ?_; simp only [gxD]; omega)) only [↓gxPre, gxPost, ↓reduceIte, Nat.reduceEqDiff, reduceCtorEq, Nat.reduceAdd, hlt, hsF]
    refine callR_of (s_l02Undeep_ok hsF (by omega) eHF ⟨A0.rd.ext eHF, A0.le⟩ hss (by rw [coarseU_tot]; exact q) d1 (hbands _)) ?_
    rintro _ W ⟨eW, w, rfl, ow, qw⟩
    have hn := eHF.n
    simp (disch := first | assumption | omega | rfl | (refine id ?_; simp only [gxD, ne_eq, reduceCtorEq, not_false_eq_true, Nat.reduceAdd, *]; done) | (refine id ?_; simp only [gxD]; omega)) only [↓gxPre, gxPost, ↓reduceIte, Nat.reduceEqDiff, reduceCtorEq, Nat.reduceAdd]
    exact ⟨eW, _, rfl, ow, qw⟩
  · rintro i F hi ⟨nF, eF, us, hb, ho⟩
    have hul : us.length = xss.length := by have := ho.1; simpa [coarseU_len] using this
    have hlt : (i : Int) < (xss.length : Int) - 1 - (k : Int) := by omega
    have hat : us[i]? = some (us.getD i undef) := by
      have : i < us.length := by omega
      simp [List.getD_eq_getElem?_getD, this]
    have hrow : ((coarseU xss k i).map (List.map fv)).getD i [] = (xss.getD i []).map fv := by
      have h1 : (coarseU xss k i).getD i [] = xss.getD i [] := by rw [coarseU_at (by omega), if_neg (by omega)]
      rw [← h1]
      have : i < (coarseU xss k i).length := by rw [coarseU_len]; omega
      simp [List.getD_eq_getElem?_getD, this]
    have hoi : OwL K.n F.n F t_float32 (us.getD i undef) ((xss.getD i []).map fv) := by
      have := ho.2.1 i (by rw [List.length_map, coarseU_len]; omega)
      rwa [hrow] at this
    have hlen := hoi.fs.len
    obtain ⟨L, hLn⟩ : ∃ L, L = (xss.getD i []).length := ⟨_, rfl⟩
    have hLb : L ≤ 2 ^ 40 := by rw [hLn]; exact totL_row q i
    rw [← hLn] at hlen
    have hmk : ∀ G, eMks t_float32 4 (.float .f32 0) (.int .i64 (L : Int)) (.int .i64 (L : Int)) G = some (.slice (some ⟨G.n, 0, none⟩) L L, G.new ⟨true, t_float32, (zerosF L).map fv⟩) := fun G => by
      rw [← zerosF_map]
      exact eMks_i (by omega)
    simp (disch := first | assumption | omega | rfl | (refine id ?_; simp only [gxD, ne_eq, reduceCtorEq, not_false_eq_true, Nat.reduceAdd, *]; done) | (refine id ?_; simp only [gxD]; omega)) only [↓gxPre, gxPost, ↓reduceIte, Nat.reduceEqDiff, reduceCtorEq, Nat.reduceAdd, hlt, hb, hat, hlen, hmk]
    have eZ : Ext F (F.new ⟨true, t_float32, (zerosF L).map fv⟩) := .new _ _
    have hbZ := (eZ.blk _ (by omega)).trans hb
    have pz : OwL K.n (F.n + 1) (F.new ⟨true, t_float32, (zerosF L).map fv⟩) t_float32 (.slice (some ⟨F.n, 0, none⟩) L L) ((zerosF L).map fv) := .mk (new_self _ _) (by rw [lMapN, zerosF_length]) (by omega) (by omega) (by first | omega | (simp only [new_n, put_n]; omega))
    have q1 := OwN_at ((ho.ext eZ).wide (Nat.le_refl _) (Nat.le_succ _)) (i := i) (by rw [List.length_map, coarseU_len]; omega) pz fun j x hj hx hz => by
      have h1 := (ho.lt hj hx).2.1
      simp only [hdl, Option.some.injEq] at hz
      omega
    have q2 := OwN_put (b := ⟨true, t_sfloat32, us.set i (.slice (some ⟨F.n, 0, none⟩) L L)⟩) q1 hbZ (by decide)
    refine ⟨by simp, (by first | omega | (simp only [new_n, put_n]; omega)), (eF.trans eZ).put g1 _, _, rfl, ?_⟩
    rw [coarseU_succ (by omega), List.map_set]
    have hc : coarseL xss k i = zerosF L := by unfold coarseL; rw [if_pos (by omega), hLn]
    rw [hc]
    exact q2
end Go.Proofs.Ytkojmlpaamdhoae
