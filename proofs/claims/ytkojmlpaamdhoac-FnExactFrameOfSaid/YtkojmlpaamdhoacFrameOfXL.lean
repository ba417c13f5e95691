/- Coarse lists. -/
import Derived.Test.YtkojmlpaamdhoacFrameOfXK
namespace Go.Proofs.Ytkojmlpaamdhoac
open Go.Gx
set_option maxRecDepth 100000
set_option linter.unusedSimpArgs false
set_option linter.unusedVariables false

theorem stopN_all {p : Nat → Bool} : ∀ n k, k < stopN p n → p k = true
  | 0, k, h => absurd h (Nat.not_lt_zero _)
  | n + 1, k, h => by
    have hle := stopN_le p n
    unfold stopN at h
    split at h
    · rename_i hc
      by_cases hk : k = n
      · rw [hk]; exact hc.2
      · exact stopN_all n k (by omega)
    · exact stopN_all n k h
theorem stopN_stop {p : Nat → Bool} {n : Nat} (h : stopN p n < n) : p (stopN p n) = false := by
  cases hp : p (stopN p n)
  · rfl
  · have := stopN_gt (p := p) (t := stopN p n) (n := n) (fun k hk => by
      by_cases hk' : k = stopN p n
      · rw [hk']; exact hp
      · exact stopN_all n k (by omega)) h
    omega
theorem levelsD_len (ws : List Nat) (sc : Nat) (xs : List Nat) (n : Nat) : (levelsD ws sc xs n).length = stopN (moreD ws sc xs) n + 1 := by simp [levelsD, outD_len]
theorem levelsD_at {ws : List Nat} {sc : Nat} {xs : List Nat} {n k : Nat} (hk : k < stopN (moreD ws sc xs) n) : (levelsD ws sc xs n).getD k [] = (liftF ws sc (nowD ws sc xs k)).2 := by
  unfold levelsD
  rw [getD_app_lt (by rw [outD_len]; exact hk), outD]
  exact getD_range_map hk
theorem levelsD_last (ws : List Nat) (sc : Nat) (xs : List Nat) (n : Nat) : (levelsD ws sc xs n).getD (stopN (moreD ws sc xs) n) [] = nowD ws sc xs (stopN (moreD ws sc xs) n) := by
  unfold levelsD
  have := @getD_app_at _ (outD ws sc xs (stopN (moreD ws sc xs) n)) (nowD ws sc xs (stopN (moreD ws sc xs) n)) []
  rwa [outD_len] at this
/-- The sizes from 'k' on make up the list that is lifted at 'k'. -/
theorem levels_suf (ws : List Nat) (sc : Nat) (xs : List Nat) (n : Nat) : ∀ d k, k + d = stopN (moreD ws sc xs) n → sufS ((levelsD ws sc xs n).map List.length) k = (nowD ws sc xs k).length
  | 0, k, h => by
    have hk : k = stopN (moreD ws sc xs) n := by omega
    have hl := levelsD_len ws sc xs n
    have h1 := sufS_last (sz := (levelsD ws sc xs n).map List.length) (by rw [List.length_map]; omega)
    rw [List.length_map, hl, Nat.add_sub_cancel, ← hk, sizes_len] at h1
    rw [h1, hk, levelsD_last]
  | d + 1, k, h => by
    have ih := levels_suf ws sc xs n d (k + 1) (by omega)
    have hl := levelsD_len ws sc xs n
    rw [sufS_succ (by rw [List.length_map]; omega), ih, sizes_len, levelsD_at (by omega), nowD_succ, liftF_len1, liftF_len2]
    omega
theorem levels_sizes {ws : List Nat} {sc : Nat} {xs : List Nat} {n : Nat} (h1 : 1 ≤ xs.length) (hx : xs.length ≤ 128) (hn : 1 ≤ n) (hn6 : n ≤ 6) : sizesF ((levelsD ws sc xs n).map List.length) = true := by
  have hs := stopN_le (moreD ws sc xs) n
  have hl := levelsD_len ws sc xs n
  obtain ⟨L, hL⟩ : ∃ L, L = stopN (moreD ws sc xs) n := ⟨_, rfl⟩
  have hlast := nowD_le ws sc xs h1 L
  refine (sizesF_yes (within_true.2 ?_) ?_ ?_ ?_).1
  · rw [List.length_map, hl]; omega
  · rw [List.length_map, hl, Nat.add_sub_cancel, sizes_len, levelsD_last, ← hL]; omega
  · rw [List.length_map, hl, sizes_len]
    by_cases hz : L = 0
    · refine .inr ?_
      have h2 := stopN_stop (p := moreD ws sc xs) (n := n) (by omega)
      have h3 := levelsD_last ws sc xs n
      rw [← hL, hz] at h2 h3
      rw [h3]
      have h4 := of_decide_eq_false h2
      rw [hz] at hlast
      omega
    · exact .inl (by omega)
  · intro j hj
    rw [List.length_map, hl, Nat.add_sub_cancel] at hj
    have h2 := of_decide_eq_true (stopN_all (p := moreD ws sc xs) n j hj)
    have h3 := levels_suf ws sc xs n (stopN (moreD ws sc xs) n - j) j (by omega)
    have h4 := levels_suf ws sc xs n (stopN (moreD ws sc xs) n - (j + 1)) (j + 1) (by omega)
    have h5 := nowD_le ws sc xs h1 j
    rw [nowD_succ, liftF_len1] at h4
    unfold sizeAt
    rw [sizes_len, levelsD_at hj, liftF_len2, h3, h4]
    simp only [Bool.and_eq_true, Bool.or_eq_true, decide_eq_true_eq]
    omega
def coarseL (xss : List (List Nat)) (keep i : Nat) : List Nat := if i + 1 + keep < xss.length then zerosF (xss.getD i []).length else xss.getD i []
def coarseU (xss : List (List Nat)) (keep t : Nat) : List (List Nat) := (List.range xss.length).map fun i => if i < t then coarseL xss keep i else xss.getD i []
theorem coarseU_len (xss : List (List Nat)) (keep t : Nat) : (coarseU xss keep t).length = xss.length := by simp [coarseU]
theorem coarseU_at {xss : List (List Nat)} {keep t i : Nat} (h : i < xss.length) : (coarseU xss keep t).getD i [] = if i < t then coarseL xss keep i else xss.getD i [] := by
  rw [coarseU, getD_range_map h]
theorem coarseL_len (xss : List (List Nat)) (keep i : Nat) : (coarseL xss keep i).length = (xss.getD i []).length := by
  unfold coarseL
  split
  · exact zerosF_length _
  · rfl
theorem coarseU_row {xss : List (List Nat)} {keep t i : Nat} (h : i < xss.length) : ((coarseU xss keep t).getD i []).length = (xss.getD i []).length := by
  rw [coarseU_at h]
  split
  · exact coarseL_len _ _ _
  · rfl
theorem coarseU_zero (xss : List (List Nat)) (keep : Nat) : coarseU xss keep 0 = xss := by
  refine list_ext_getD [] (coarseU_len _ _ _) fun j hj => ?_
  rw [coarseU_len] at hj
  rw [coarseU_at hj]; rfl
theorem coarseU_succ {xss : List (List Nat)} {keep t : Nat} (h : t < xss.length) : coarseU xss keep (t + 1) = (coarseU xss keep t).set t (coarseL xss keep t) := by
  refine list_ext_getD [] (by simp [coarseU_len]) fun j hj => ?_
  rw [coarseU_len] at hj
  rw [coarseU_at hj]
  by_cases hjt : j = t
  · subst hjt
    rw [getD_set_self (by rw [coarseU_len]; exact hj), if_pos (by omega)]
  · rw [Go.Gx.getD_set_ne (Ne.symm hjt), coarseU_at hj]
    by_cases h2 : j < t
    · rw [if_pos h2, if_pos (by omega)]
    · rw [if_neg h2, if_neg (by omega)]
theorem coarseU_sizes (xss : List (List Nat)) (keep t : Nat) : (coarseU xss keep t).map List.length = xss.map List.length := by
  refine list_ext_getD 0 (by simp [coarseU_len]) fun j hj => ?_
  have hj' : j < xss.length := by simpa [coarseU_len] using hj
  rw [sizes_len, sizes_len, coarseU_row hj']
theorem coarseU_tot (xss : List (List Nat)) (keep t : Nat) : totL (coarseU xss keep t) = totL xss := by
  unfold totL offN
  rw [List.take_of_length_le (Nat.le_refl _), List.take_of_length_le (Nat.le_refl _), coarseU_len, coarseU_sizes]
theorem levels_fin {ws : List Nat} {sc : Nat} {xs : List Nat} {n : Nat} (hx : isLongF xs = true) (h : ∀ k, k < stopN (moreD ws sc xs) n → liftOkF ws sc (nowD ws sc xs k) = true) (i : Nat) (hi : i < (levelsD ws sc xs n).length) : ((levelsD ws sc xs n).getD i []).all finF = true := by
  rw [levelsD_len] at hi
  by_cases hk : i < stopN (moreD ws sc xs) n
  · rw [levelsD_at hk]
    have h1 := h i hk
    have h2 := of_decide_eq_true (stopN_all (p := moreD ws sc xs) n i hk)
    unfold liftOkF at h1
    rw [Bool.or_eq_true, Bool.and_eq_true, decide_eq_true_eq] at h1
    rcases h1 with h1 | h1
    · omega
    · exact h1.2
  · have hk' : i = stopN (moreD ws sc xs) n := by omega
    rw [hk', levelsD_last]
    exact isLong_fin (nowD_long hx _ h)
theorem coarse_bands {ws : List Nat} {sc : Nat} {xs : List Nat} {n keep t : Nat} (hx : isLongF xs = true) (hn : 1 ≤ n) (hn6 : n ≤ 6) (h : ∀ k, k < stopN (moreD ws sc xs) n → liftOkF ws sc (nowD ws sc xs k) = true) : bandsF (coarseU (levelsD ws sc xs n) keep t) = true := by
  obtain ⟨hl, hl1⟩ := isLong_len hx
  unfold bandsF
  rw [coarseU_sizes, levels_sizes hl1 hl hn hn6, Bool.true_and]
  refine (allD []).2 fun j hj => ?_
  rw [coarseU_len] at hj
  rw [coarseU_at hj]
  have hf := levels_fin hx h j hj
  split
  · unfold coarseL
    split
    · exact zerosF_fin _
    · exact hf
  · exact hf
theorem deepOk_parts {ws : List Nat} {sc : Nat} {xs : List Nat} {n : Int} (h : deepOk ws sc xs n = true) : schemeF ws sc = true ∧ isLongF xs = true ∧ within n 1 6 = true ∧ ∀ k, k < stopN (moreD ws sc xs) n.toNat → liftOkF ws sc (nowD ws sc xs k) = true := by
  unfold deepOk at h
  rw [Bool.and_eq_true, Bool.and_eq_true, Bool.and_eq_true, List.all_eq_true] at h
  exact ⟨h.1.1.1, h.1.1.2, h.1.2, fun k hk => h.2 k (List.mem_range.2 hk)⟩
theorem OwN_at {lo hi i : Nat} {H : Heap} {ty : TypeId} {vs : List Value} {ls : List (List Value)} {v : Value} {l : List Value} (o : OwN lo hi H ty vs ls) (hi' : i < ls.length) (p : OwL lo hi H ty v l) (hd : ∀ j h, j < ls.length → hdl (vs.getD j undef) = some h → hdl v ≠ some h) : OwN lo hi H ty (vs.set i v) (ls.set i l) := by
  obtain ⟨h1, h2, h3⟩ := o
  have es : (vs.set i v).getD i undef = v := getD_set_self (by omega)
  have en : ∀ j, j ≠ i → (vs.set i v).getD j undef = vs.getD j undef := fun j hj => Go.Gx.getD_set_ne (Ne.symm hj)
  refine ⟨by simp [h1], fun j hj => ?_, fun j k h hj hk hh hk' => ?_⟩
  · rw [List.length_set] at hj
    by_cases hji : j = i
    · rw [hji, es, getD_set_self hi']; exact p
    · rw [en j hji, Go.Gx.getD_set_ne (Ne.symm hji)]; exact h2 j hj
  · rw [List.length_set] at hj hk
    by_cases hji : j = i
    · by_cases hki : k = i
      · rw [hji, hki]
      · rw [hji, es] at hh
        rw [en k hki] at hk'
        exact absurd hh (hd k h hk hk')
    · by_cases hki : k = i
      · rw [hki, es] at hk'
        rw [en j hji] at hh
        exact absurd hk' (hd j h hj hh)
      · rw [en j hji] at hh
        rw [en k hki] at hk'
        exact h3 j k h hj hk hh hk'
def coarseOk (ws : List Nat) (sc : Nat) (xs : List Nat) (n keep : Int) : Bool := decide (0 ≤ keep) && (deepOk ws sc xs n && unOk ws sc (coarseU (levelsD ws sc xs n.toNat) keep.toNat ((levelsD ws sc xs n.toNat).length - 1 - keep.toNat)))
def coarseD (ws : List Nat) (sc : Nat) (xs : List Nat) (n keep : Int) : List Nat := dropD ws sc (coarseU (levelsD ws sc xs n.toNat) keep.toNat ((levelsD ws sc xs n.toNat).length - 1 - keep.toNat)) ((levelsD ws sc xs n.toNat).length - 1)
end Go.Proofs.Ytkojmlpaamdhoac
