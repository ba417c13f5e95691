/- What the functions of the program do: contracts that are proved. -/
import Derived.Test.YtkojmlpaamdhoacDistanceOfAToXK
namespace Go.Proofs.Ytkojmlpaamdhoac
open Go.Gx
set_option maxRecDepth 100000
set_option linter.unusedSimpArgs false
set_option linter.unusedVariables false

theorem stopN_all {p : Nat → Bool} : ∀ n k, k < stopN p n → p k = true
  | 0, k, h => absurd h (Nat.not_lt_zero _)
  | n + 1, k, h => by
    have hle := stopN_le p n
    unfold stopN at h
    split at h
    · rename_i hc
      by_cases hk : k = n
      · rw [hk]; exact hc.2
      · exact stopN_all n k (by omega)
    · exact stopN_all n k h
theorem stopN_stop {p : Nat → Bool} {n : Nat} (h : stopN p n < n) : p (stopN p n) = false := by
  cases hp : p (stopN p n)
  · rfl
  · have := stopN_gt (p := p) (t := stopN p n) (n := n) (fun k hk => by
      by_cases hk' : k = stopN p n
      · rw [hk']; exact hp
      · exact stopN_all n k (by omega)) h
    omega
theorem levelsD_len (ws : List Nat) (sc : Nat) (xs : List Nat) (n : Nat) : (levelsD ws sc xs n).length = stopN (moreD ws sc xs) n + 1 := by simp [levelsD, outD_len]
theorem levelsD_at {ws : List Nat} {sc : Nat} {xs : List Nat} {n k : Nat} (hk : k < stopN (moreD ws sc xs) n) : (levelsD ws sc xs n).getD k [] = (liftF ws sc (nowD ws sc xs k)).2 := by
  unfold levelsD
  rw [getD_app_lt (by rw [outD_len]; exact hk), outD]
  exact getD_range_map hk
theorem levelsD_last (ws : List Nat) (sc : Nat) (xs : List Nat) (n : Nat) : (levelsD ws sc xs n).getD (stopN (moreD ws sc xs) n) [] = nowD ws sc xs (stopN (moreD ws sc xs) n) := by
  unfold levelsD
  have := @getD_app_at _ (outD ws sc xs (stopN (moreD ws sc xs) n)) (nowD ws sc xs (stopN (moreD ws sc xs) n)) []
  rwa [outD_len] at this
/-- The sizes from 'k' on make up the list that is lifted at 'k'. -/
theorem levels_suf (ws : List Nat) (sc : Nat) (xs : List Nat) (n : Nat) : ∀ d k, k + d = stopN (moreD ws sc xs) n → sufS ((levelsD ws sc xs n).map List.length) k = (nowD ws sc xs k).length
  | 0, k, h => by
    have hk : k = stopN (moreD ws sc xs) n := by omega
    have hl := levelsD_len ws sc xs n
    have h1 := sufS_last (sz := (levelsD ws sc xs n).map List.length) (by rw [List.length_map]; omega)
    rw [List.length_map, hl, Nat.add_sub_cancel, ← hk, sizes_len] at h1
    rw [h1, hk, levelsD_last]
  | d + 1, k, h => by
    have ih := levels_suf ws sc xs n d (k + 1) (by omega)
    have hl := levelsD_len ws sc xs n
    rw [sufS_succ (by rw [List.length_map]; omega), ih, sizes_len, levelsD_at (by omega), nowD_succ, liftF_len1, liftF_len2]
    omega
theorem levels_sizes {ws : List Nat} {sc : Nat} {xs : List Nat} {n : Nat} (h1 : 1 ≤ xs.length) (hx : xs.length ≤ 128) (hn : 1 ≤ n) (hn6 : n ≤ 6) : sizesF ((levelsD ws sc xs n).map List.length) = true := by
  have hs := stopN_le (moreD ws sc xs) n
  have hl := levelsD_len ws sc xs n
  obtain ⟨L, hL⟩ : ∃ L, L = stopN (moreD ws sc xs) n := ⟨_, rfl⟩
  have hlast := nowD_le ws sc xs h1 L
  refine (sizesF_yes (within_true.2 ?_) ?_ ?_ ?_).1
  · rw [List.length_map, hl]; omega
  · rw [List.length_map, hl, Nat.add_sub_cancel, sizes_len, levelsD_last, ← hL]; omega
  · rw [List.length_map, hl, sizes_len]
    by_cases hz : L = 0
    · refine .inr ?_
      have h2 := stopN_stop (p := moreD ws sc xs) (n := n) (by omega)
      have h3 := levelsD_last ws sc xs n
      rw [← hL, hz] at h2 h3
      rw [h3]
      have h4 := of_decide_eq_false h2
      rw [hz] at hlast
      omega
    · exact .inl (by omega)
  · intro j hj
    rw [List.length_map, hl, Nat.add_sub_cancel] at hj
    have h2 := of_decide_eq_true (stopN_all (p := moreD ws sc xs) n j hj)
    have h3 := levels_suf ws sc xs n (stopN (moreD ws sc xs) n - j) j (by omega)
    have h4 := levels_suf ws sc xs n (stopN (moreD ws sc xs) n - (j + 1)) (j + 1) (by omega)
    have h5 := nowD_le ws sc xs h1 j
    rw [nowD_succ, liftF_len1] at h4
    unfold sizeAt
    rw [sizes_len, levelsD_at hj, liftF_len2, h3, h4]
    simp only [Bool.and_eq_true, Bool.or_eq_true, decide_eq_true_eq]
    omega
def coarseL (xss : List (List Nat)) (keep i : Nat) : List Nat := if i + 1 + keep < xss.length then zerosF (xss.getD i []).length else xss.getD i []
def coarseU (xss : List (List Nat)) (keep t : Nat) : List (List Nat) := (List.range xss.length).map fun i => if i < t then coarseL xss keep i else xss.getD i []
theorem coarseU_len (xss : List (List Nat)) (keep t : Nat) : (coarseU xss keep t).length = xss.length := by simp [coarseU]
theorem coarseU_at {xss : List (List Nat)} {keep t i : Nat} (h : i < xss.length) : (coarseU xss keep t).getD i [] = if i < t then coarseL xss keep i else xss.getD i [] := by
  rw [coarseU, getD_range_map h]
theorem coarseL_len (xss : List (List Nat)) (keep i : Nat) : (coarseL xss keep i).length = (xss.getD i []).length := by
  unfold coarseL
  split
  · exact zerosF_length _
  · rfl
theorem coarseU_row {xss : List (List Nat)} {keep t i : Nat} (h : i < xss.length) : ((coarseU xss keep t).getD i []).length = (xss.getD i []).length := by
  rw [coarseU_at h]
  split
  · exact coarseL_len _ _ _
  · rfl
theorem coarseU_zero (xss : List (List Nat)) (keep : Nat) : coarseU xss keep 0 = xss := by
  refine list_ext_getD [] (coarseU_len _ _ _) fun j hj => ?_
  rw [coarseU_len] at hj
  rw [coarseU_at hj]; rfl
theorem coarseU_succ {xss : List (List Nat)} {keep t : Nat} (h : t < xss.length) : coarseU xss keep (t + 1) = (coarseU xss keep t).set t (coarseL xss keep t) := by
  refine list_ext_getD [] (by simp [coarseU_len]) fun j hj => ?_
  rw [coarseU_len] at hj
  rw [coarseU_at hj]
  by_cases hjt : j = t
  · subst hjt
    rw [getD_set_self (by rw [coarseU_len]; exact hj), if_pos (by omega)]
  · rw [Go.Gx.getD_set_ne (Ne.symm hjt), coarseU_at hj]
    by_cases h2 : j < t
    · rw [if_pos h2, if_pos (by omega)]
    · rw [if_neg h2, if_neg (by omega)]
theorem coarseU_sizes (xss : List (List Nat)) (keep t : Nat) : (coarseU xss keep t).map List.length = xss.map List.length := by
  refine list_ext_getD 0 (by simp [coarseU_len]) fun j hj => ?_
  have hj' : j < xss.length := by simpa [coarseU_len] using hj
  rw [sizes_len, sizes_len, coarseU_row hj']
theorem coarseU_tot (xss : List (List Nat)) (keep t : Nat) : totL (coarseU xss keep t) = totL xss := by
  unfold totL offN
  rw [List.take_of_length_le (Nat.le_refl _), List.take_of_length_le (Nat.le_refl _), coarseU_len, coarseU_sizes]
theorem levels_fin {ws : List Nat} {sc : Nat} {xs : List Nat} {n : Nat} (hx : isLongF xs = true) (h : ∀ k, k < stopN (moreD ws sc xs) n → liftOkF ws sc (nowD ws sc xs k) = true) (i : Nat) (hi : i < (levelsD ws sc xs n).length) : ((levelsD ws sc xs n).getD i []).all finF = true := by
  rw [levelsD_len] at hi
  by_cases hk : i < stopN (moreD ws sc xs) n
  · rw [levelsD_at hk]
    have h1 := h i hk
    have h2 := of_decide_eq_true (stopN_all (p := moreD ws sc xs) n i hk)
    unfold liftOkF at h1
    rw [Bool.or_eq_true, Bool.and_eq_true, decide_eq_true_eq] at h1
    rcases h1 with h1 | h1
    · omega
    · exact h1.2
  · have hk' : i = stopN (moreD ws sc xs) n := by omega
    rw [hk', levelsD_last]
    exact isLong_fin (nowD_long hx _ h)
theorem coarse_bands {ws : List Nat} {sc : Nat} {xs : List Nat} {n keep t : Nat} (hx : isLongF xs = true) (hn : 1 ≤ n) (hn6 : n ≤ 6) (h : ∀ k, k < stopN (moreD ws sc xs) n → liftOkF ws sc (nowD ws sc xs k) = true) : bandsF (coarseU (levelsD ws sc xs n) keep t) = true := by
  obtain ⟨hl, hl1⟩ := isLong_len hx
  unfold bandsF
  rw [coarseU_sizes, levels_sizes hl1 hl hn hn6, Bool.true_and]
  refine (allD []).2 fun j hj => ?_
  rw [coarseU_len] at hj
  rw [coarseU_at hj]
  have hf := levels_fin hx h j hj
  split
  · unfold coarseL
    split
    · exact zerosF_fin _
    · exact hf
  · exact hf
theorem deepOk_parts {ws : List Nat} {sc : Nat} {xs : List Nat} {n : Int} (h : deepOk ws sc xs n = true) : schemeF ws sc = true ∧ isLongF xs = true ∧ within n 1 6 = true ∧ ∀ k, k < stopN (moreD ws sc xs) n.toNat → liftOkF ws sc (nowD ws sc xs k) = true := by
  unfold deepOk at h
  rw [Bool.and_eq_true, Bool.and_eq_true, Bool.and_eq_true, List.all_eq_true] at h
  exact ⟨h.1.1.1, h.1.1.2, h.1.2, fun k hk => h.2 k (List.mem_range.2 hk)⟩
theorem OwN_at {lo hi i : Nat} {H : Heap} {ty : TypeId} {vs : List Value} {ls : List (List Value)} {v : Value} {l : List Value} (o : OwN lo hi H ty vs ls) (hi' : i < ls.length) (p : OwL lo hi H ty v l) (hd : ∀ j h, j < ls.length → hdl (vs.getD j undef) = some h → hdl v ≠ some h) : OwN lo hi H ty (vs.set i v) (ls.set i l) := by
  obtain ⟨h1, h2, h3⟩ := o
  have es : (vs.set i v).getD i undef = v := getD_set_self (by omega)
  have en : ∀ j, j ≠ i → (vs.set i v).getD j undef = vs.getD j undef := fun j hj => Go.Gx.getD_set_ne (Ne.symm hj)
  refine ⟨by simp [h1], fun j hj => ?_, fun j k h hj hk hh hk' => ?_⟩
  · rw [List.length_set] at hj
    by_cases hji : j = i
    · rw [hji, es, getD_set_self hi']; exact p
    · rw [en j hji, Go.Gx.getD_set_ne (Ne.symm hji)]; exact h2 j hj
  · rw [List.length_set] at hj hk
    by_cases hji : j = i
    · by_cases hki : k = i
      · rw [hji, hki]
      · rw [hji, es] at hh
        rw [en k hki] at hk'
        exact absurd hh (hd k h hk hk')
    · by_cases hki : k = i
      · rw [hki, es] at hk'
        rw [en j hji] at hh
        exact absurd hk' (hd j h hj hh)
      · rw [en j hji] at hh
        rw [en k hki] at hk'
        exact h3 j k h hj hk hh hk'
def coarseOk (ws : List Nat) (sc : Nat) (xs : List Nat) (n keep : Int) : Bool := decide (0 ≤ keep) && (deepOk ws sc xs n && unOk ws sc (coarseU (levelsD ws sc xs n.toNat) keep.toNat ((levelsD ws sc xs n.toNat).length - 1 - keep.toNat)))
def coarseD (ws : List Nat) (sc : Nat) (xs : List Nat) (n keep : Int) : List Nat := dropD ws sc (coarseU (levelsD ws sc xs n.toNat) keep.toNat ((levelsD ws sc xs n.toNat).length - 1 - keep.toNat)) ((levelsD ws sc xs n.toNat).length - 1)
end Go.Proofs.Ytkojmlpaamdhoac

namespace Go.Proofs.Ytkojmlpaamdhoac
open Go.Gx
set_option maxRecDepth 100000
set_option linter.unusedSimpArgs false
set_option linter.unusedVariables false

def atF (xs : List Nat) (i : Int) : Nat := xs.getD (mirF xs.length i).toNat 0
def wK (k : Nat) : Nat := [1031798784, 1048576000, 1052770304, 1048576000, 1031798784].getD k 0
def smoothK (xs : List Nat) (d : Int) (j : Nat) : Nat → Nat := foldI (fun k s => fbin .add .f32 s (fbin .mul .f32 (atF xs ((j : Int) + ((k : Int) - 2) * d)) (wK k))) 0
def smoothL (d : Int) (xs : List Nat) : List Nat := (List.range xs.length).map fun j => smoothK xs d j 5
theorem smoothL_length (d : Int) (xs : List Nat) : (smoothL d xs).length = xs.length := by simp [smoothL]
theorem smooth5 (xs : List Nat) (d : Int) (j : Nat) : smoothK xs d j 5 = fbin .add .f32 (fbin .add .f32 (fbin .add .f32 (fbin .add .f32 (fbin .add .f32 0 (fbin .mul .f32 (atF xs ((j : Int) - 2 * d)) 1031798784)) (fbin .mul .f32 (atF xs ((j : Int) - d)) 1048576000)) (fbin .mul .f32 (atF xs (j : Int)) 1052770304)) (fbin .mul .f32 (atF xs ((j : Int) + d)) 1048576000)) (fbin .mul .f32 (atF xs ((j : Int) + 2 * d)) 1031798784) := by
  have e0 : (j : Int) + (((0 : Nat) : Int) - 2) * d = (j : Int) - 2 * d := by omega
  have e1 : (j : Int) + (((1 : Nat) : Int) - 2) * d = (j : Int) - d := by omega
  have e2 : (j : Int) + (((2 : Nat) : Int) - 2) * d = (j : Int) := by omega
  have e3 : (j : Int) + (((3 : Nat) : Int) - 2) * d = (j : Int) + d := by omega
  have e4 : (j : Int) + (((4 : Nat) : Int) - 2) * d = (j : Int) + 2 * d := by omega
  simp only [smoothK, foldI_succ, foldI_zero, e0, e1, e2, e3, e4]
  rfl
def nowW (xs : List Nat) : Nat → List Nat := foldI (fun t l => smoothL ((2 ^ t : Nat) : Int) l) xs
theorem nowW_succ (xs : List Nat) (t : Nat) : nowW xs (t + 1) = smoothL ((2 ^ t : Nat) : Int) (nowW xs t) := rfl
theorem nowW_len (xs : List Nat) : ∀ t, (nowW xs t).length = xs.length
  | 0 => rfl
  | t + 1 => by rw [nowW_succ, smoothL_length, nowW_len xs t]
def detW (xs : List Nat) (t : Nat) : List Nat := (List.range xs.length).map fun j => fbin .sub .f32 ((nowW xs t).getD j 0) ((nowW xs (t + 1)).getD j 0)
theorem detW_len (xs : List Nat) (t : Nat) : (detW xs t).length = xs.length := by simp [detW]
def frameW (xs : List Nat) (n : Nat) : List (List Nat) := (List.range n).map (detW xs) ++ [nowW xs n]
def frameOk (xs : List Nat) (n : Int) : Bool := isLongF xs && within n 0 6 && (frameW xs n.toNat).all fun l => l.all finF
theorem det_fin {xs : List Nat} {t : Nat} (hc : (nowW xs t).all finF = true) (hd : (detW xs t).all finF = true) : (nowW xs (t + 1)).all finF = true := by
  refine all_getD.2 fun j hj => ?_
  rw [nowW_len] at hj
  have h1 := all_getD.1 hc j (by rw [nowW_len]; exact hj)
  have h2 := all_getD.1 hd j (by rw [detW_len]; exact hj)
  rw [detW, getD_range_map hj] at h2
  exact fin_sub h1 h2
theorem outW_sum (xs : List Nat) (n : Nat) : ∀ t, t ≤ n → offN (frameW xs n) t = t * xs.length
  | 0, _ => by simp [offN_zero]
  | t + 1, h => by
    have hl : (frameW xs n).length = n + 1 := by simp [frameW]
    rw [offN_succ (by omega), outW_sum xs n t (by omega)]
    have e : (frameW xs n).getD t [] = detW xs t := by
      unfold frameW
      rw [getD_app_lt (by simp; omega)]
      exact getD_range_map (by omega)
    rw [e, detW_len, Nat.add_mul, Nat.one_mul]
theorem frameW_tot {xs : List Nat} {n : Nat} (hx : xs.length ≤ 128) (hn : n ≤ 6) : totL (frameW xs n) ≤ 2 ^ 40 := by
  have hl : (frameW xs n).length = n + 1 := by simp [frameW]
  unfold totL
  rw [hl, offN_succ (by omega), outW_sum xs n n (Nat.le_refl _)]
  have e : (frameW xs n).getD n [] = nowW xs n := by
    unfold frameW
    have := @getD_app_at _ ((List.range n).map (detW xs)) (nowW xs n) []
    rw [List.length_map, List.length_range] at this
    exact this
  rw [e, nowW_len]
  have : n * xs.length ≤ 6 * 128 := Nat.mul_le_mul hn hx
  omega
theorem eBsl_5 {ety : TypeId} {zero a b c d e : Value} {H : Heap} (ha : one a = true) (hb : one b = true) (hc : one c = true) (hd : one d = true) (he : one e = true) : eBsl ety 5 zero [(0, a), (1, b), (2, c), (3, d), (4, e)] H = some (.slice (some ⟨H.n, 0, none⟩) 5 5, H.new ⟨true, ety, [a, b, c, d, e]⟩) := by
  simp [eBsl, afillS, ha, hb, hc, hd, he, List.replicate]
def tapsW : List Nat := [1031798784, 1048576000, 1052770304, 1048576000, 1031798784]
theorem frame_no {xs : List Nat} {n t : Nat} (ht : t < n) (h : (detW xs t).all finF = false) : frameOk xs n = false := by
  have : ((frameW xs n).all fun l => l.all finF) = false := by
    rw [List.all_eq_false]
    exact ⟨detW xs t, List.mem_append_left _ (List.mem_map.2 ⟨t, List.mem_range.2 ht, rfl⟩), by rw [h]; decide⟩
  unfold frameOk
  rw [Int.toNat_natCast, this, Bool.and_false]
theorem frame_yes {xs : List Nat} {n : Nat} (h1 : isLongF xs = true) (h2 : within n 0 6 = true) (h : ∀ t, t < n → (detW xs t).all finF = true) (h' : (nowW xs n).all finF = true) : frameOk xs n = true := by
  have : ((frameW xs n).all fun l => l.all finF) = true := by
    rw [List.all_eq_true]
    intro l hl
    rcases List.mem_append.1 hl with hl | hl
    · obtain ⟨t, ht, rfl⟩ := List.mem_map.1 hl
      exact h t (List.mem_range.1 ht)
    · rw [List.mem_singleton] at hl
      rw [hl]; exact h'
  unfold frameOk
  rw [Int.toNat_natCast, this, h1, h2]; rfl
end Go.Proofs.Ytkojmlpaamdhoac

namespace Go.Proofs.Ytkojmlpaamdhoac
open Go.Gx
set_option maxRecDepth 100000
set_option linter.unusedSimpArgs false
set_option linter.unusedVariables false

def markB (k : Int) (i : Nat) : Value := .bool (decide ((k + i).tmod 3 = 0))
def keepL (keep : Bool) (xs : List Nat) : List Nat := if keep = true then xs else List.replicate xs.length 0
theorem keepL_length (keep : Bool) (xs : List Nat) : (keepL keep xs).length = xs.length := by unfold keepL; split <;> simp
def keepS (ks : List Bool) (yss : List (List Nat)) (n : Nat) : List (List Nat) := (List.range n).map fun j => keepL (ks.getD j false) (yss.getD j [])
theorem keepS_succ (ks : List Bool) (yss : List (List Nat)) (n : Nat) : keepS ks yss n ++ [keepL (ks.getD n false) (yss.getD n [])] = keepS ks yss (n + 1) := by simp [keepS, List.range_succ]
theorem keepS_length (ks : List Bool) (yss : List (List Nat)) (n : Nat) : (keepS ks yss n).length = n := by simp [keepS]
theorem keepS_tot (ks : List Bool) (yss : List (List Nat)) : totL (keepS ks yss yss.length) = totL yss := by
  have h : ∀ n, n ≤ yss.length → offN (keepS ks yss yss.length) n = offN yss n := by
    intro n
    induction n with
    | zero => intro _; simp [offN_zero]
    | succ n ih =>
      intro hn
      rw [offN_succ (by rw [keepS_length]; omega), offN_succ (by omega), ih (by omega)]
      unfold keepS
      rw [getD_range_map (by omega), keepL_length]
  unfold totL
  rw [keepS_length, h _ (Nat.le_refl _)]
def keepOk (xs : List Nat) (yss : List (List Nat)) (ks : List Bool) : Bool := validBandsF xs yss && decide (ks.length = yss.length)
/-- Bands that are handed back. -/
def BandsR (sty ty : TypeId) (H : Heap) (ok : Bool) (xs : List Nat) (yss : List (List Nat)) (r : Value) (H' : Heap) : Prop :=
  Ext H H' ∧ ∃ v u, r = .tuple #[.agg #[v, u], .bool ok] ∧ OwB H.n H'.n H' sty ty v u ((selL ok xs).map fv) ((selL ok yss).map (List.map fv)) ∧ (selL ok xs).length ≤ 2 ^ 40 ∧ totL (selL ok yss) ≤ 2 ^ 40
theorem OwB.nil {lo hi : Nat} {H : Heap} {sty ty : TypeId} : OwB lo hi H sty ty (.slice none 0 0) (.slice none 0 0) [] [] := ⟨[], .nil, OwN.cons .nil .nil fun i h hi => by simp at hi⟩
theorem BandsR.no {sty ty : TypeId} {H H' : Heap} {ok : Bool} {xs : List Nat} {yss : List (List Nat)} (hk : ok = false) (e : Ext H H') : BandsR sty ty H ok xs yss (.tuple #[.agg #[.slice none 0 0, .slice none 0 0], .bool false]) H' := by
  subst hk; exact ⟨e, _, _, rfl, OwB.nil, by simp [selL], by simp [selL, totL, offN]⟩
theorem BandsR.yes {sty ty : TypeId} {H H' : Heap} {ok : Bool} {xs : List Nat} {yss : List (List Nat)} {v u : Value} (hk : ok = true) (e : Ext H H') (o : OwB H.n H'.n H' sty ty v u (xs.map fv) (yss.map (List.map fv))) (hl : xs.length ≤ 2 ^ 40) (hm : totL yss ≤ 2 ^ 40) :
    BandsR sty ty H ok xs yss (.tuple #[.agg #[v, u], .bool true]) H' := by
  subst hk; exact ⟨e, v, u, rfl, o, hl, hm⟩
theorem eCpy_own {H : Heap} {h n : Nat} {ty : TypeId} {l src : List Value} (hb : H.blk h = some ⟨true, ty, l⟩) (hl : l.length = n) (hs : src.length = n) :
    eCpy (.slice (some ⟨h, 0, none⟩) n n) (some src) H = some (.int .i64 (n : Nat), H.put h ⟨true, ty, src⟩) := by
  show cpyB (H.blk h) h 0 n n src H = _
  rw [hb]
  unfold cpyB
  simp only [hl, hs, Nat.zero_add, Nat.min_self, List.take_zero, List.nil_append, Nat.le_refl, and_self, if_true]
  rw [List.take_of_length_le (by omega), List.drop_of_length_le (by omega), List.append_nil]
/-- A list is appended to a list of lists that lies in a variable's block, beside another list. -/
theorem OwB_push {H0 G : Heap} {hp lo bytes : Nat} {c d r : Value} {l m : List Value} {ls : List (List Value)} {vs : List Value} {bty sty ty : TypeId} (E : Ext H0 G) (od : OwL lo G.n G sty d vs) (on : OwN lo G.n G ty (c :: vs) (l :: ls))
    (orr : OwL lo G.n G ty r m) (hd : ∀ i h, i < (l :: ls).length → hdl ((c :: vs).getD i undef) = some h → hdl r ≠ some h) (hlo : H0.n ≤ lo) (hlo' : lo ≤ G.n) (hb : G.blk hp = some ⟨true, bty, [c, d]⟩) (hh : hp < G.n) (hp0 : H0.n ≤ hp) (h1 : bty ≠ sty) (h2 : bty ≠ ty) (h3 : sty ≠ ty)
    (hlen : (vs.length + 1) * bytes ≤ 140737488355328) :
    ∃ d' G', eApp sty bytes d (some [r]) (G.new ⟨true, sty, [r]⟩) = some (d', G') ∧ one d' = true ∧ G.n + 1 ≤ G'.n ∧ G'.blk hp = some ⟨true, bty, [c, d]⟩ ∧ (∀ i, i < G.n → hdl d ≠ some i → G'.blk i = G.blk i) ∧ Ext H0 (G'.put hp ⟨true, bty, [c, d']⟩) ∧
      OwL lo G'.n (G'.put hp ⟨true, bty, [c, d']⟩) sty d' (vs ++ [r]) ∧ OwN lo G'.n (G'.put hp ⟨true, bty, [c, d']⟩) ty (c :: (vs ++ [r])) (l :: (ls ++ [m])) := by
  obtain ⟨d', G', e, n', hb', o1, hk, hfin⟩ := push_ow (bytes := bytes) (x := r) E od hlo hlo' hb hh hp0 h1 hlen
  obtain ⟨f1, f2⟩ := hfin [c, d']
  refine ⟨d', G', e, o1, n', hb', hk, f1, f2, ?_⟩
  have q := on.snoc orr hd
  refine ((OwN.wide q (Nat.le_refl _) (by omega : G.n ≤ G'.n)).keep (by rw [put_n]; omega) fun i h hi hh' => ?_)
  obtain ⟨_, _, g3, g4, _⟩ := (q.2.1 i hi).hdl hh'
  rw [hput_other _ _ _ _ (fun e => by subst e; rw [hb] at g4; simp only [Option.some.injEq, Blk.mk.injEq] at g4; exact h2 g4.2.1)]
  refine hk h g3 fun e => ?_
  obtain ⟨_, _, _, k4, _⟩ := od.hdl e
  rw [g4] at k4
  simp only [Option.some.injEq, Blk.mk.injEq] at k4
  exact h3 k4.2.1.symm
end Go.Proofs.Ytkojmlpaamdhoac

namespace Go.Proofs.Ytkojmlpaamdhoac
open Go.Gx
set_option maxRecDepth 100000
set_option linter.unusedSimpArgs false
set_option linter.unusedVariables false

theorem swap_ix {m n x y : Nat} (hx : x < n) (hy : y < m) : x * m + y < m * n := by
  have h1 : (x + 1) * m ≤ n * m := Nat.mul_le_mul_right m hx
  rw [Nat.add_mul, Nat.one_mul, Nat.mul_comm n m] at h1
  omega
theorem swap_fin {m n : Nat} {xs : List Nat} (hn : 1 ≤ n) (hl : xs.length = m * n) (hf : xs.all finF = true) : (tabL (m * n) (swapF m n xs)).all finF = true := tabL_fin fun t ht => by
  have ha : t % n < n := Nat.mod_lt _ hn
  have hb : t / n < m := Nat.div_lt_of_lt_mul (by rw [Nat.mul_comm]; exact ht)
  exact all_getD.1 hf _ (by rw [hl]; exact swap_ix ha hb)
end Go.Proofs.Ytkojmlpaamdhoac

namespace Go.Proofs.Ytkojmlpaamdhoac
open Go.Gx
set_option maxRecDepth 100000
set_option linter.unusedSimpArgs false
set_option linter.unusedVariables false

theorem callR_put {P : Program} {f : FuncId} {args : List Value} {d : Option Nat} {rc : RC} {r : List AStep} {k : List AItem} {R : Post} {φ : Gx.Frame} {H : Heap} {h : Nat} {b : Blk}
    (hk : ∀ G, G.n = H.n → G.blk h = some b → (∀ i, i ≠ h → G.blk i = H.blk i) → callR P f args d rc r k R φ G) : callR P f args d rc r k R φ (H.put h b) := hk _ rfl (hput_self _ _ _) fun i hi => hput_other _ _ _ _ hi
/-- The rest behind a call's result and its variable, whose block was made in any order: shown once. -/
theorem bothPic {P : Program} {ty t : TypeId} {G0 : Heap} {ok : Bool} {w h : Int} {l : List Nat} {f : FuncId} {args : Nat → Value → List Value} {d : Option Nat} {rc : RC} {r : List AStep} {k : List AItem} {R : Post} {φ : Nat → Value → Gx.Frame} {X : Prop}
    (main : (∀ (p : Nat) (y : Value) (G : Heap), G0.n ≤ p → p < G.n → Ext G0 G → G.blk p = some ⟨true, ty, [.int .i64 (selI ok w), .int .i64 (selI ok h), y]⟩ → OwL G0.n G.n G t y ((selL ok l).map fv) → (selL ok l).length ≤ 2 ^ 40 → callR P f (args p y) d rc r k R (φ p y) G) → X)
    (kk : ∀ (p : Nat) (y : Value) (G : Heap), G0.n ≤ p → p < G.n → Ext G0 G → G.blk p = some ⟨true, ty, [.int .i64 (selI ok w), .int .i64 (selI ok h), y]⟩ → OwL G0.n G.n G t y ((selL ok l).map fv) → (selL ok l).length ≤ 2 ^ 40 → callR P f (args p y) d rc r k R (φ p y) G) : X := main kk
def blendF (sh : Nat) (xs ys : List Nat) (i : Nat) : Nat := fbin .add .f32 (xs.getD i 0) (fbin .mul .f32 sh (fbin .sub .f32 (ys.getD i 0) (xs.getD i 0)))
def blendL (sh : Nat) (xs ys : List Nat) : List Nat := tabL xs.length (blendF sh xs ys)
def blendOk (a c : Int) (xs : List Nat) (b d : Int) (ys : List Nat) (sh : Nat) : Bool := alikeF a c xs b d ys && shareF sh && validPicF a c (blendL sh xs ys)
theorem alike_len {a c b d : Int} {xs ys : List Nat} (h : alikeF a c xs b d ys = true) : ys.length = xs.length ∧ xs.length ≤ 256 ∧ a = b ∧ c = d := by
  unfold alikeF at h
  simp only [Bool.and_eq_true, decide_eq_true_eq] at h
  obtain ⟨⟨⟨h1, h2⟩, rfl⟩, rfl⟩ := h
  have q := valid_len h1
  obtain ⟨m, n, rfl, rfl, _, _, _, _, e1, _⟩ := valid_sides h1
  obtain ⟨m', n', e3, e4, _, _, _, _, e2, _⟩ := valid_sides h2
  have : m' = m := by omega
  have : n' = n := by omega
  subst_vars
  exact ⟨by rw [e1, e2], q, rfl, rfl⟩
theorem i_areAlike_ok {H : Heap} {a c b d : Int} {v u : Value} {xs ys : List Nat} (hv : FS H v xs) (hu : FS H u ys) (hn : xs.length ≤ 2 ^ 40) (hm : ys.length ≤ 2 ^ 40) :
    ACalls Try.prog n_i_areAlike [.agg #[.int .i64 a, .int .i64 c, v], .agg #[.int .i64 b, .int .i64 d, u]] H fun r H' => r = .bool (alikeF a c xs b d ys) ∧ Ext H H' := by
  refine k_i_areAlike.run rfl ?_
  unfold c_i_areAlike
  have o1 := hv.one
  have o2 := hu.one
  simp (disch := first | assumption | omega | rfl | (refine id ?_; simp only [gxD, ne_eq, reduceCtorEq, not_false_eq_true, Nat.reduceAdd, *]; done) | (refine id ?_; simp only [gxD]; omega)) only [↓gxPre, gxPost, ↓reduceIte, Nat.reduceEqDiff, reduceCtorEq, Nat.reduceAdd]
  refine callR_new2 ?_
  intro K eK hb hb2 nK
  refine callR_ext (i_ValidPicture_ok (hv.ext eK) hn) ?_
  intro G n1 b1
  have e1 : Ext H G := eK.trans ⟨n1, b1⟩
  replace hb := (b1 _ (by omega)).trans hb
  replace hb2 := (b1 _ (by omega)).trans hb2
  cases h1 : validPicF a c xs
  · simp (disch := first | assumption | omega | rfl | (refine id ?_; simp only [gxD, ne_eq, reduceCtorEq, not_false_eq_true, Nat.reduceAdd, *]; done) | (refine id ?_; simp only [gxD]; omega)) only [↓gxPre, gxPost, ↓reduceIte, Nat.reduceEqDiff, reduceCtorEq, Nat.reduceAdd]
    exact ⟨by simp only [alikeF, h1, Bool.false_and, Bool.true_and, Bool.and_true, Bool.and_false, Bool.or_true, Bool.true_or, Bool.false_or, Bool.or_false, Bool.and_self, Bool.or_self], e1⟩
  simp (disch := first | assumption | omega | rfl | (refine id ?_; simp only [gxD, ne_eq, reduceCtorEq, not_false_eq_true, Nat.reduceAdd, *]; done) | (refine id ?_; simp only [gxD]; omega)) only [↓gxPre, gxPost, ↓reduceIte, Nat.reduceEqDiff, reduceCtorEq, Nat.reduceAdd, hb2]
  refine callR_ext (i_ValidPicture_ok (hu.ext e1) hm) ?_
  intro G2 n2 b2
  have e2 : Ext H G2 := e1.trans ⟨n2, b2⟩
  replace hb := (b2 _ (by omega)).trans hb
  replace hb2 := (b2 _ (by omega)).trans hb2
  cases h2 : validPicF b d ys
  · simp (disch := first | assumption | omega | rfl | (refine id ?_; simp only [gxD, ne_eq, reduceCtorEq, not_false_eq_true, Nat.reduceAdd, *]; done) | (refine id ?_; simp only [gxD]; omega)) only [↓gxPre, gxPost, ↓reduceIte, Nat.reduceEqDiff, reduceCtorEq, Nat.reduceAdd]
    exact ⟨by simp only [alikeF, h2, Bool.false_and, Bool.true_and, Bool.and_true, Bool.and_false, Bool.or_true, Bool.true_or, Bool.false_or, Bool.or_false, Bool.and_self, Bool.or_self], e2⟩
  by_cases h3 : a = b
  · subst h3
    simp (disch := first | assumption | omega | rfl | (refine id ?_; simp only [gxD, ne_eq, reduceCtorEq, not_false_eq_true, Nat.reduceAdd, *]; done) | (refine id ?_; simp only [gxD]; omega)) only [↓gxPre, gxPost, ↓reduceIte, Nat.reduceEqDiff, reduceCtorEq, Nat.reduceAdd, hb, hb2]
    refine ⟨by simp only [alikeF, h1, h2, Bool.false_and, Bool.true_and, Bool.and_true, Bool.and_false, Bool.or_true, Bool.true_or, Bool.false_or, Bool.or_false, Bool.and_self, Bool.or_self, decide_true], e2⟩
  · simp (disch := first | assumption | omega | rfl | (refine id ?_; simp only [gxD, ne_eq, reduceCtorEq, not_false_eq_true, Nat.reduceAdd, *]; done) | (refine id ?_; simp only [gxD]; omega)) only [↓gxPre, gxPost, ↓reduceIte, Nat.reduceEqDiff, reduceCtorEq, Nat.reduceAdd, hb, hb2, h3]
    exact ⟨by simp only [alikeF, decide_eq_false h3, Bool.false_and, Bool.true_and, Bool.and_true, Bool.and_false, Bool.or_true, Bool.true_or, Bool.false_or, Bool.or_false, Bool.and_self, Bool.or_self], e2⟩
theorem s_l04Both_ok {H : Heap} {p q : Nat} {w1 w2 : Bool} {t1 t2 : TypeId} {a c b d : Int} {v u : Value} {xs ys : List Nat} (hb : H.blk p = some ⟨w1, t1, [.int .i64 a, .int .i64 c, v]⟩) (hb2 : H.blk q = some ⟨w2, t2, [.int .i64 b, .int .i64 d, u]⟩) (hv : FS H v xs) (hu : FS H u ys) (hn : xs.length ≤ 2 ^ 40) (hm : ys.length ≤ 2 ^ 40) :
    ACalls Try.prog n_s_l04Both [.pointer (some ⟨p, 0, some 3⟩), .pointer (some ⟨q, 0, some 3⟩)] H fun r H' => r = .bool (alikeF a c xs b d ys) ∧ H' = H := by
  refine k_s_l04Both.run rfl ?_
  unfold c_s_l04Both
  simp (disch := first | assumption | omega | rfl | (refine id ?_; simp only [gxD, ne_eq, reduceCtorEq, not_false_eq_true, Nat.reduceAdd, *]; done) | (refine id ?_; simp only [gxD]; omega)) only [↓gxPre, gxPost, ↓reduceIte, Nat.reduceEqDiff, reduceCtorEq, Nat.reduceAdd]
  refine callR_pure (s_l04Is_ok hb hv hn) (.inl rfl) ?_
  cases h1 : validPicF a c xs
  · simp (disch := first | assumption | omega | rfl | (refine id ?_; simp only [gxD, ne_eq, reduceCtorEq, not_false_eq_true, Nat.reduceAdd, *]; done) | (refine id ?_; simp only [gxD]; omega)) only [↓gxPre, gxPost, ↓reduceIte, Nat.reduceEqDiff, reduceCtorEq, Nat.reduceAdd]
    exact by simp only [alikeF, h1, Bool.false_and, Bool.true_and, Bool.and_true, Bool.and_false, Bool.or_true, Bool.true_or, Bool.false_or, Bool.or_false, Bool.and_self, Bool.or_self]
  simp (disch := first | assumption | omega | rfl | (refine id ?_; simp only [gxD, ne_eq, reduceCtorEq, not_false_eq_true, Nat.reduceAdd, *]; done) | (refine id ?_; simp only [gxD]; omega)) only [↓gxPre, gxPost, ↓reduceIte, Nat.reduceEqDiff, reduceCtorEq, Nat.reduceAdd]
  refine callR_pure (s_l04Is_ok hb2 hu hm) (.inl rfl) ?_
  cases h2 : validPicF b d ys
  · simp (disch := first | assumption | omega | rfl | (refine id ?_; simp only [gxD, ne_eq, reduceCtorEq, not_false_eq_true, Nat.reduceAdd, *]; done) | (refine id ?_; simp only [gxD]; omega)) only [↓gxPre, gxPost, ↓reduceIte, Nat.reduceEqDiff, reduceCtorEq, Nat.reduceAdd]
    exact by simp only [alikeF, h2, Bool.false_and, Bool.true_and, Bool.and_true, Bool.and_false, Bool.or_true, Bool.true_or, Bool.false_or, Bool.or_false, Bool.and_self, Bool.or_self]
  by_cases h3 : a = b
  · subst h3
    simp (disch := first | assumption | omega | rfl | (refine id ?_; simp only [gxD, ne_eq, reduceCtorEq, not_false_eq_true, Nat.reduceAdd, *]; done) | (refine id ?_; simp only [gxD]; omega)) only [↓gxPre, gxPost, ↓reduceIte, Nat.reduceEqDiff, reduceCtorEq, Nat.reduceAdd, hb, hb2]
    exact by simp only [alikeF, h1, h2, Bool.false_and, Bool.true_and, Bool.and_true, Bool.and_false, Bool.or_true, Bool.true_or, Bool.false_or, Bool.or_false, Bool.and_self, Bool.or_self, decide_true]
  · simp (disch := first | assumption | omega | rfl | (refine id ?_; simp only [gxD, ne_eq, reduceCtorEq, not_false_eq_true, Nat.reduceAdd, *]; done) | (refine id ?_; simp only [gxD]; omega)) only [↓gxPre, gxPost, ↓reduceIte, Nat.reduceEqDiff, reduceCtorEq, Nat.reduceAdd, hb, hb2, h3]
    exact by simp only [alikeF, decide_eq_false h3, Bool.false_and, Bool.true_and, Bool.and_true, Bool.and_false, Bool.or_true, Bool.true_or, Bool.false_or, Bool.or_false, Bool.and_self, Bool.or_self]
end Go.Proofs.Ytkojmlpaamdhoac

namespace Go.Proofs.Ytkojmlpaamdhoac
open Go.Gx
set_option maxRecDepth 100000
set_option linter.unusedSimpArgs false
set_option linter.unusedVariables false

def putI (W x y w : Nat) (i : Nat) : Nat := (y + i / w) * W + x + i % w
def putN (W x y w : Nat) (ps : List Nat) (xs : List Nat) : Nat → List Nat := foldI (fun i l => l.set (putI W x y w i) (ps.getD i 0)) xs
theorem putN_succ (W x y w : Nat) (ps xs : List Nat) (n : Nat) : putN W x y w ps xs (n + 1) = (putN W x y w ps xs n).set (putI W x y w n) (ps.getD n 0) := rfl
theorem putN_len (W x y w : Nat) (ps xs : List Nat) : ∀ n, (putN W x y w ps xs n).length = xs.length
  | 0 => rfl
  | n + 1 => by rw [putN_succ, List.length_set]; exact putN_len W x y w ps xs n
theorem rowset {l src : List Nat} {o : Nat} : ∀ u, o + u ≤ l.length → u ≤ src.length → foldI (fun i (k : List Nat) => k.set (o + i) (src.getD i 0)) l u = l.take o ++ src.take u ++ l.drop (o + u)
  | 0, h1, h2 => by simp [foldI_zero]
  | u + 1, h1, h2 => by
    rw [foldI_succ, rowset u (by omega) (by omega)]
    have hlen : (l.take o ++ src.take u).length = o + u := by simp; omega
    rw [List.set_append_right _ _ (by omega), hlen, Nat.sub_self]
    have hd : l.drop (o + u) = l.getD (o + u) 0 :: l.drop (o + (u + 1)) := by
      have : o + u < l.length := by omega
      rw [List.drop_eq_getElem_cons this]
      simp [List.getD_eq_getElem?_getD, this, Nat.add_assoc]
    have ht : src.take (u + 1) = src.take u ++ [src.getD u 0] := by
      have : u < src.length := by omega
      rw [List.take_add_one]
      simp [List.getD_eq_getElem?_getD, this]
    rw [hd, List.set_cons_zero, ht]
    simp
theorem putN_row {W x y w : Nat} {ps xs : List Nat} {v : Nat} (hw : 1 ≤ w) : ∀ u, u ≤ w → putN W x y w ps xs (v * w + u) = foldI (fun i (k : List Nat) => k.set ((y + v) * W + x + i) ((ps.drop (v * w)).getD i 0)) (putN W x y w ps xs (v * w)) u
  | 0, _ => by simp [foldI_zero]
  | u + 1, h => by
    rw [← Nat.add_assoc, putN_succ, foldI_succ, ← putN_row hw u (by omega)]
    have e : putI W x y w (v * w + u) = (y + v) * W + x + u := by
      unfold putI
      rw [row_div (w := w) (y := v) (x := u) (by omega), row_mod (w := w) (y := v) (x := u) (by omega)]
    have e2 : (ps.drop (v * w)).getD u 0 = ps.getD (v * w + u) 0 := by simp [List.getD_eq_getElem?_getD, List.getElem?_drop]
    rw [e, e2]
theorem putN_copy {W x y w : Nat} {ps xs : List Nat} {v : Nat} (hw : 1 ≤ w) (h1 : (y + v) * W + x + w ≤ xs.length) (h2 : (v + 1) * w ≤ ps.length) :
    putN W x y w ps xs ((v + 1) * w) = (putN W x y w ps xs (v * w)).take ((y + v) * W + x) ++ (ps.drop (v * w)).take w ++ (putN W x y w ps xs (v * w)).drop ((y + v) * W + x + w) := by
  rw [Nat.add_mul, Nat.one_mul, putN_row hw w (Nat.le_refl _)]
  rw [Nat.add_mul, Nat.one_mul] at h2
  exact rowset w (by rw [putN_len]; exact h1) (by simp; omega)
def putOk (a c : Int) (xs : List Nat) (b d : Int) (ps : List Nat) (x y : Int) : Bool := validPicF b d ps && partOk a c xs x y b d
def putL (a : Int) (xs : List Nat) (b d : Int) (ps : List Nat) (x y : Int) : List Nat := putN a.toNat x.toNat y.toNat b.toNat ps xs (b.toNat * d.toNat)
theorem cpyB_at {H : Heap} {h o n t : Nat} {ty : TypeId} {l src : List Value} (hl : l.length = o + t) (hn : n ≤ t) (hs : src.length ≤ n) :
    cpyB (some ⟨true, ty, l⟩) h o n t src H = some (.int .i64 (src.length : Nat), H.put h ⟨true, ty, l.take o ++ src ++ l.drop (o + src.length)⟩) := by
  unfold cpyB
  simp only [hl, hn, and_self, if_true, Nat.min_eq_left hs]
  rw [List.take_of_length_le hs]
theorem eCpy_s {H : Heap} {h o n t : Nat} {src : List Value} : eCpy (.slice (some ⟨h, o, none⟩) n t) (some src) H = cpyB (H.blk h) h o n t src H := rfl
theorem slcLo_at {h L o : Nat} (ho : o ≤ L) : aSlcLo (.slice (some ⟨h, 0, none⟩) L L) (.int .i64 (o : Nat)) = some (.slice (some ⟨h, o, none⟩) (L - o) (L - o)) := by
  show aSlc _ _ _ = _
  simp only [aSlc, vn]
  rw [if_pos (by omega)]
  simp
end Go.Proofs.Ytkojmlpaamdhoac

namespace Go.Proofs.Ytkojmlpaamdhoac
open Go.Gx
set_option maxRecDepth 100000
set_option linter.unusedSimpArgs false
set_option linter.unusedVariables false

theorem OwB.keepB {lo hi : Nat} {H H' : Heap} {sty ty : TypeId} {c d : Value} {l : List Value} {ls : List (List Value)} (o : OwB lo hi H sty ty c d l ls) (hn : H.n ≤ H'.n) (hb : ∀ h, lo ≤ h → h < hi → H'.blk h = H.blk h) : OwB lo hi H' sty ty c d l ls := by
  obtain ⟨vs, a, b⟩ := o
  exact ⟨vs, a.keep hn fun h hh => hb h (a.hdl hh).1 (a.hdl hh).2.1, b.keep hn fun i h hi' hh => hb h (b.lt hi' hh).1 (b.lt hi' hh).2.1⟩
/-- The rest behind a call's result and its variable, whose block was made in any order: shown once. -/
theorem bothBands {P : Program} {bty sty t : TypeId} {G0 : Heap} {ok : Bool} {l : List Nat} {m : List (List Nat)} {f : FuncId} {args : Nat → Value → Value → List Value} {d : Option Nat} {rc : RC} {r : List AStep} {k : List AItem} {R : Post} {φ : Nat → Value → Value → Gx.Frame} {X : Prop}
    (main : (∀ (p : Nat) (y z : Value) (G : Heap), G0.n ≤ p → p < G.n → Ext G0 G → G.blk p = some ⟨true, bty, [y, z]⟩ → OwB G0.n G.n G sty t y z ((selL ok l).map fv) ((selL ok m).map (List.map fv)) → (selL ok l).length ≤ 2 ^ 40 → totL (selL ok m) ≤ 2 ^ 40 → callR P f (args p y z) d rc r k R (φ p y z) G) → X)
    (kk : ∀ (p : Nat) (y z : Value) (G : Heap), G0.n ≤ p → p < G.n → Ext G0 G → G.blk p = some ⟨true, bty, [y, z]⟩ → OwB G0.n G.n G sty t y z ((selL ok l).map fv) ((selL ok m).map (List.map fv)) → (selL ok l).length ≤ 2 ^ 40 → totL (selL ok m) ≤ 2 ^ 40 → callR P f (args p y z) d rc r k R (φ p y z) G) : X := main kk
def nowS (xs ps : List Nat) : Nat → List Nat := foldI (fun _ l => tapL l ps) xs
theorem nowS_zero (xs ps : List Nat) : nowS xs ps 0 = xs := rfl
theorem nowS_succ (xs ps : List Nat) (t : Nat) : nowS xs ps (t + 1) = tapL (nowS xs ps t) ps := rfl
theorem nowS_le (xs ps : List Nat) : ∀ t, (nowS xs ps t).length ≤ xs.length
  | 0 => Nat.le_refl _
  | t + 1 => by
    have := nowS_le xs ps t
    rw [nowS_succ]
    have e : (tapL (nowS xs ps t) ps).length = (nowS xs ps t).length / 2 := tabL_length _ _
    omega
def detsS (xs ps : List Nat) (n : Nat) : List (List Nat) := (List.range n).map fun t => tapL (nowS xs ps t) (highL ps)
theorem detsS_succ (xs ps : List Nat) (n : Nat) : detsS xs ps n ++ [tapL (nowS xs ps n) (highL ps)] = detsS xs ps (n + 1) := by simp [detsS, List.range_succ]
theorem detsS_length (xs ps : List Nat) (n : Nat) : (detsS xs ps n).length = n := by simp [detsS]
theorem detsS_tot {xs ps : List Nat} {n : Nat} (hx : xs.length ≤ 128) (hn : n ≤ 6) : totL (detsS xs ps n) ≤ 2 ^ 40 := by
  have h : ∀ t, t ≤ n → offN (detsS xs ps n) t ≤ 64 * t := by
    intro t
    induction t with
    | zero => intro _; simp [offN_zero]
    | succ t ih =>
      intro ht
      have h1 := ih (by omega)
      rw [offN_succ (by rw [detsS_length]; omega)]
      have e : (detsS xs ps n).getD t [] = tapL (nowS xs ps t) (highL ps) := getD_range_map (by omega)
      have e2 : (tapL (nowS xs ps t) (highL ps)).length = (nowS xs ps t).length / 2 := tabL_length _ _
      have := nowS_le xs ps t
      rw [e, e2]
      omega
  have := h n (Nat.le_refl _)
  unfold totL
  rw [detsS_length]
  omega
def splitLevOk (xs ps : List Nat) (n : Int) : Bool := isLongF xs && validPairF ps && within n 1 6 && decide (xs.length % 2 ^ n.toNat = 0) && (List.range n.toNat).all fun t => splitOk (nowS xs ps t) ps
theorem splitLev_no {xs ps : List Nat} {n t : Nat} (ht : t < n) (h : splitOk (nowS xs ps t) ps = false) : splitLevOk xs ps n = false := by
  unfold splitLevOk
  rw [Int.toNat_natCast, allR_false (p := fun t => splitOk (nowS xs ps t) ps) ht h, Bool.and_false]
theorem shl_at {n : Nat} (hn : n ≤ 6) : IntKind.wrap .i64 (1 * 2 ^ min ((n : Int)).toNat IntKind.i64.bits) = ((2 ^ n : Nat) : Int) ∧ min n IntKind.i64.bits = n ∧ IntKind.wrap .i64 (1 * 2 ^ n) = ((2 ^ n : Nat) : Int) := by
  have hp : (2 : Nat) ^ n ≤ 2 ^ 6 := Nat.pow_le_pow_right (by omega) (by omega)
  have hb : IntKind.i64.bits = 64 := rfl
  have hmn2 : min n IntKind.i64.bits = n := by rw [hb]; omega
  have h2 : IntKind.wrap .i64 (1 * 2 ^ n) = ((2 ^ n : Nat) : Int) := by
    rw [Int.one_mul]
    have hc : ((2 : Int) ^ n) = ((2 ^ n : Nat) : Int) := by push_cast; rfl
    rw [hc]
    exact wrN _ (by omega)
  exact ⟨by rw [Int.toNat_natCast, hmn2]; exact h2, hmn2, h2⟩
theorem fbin_lt (op : BinOp) (k : FloatKind) (x y : Nat) : fbin op k x y < 2 ^ k.format.width := by
  unfold fbin
  cases h : floatBits op k x y with
  | none => exact qnan_lt k
  | some r => exact floatBits_lt h
theorem tapL_w (xs ps : List Nat) : W32 (tapL xs ps) := fun j => by
  by_cases hj : j < xs.length / 2
  · rw [tapL, tabL_getD hj]
    cases ps.length with
    | zero => simp [tapF, foldI_zero]
    | succ k => rw [tapF_succ]; exact fbin_lt .add .f32 _ _
  · have : (tapL xs ps).getD j 0 = 0 := by
      have hl : (tapL xs ps).length = xs.length / 2 := tabL_length _ _
      simp [List.getD_eq_getElem?_getD, List.getElem?_eq_none (show (tapL xs ps).length ≤ j by omega)]
    rw [this]; omega
theorem nowS_w {xs ps : List Nat} (h : W32 xs) : ∀ t, W32 (nowS xs ps t)
  | 0 => h
  | t + 1 => tapL_w _ _
end Go.Proofs.Ytkojmlpaamdhoac

namespace Go.Proofs.Ytkojmlpaamdhoac
open Go.Gx
set_option maxRecDepth 100000
set_option linter.unusedSimpArgs false
set_option linter.unusedVariables false

/-- The rest behind two blocks that were made in any order: shown once. -/
theorem bothAny {P : Program} {A : Nat → Value → Value → Heap → Prop} {f : FuncId} {args : Nat → Value → Value → List Value} {d : Option Nat} {rc : RC} {r : List AStep} {k : List AItem} {R : Post} {φ : Nat → Value → Value → Gx.Frame} {X : Prop}
    (main : (∀ (p : Nat) (y z : Value) (G : Heap), A p y z G → callR P f (args p y z) d rc r k R (φ p y z) G) → X) (kk : ∀ (p : Nat) (y z : Value) (G : Heap), A p y z G → callR P f (args p y z) d rc r k R (φ p y z) G) : X := main kk
def aloneK (n : Nat) (l : Int) : List Bool := (List.range n).map fun i : Nat => decide ((i : Int) = l)
theorem aloneK_length (n : Nat) (l : Int) : (aloneK n l).length = n := by simp [aloneK]
theorem aloneK_set {n l : Nat} : (List.replicate n (Value.bool false)).set l (.bool true) = (aloneK n l).map bv := by
  refine list_ext_getD undef (by simp [aloneK]) fun j hj => ?_
  have hj' : j < n := by simpa using hj
  by_cases h : l = j
  · subst h
    simp [List.getD_eq_getElem?_getD, hj', aloneK, bv]
  · simp [List.getD_eq_getElem?_getD, hj', aloneK, bv, List.getElem?_set, h, Ne.symm h]
    omega
theorem aloneK_none {n : Nat} : List.replicate n (Value.bool false) = (aloneK n n).map bv := by
  refine list_ext_getD undef (by simp [aloneK]) fun j hj => ?_
  have hj' : j < n := by simpa using hj
  simp [List.getD_eq_getElem?_getD, hj', aloneK, bv]
  omega
theorem keepL_fin {b : Bool} {xs : List Nat} (h : xs.all finF = true) : (keepL b xs).all finF = true := by
  unfold keepL
  split
  · exact h
  · rw [List.all_eq_true]
    intro x hx
    rw [(List.mem_replicate.1 hx).2]
    exact finF_zero
theorem keepL_w {b : Bool} {xs : List Nat} (h : W32 xs) : W32 (keepL b xs) := by
  unfold keepL
  split
  · exact h
  · intro j
    by_cases hj : j < xs.length
    · simp [List.getD_eq_getElem?_getD, hj]
    · simp [List.getD_eq_getElem?_getD, hj]
theorem keepS_getD {ks : List Bool} {yss : List (List Nat)} {n j : Nat} (h : j < n) : (keepS ks yss n).getD j [] = keepL (ks.getD j false) (yss.getD j []) := getD_range_map h
theorem keepS_w {ks : List Bool} {yss : List (List Nat)} {n : Nat} (h : W32S yss) : W32S (keepS ks yss n) := fun j => by
  by_cases hj : j < n
  · rw [keepS_getD hj]; exact keepL_w (h j)
  · have : (keepS ks yss n).getD j [] = [] := by simp [List.getD_eq_getElem?_getD, List.getElem?_eq_none (show (keepS ks yss n).length ≤ j by rw [keepS_length]; omega)]
    rw [this]; intro k; simp
theorem keep_valid {b : Bool} {ks : List Bool} {xs : List Nat} {yss : List (List Nat)} (h : validBandsF xs yss = true) : validBandsF (keepL b xs) (keepS ks yss yss.length) = true := by
  obtain ⟨h1, h2, h3, h4, h5, h6⟩ := vb_yes h
  have hl : ∀ j, ((keepS ks yss yss.length).getD j []).length = (yss.getD j []).length := fun j => by
    by_cases hj : j < yss.length
    · rw [keepS_getD hj, keepL_length]
    · rw [List.getD_eq_getElem?_getD, List.getD_eq_getElem?_getD, List.getElem?_eq_none (by rw [keepS_length]; omega), List.getElem?_eq_none (by omega)]
  have hd : ∀ j, detAt (keepS ks yss yss.length) j = detAt yss j := fun j => by unfold detAt; rw [hl, hl]
  unfold validBandsF
  rw [keepS_length, within_true.2 ⟨by omega, by omega⟩, hl, decide_eq_true h2, keepL_fin h3, hl, keepL_length, decide_eq_true h6]
  have e1 : ((keepS ks yss yss.length).all fun ys => ys.all finF) = true := (allD []).2 fun j hj => by
    rw [keepS_length] at hj
    rw [keepS_getD hj]
    exact keepL_fin (h4 j hj)
  have e2 : (List.range yss.length).all (detAt (keepS ks yss yss.length)) = true := allR.2 fun j hj => by rw [hd]; exact h5 j hj
  rw [e1, e2]
  rfl
def aloneOk (xs : List Nat) (yss : List (List Nat)) (ps : List Nat) (l : Int) : Bool := validBandsF xs yss && validPairF ps && within l 0 yss.length && allJ (keepL (decide (l = yss.length)) xs) (keepS (aloneK yss.length l) yss yss.length) ps
def aloneL (xs : List Nat) (yss : List (List Nat)) (ps : List Nat) (l : Int) : List Nat := nowJ (keepL (decide (l = yss.length)) xs) (keepS (aloneK yss.length l) yss yss.length) ps yss.length
end Go.Proofs.Ytkojmlpaamdhoac

namespace Go.Proofs.Ytkojmlpaamdhoac
open Go.Gx
set_option maxRecDepth 100000
set_option linter.unusedSimpArgs false
set_option linter.unusedVariables false

def apart (a b : Int) : Int := max (a - b) (b - a)
/-- The nearest number and if it lies near, among the first numbers of a list. -/
def nearI (l : List Int) (p n : Int) : Nat → Int × Bool
  | 0 => (0, false)
  | i + 1 => if apart (l.getD i 0) p ≤ n ∧ ((nearI l p n i).2 = false ∨ apart (l.getD i 0) p < apart (nearI l p n i).1 p) then (l.getD i 0, true) else nearI l p n i
def nixI (l : List Int) (p : Int) : Nat → Int
  | 0 => -1
  | i + 1 => if nixI l p i < 0 ∨ apart (l.getD i 0) p < apart (l.getD (nixI l p i).toNat 0) p then (i : Int) else nixI l p i
theorem nixI_b (l : List Int) (p : Int) : ∀ i, -1 ≤ nixI l p i ∧ nixI l p i < i
  | 0 => by simp [nixI]
  | i + 1 => by
    have := nixI_b l p i
    simp only [nixI]
    split <;> omega
def pckI (l : List Int) (p n b : Int) : Int × Bool := if 0 ≤ b ∧ apart (l.getD b.toNat 0) p ≤ n then (l.getD b.toNat 0, true) else (0, false)
theorem near_nix (l : List Int) (p n : Int) : ∀ i, nearI l p n i = pckI l p n (nixI l p i)
  | 0 => by simp [nixI, nearI, pckI]
  | i + 1 => by
    have ih := near_nix l p n i
    have hb := nixI_b l p i
    have hi : pckI l p n (i : Int) = if apart (l.getD i 0) p ≤ n then (l.getD i 0, true) else (0, false) := by simp [pckI]
    simp only [nearI]
    by_cases h0 : nixI l p i < 0
    · have e : nixI l p (i + 1) = i := if_pos (.inl h0)
      have e2 : nearI l p n i = (0, false) := by rw [ih, pckI, if_neg (by omega)]
      rw [e, e2, hi]
      simp
    · by_cases h1 : apart (l.getD (nixI l p i).toNat 0) p ≤ n
      · have e2 : nearI l p n i = (l.getD (nixI l p i).toNat 0, true) := by rw [ih, pckI, if_pos ⟨by omega, h1⟩]
        rw [e2]
        simp only [Bool.true_eq_false, false_or]
        by_cases h2 : apart (l.getD i 0) p < apart (l.getD (nixI l p i).toNat 0) p
        · have e : nixI l p (i + 1) = i := if_pos (.inr h2)
          rw [e, hi, if_pos ⟨by omega, h2⟩, if_pos (by omega)]
        · have e : nixI l p (i + 1) = nixI l p i := if_neg (by omega)
          rw [e, if_neg (fun h => h2 h.2), ← ih, e2]
      · have e2 : nearI l p n i = (0, false) := by rw [ih, pckI, if_neg (fun h => h1 h.2)]
        rw [e2]
        simp only [true_or, and_true]
        by_cases h2 : apart (l.getD i 0) p < apart (l.getD (nixI l p i).toNat 0) p
        · have e : nixI l p (i + 1) = i := if_pos (.inr h2)
          rw [e, hi]
        · have e : nixI l p (i + 1) = nixI l p i := if_neg (by omega)
          rw [e, if_neg (by omega), ← ih, e2]
theorem nearI_b {l : List Int} {p n : Int} (hb : ∀ j, 0 ≤ l.getD j 0 ∧ l.getD j 0 ≤ 2 ^ 40) : ∀ i, 0 ≤ (nearI l p n i).1 ∧ (nearI l p n i).1 ≤ 2 ^ 40
  | 0 => by simp [nearI]
  | i + 1 => by
    simp only [nearI]
    split
    · exact hb i
    · exact nearI_b hb i
def maxL (xs : List Nat) : List Int := maximaL xs xs.length
theorem maxL_b (xs : List Nat) (j : Nat) : 0 ≤ (maxL xs).getD j 0 ∧ (maxL xs).getD j 0 ≤ xs.length := by
  by_cases hj : j < (maxL xs).length
  · have hm : (maxL xs).getD j 0 ∈ maxL xs := by rw [List.getD_eq_getElem?_getD, List.getElem?_eq_getElem hj]; exact List.getElem_mem hj
    unfold maxL maximaL at hm
    obtain ⟨k, hk, he⟩ := List.mem_map.1 hm
    have := List.mem_range.1 (List.mem_filter.1 hk).1
    unfold maxL maximaL
    omega
  · rw [List.getD_eq_getElem?_getD, List.getElem?_eq_none (by omega)]
    simp
/-- Where a start has come after so many rows more, and if it goes on. -/
def linkS (xss : List (List Nat)) (near s : Int) : Nat → Int × Bool
  | 0 => (s, true)
  | t + 1 => if (linkS xss near s t).2 = true then nearI (maxL (xss.getD (t + 1) [])) (linkS xss near s t).1 near (maxL (xss.getD (t + 1) [])).length else linkS xss near s t
def lkOut (xss : List (List Nat)) (near : Int) (n i : Nat) : List Int := ((List.range i).filter fun j => (linkS xss near ((maxL (xss.getD 0 [])).getD j 0) n).2).map fun j => (maxL (xss.getD 0 [])).getD j 0
theorem lkOut_len (xss : List (List Nat)) (near : Int) (n i : Nat) : (lkOut xss near n i).length ≤ i := by
  unfold lkOut
  rw [List.length_map]
  exact Nat.le_trans (List.length_filter_le _ _) (by simp)
theorem filt_yes {f : Nat → Bool} {g : Nat → Int} {i : Nat} (h : f i = true) : (((List.range i).filter f).map g).map iv ++ [.int .i64 (g i)] = (((List.range (i + 1)).filter f).map g).map iv := by
  simp [List.range_succ, List.filter_append, h, iv]
theorem filt_no {f : Nat → Bool} {g : Nat → Int} {i : Nat} (h : f i = false) : ((List.range (i + 1)).filter f).map g = ((List.range i).filter f).map g := by
  simp [List.range_succ, List.filter_append, h]
theorem lkOut_yes {xss : List (List Nat)} {near : Int} {n i : Nat} (h : (linkS xss near ((maxL (xss.getD 0 [])).getD i 0) n).2 = true) : (lkOut xss near n i).map iv ++ [.int .i64 ((maxL (xss.getD 0 [])).getD i 0)] = (lkOut xss near n (i + 1)).map iv := filt_yes (f := fun j => (linkS xss near ((maxL (xss.getD 0 [])).getD j 0) n).2) (g := fun j => (maxL (xss.getD 0 [])).getD j 0) h
theorem lkOut_no {xss : List (List Nat)} {near : Int} {n i : Nat} (h : (linkS xss near ((maxL (xss.getD 0 [])).getD i 0) n).2 = false) : lkOut xss near n (i + 1) = lkOut xss near n i := filt_no (f := fun j => (linkS xss near ((maxL (xss.getD 0 [])).getD j 0) n).2) (g := fun j => (maxL (xss.getD 0 [])).getD j 0) h
theorem linkS_stop {xss : List (List Nat)} {near s : Int} {t : Nat} (h : (linkS xss near s t).2 = false) : ∀ k, (linkS xss near s (t + k)).2 = false
  | 0 => h
  | k + 1 => by
    have ih := linkS_stop h k
    show (linkS xss near s (t + k + 1)).2 = false
    simp only [linkS, ih]
    simp
    exact ih
theorem linkS_b {xss : List (List Nat)} {near s : Int} (hs : 0 ≤ s ∧ s ≤ 2 ^ 40) (hl : ∀ j, (xss.getD j []).length ≤ 2 ^ 40) : ∀ t, 0 ≤ (linkS xss near s t).1 ∧ (linkS xss near s t).1 ≤ 2 ^ 40
  | 0 => hs
  | t + 1 => by
    simp only [linkS]
    split
    · exact nearI_b (fun j => by have := maxL_b (xss.getD (t + 1) []) j; have := hl (t + 1); omega) _
    · exact linkS_b hs hl t
end Go.Proofs.Ytkojmlpaamdhoac

namespace Go.Proofs.Ytkojmlpaamdhoac
open Go.Gx
set_option maxRecDepth 100000
set_option linter.unusedSimpArgs false
set_option linter.unusedVariables false

/-- The rest behind two blocks that were made in any order, with a loop ahead: shown once. -/
theorem bothLoop {P : Program} {A : Nat → Value → Heap → Prop} {live : List Nat} {vs : Nat → Value → List Value} {a : ACode} {k : List AItem} {R : Post} {X : Prop}
    (main : (∀ (p : Nat) (y : Value) (G : Heap), A p y G → loopR P live (vs p y) a k R G) → X) (kk : ∀ (p : Nat) (y : Value) (G : Heap), A p y G → loopR P live (vs p y) a k R G) : X := main kk
def fineF (val : Nat → Nat) (a c l : Int) (xs : List Nat) (j : Nat) : Nat := if coarseF a c l j = true then xs.getD j 0 else val (xs.getD j 0)
def fineL (val : Nat → Nat) (a c l : Int) (xs : List Nat) : List Nat := (List.range xs.length).map (fineF val a c l xs)
def fineN (hit : Nat → Bool) (a c l : Int) (xs : List Nat) : Nat → Int
  | 0 => 0
  | i + 1 => if coarseF a c l i = true then fineN hit a c l xs i else fineN hit a c l xs i + if hit (xs.getD i 0) = true then 1 else 0
theorem fineN_b (hit : Nat → Bool) (a c l : Int) (xs : List Nat) : ∀ i, 0 ≤ fineN hit a c l xs i ∧ fineN hit a c l xs i ≤ i
  | 0 => by simp [fineN]
  | i + 1 => by
    have := fineN_b hit a c l xs i
    simp only [fineN]
    split
    · omega
    · split <;> omega
theorem updF_same {g : Nat → Nat} {xs : List Nat} {i : Nat} (h : g i = xs.getD i 0) : updF g xs (i + 1) = updF g xs i := by
  refine list_ext_getD 0 (by simp [updF]) fun j hj => ?_
  have hj' : j < xs.length := by simpa [updF] using hj
  rw [updF, updF, getD_range_map hj', getD_range_map hj']
  by_cases hji : j = i
  · subst hji
    rw [if_pos (by omega), if_neg (by omega), h]
  · by_cases h2 : j < i
    · rw [if_pos h2, if_pos (by omega)]
    · rw [if_neg h2, if_neg (by omega)]
def fineOk (val : Nat → Nat) (a c l : Int) (xs : List Nat) : Bool := validPicF a c xs && within l 1 4 && validPicF a c (fineL val a c l xs)
def PicNR (ty : TypeId) (H : Heap) (ok : Bool) (w h : Int) (xs : List Nat) (n : Int) (r : Value) (H' : Heap) : Prop :=
  Ext H H' ∧ ∃ v, r = .tuple #[.agg #[.int .i64 (selI ok w), .int .i64 (selI ok h), v], .int .i64 (selI ok n), .bool ok] ∧ OwL H.n H'.n H' ty v ((selL ok xs).map fv) ∧ (selL ok xs).length ≤ 2 ^ 40
theorem PicNR.no {ty : TypeId} {H H' : Heap} {ok : Bool} {w h : Int} {xs : List Nat} {n : Int} (hk : ok = false) (e : Ext H H') : PicNR ty H ok w h xs n (.tuple #[.agg #[.int .i64 0, .int .i64 0, .slice none 0 0], .int .i64 0, .bool false]) H' := by
  subst hk; exact ⟨e, _, rfl, .nil, by simp [selL]⟩
theorem PicNR.yes {ty : TypeId} {H H' : Heap} {ok : Bool} {w h : Int} {xs : List Nat} {n : Int} {v : Value} (hk : ok = true) (e : Ext H H') (o : OwL H.n H'.n H' ty v (xs.map fv)) (hl : xs.length ≤ 2 ^ 40) : PicNR ty H ok w h xs n (.tuple #[.agg #[.int .i64 w, .int .i64 h, v], .int .i64 n, .bool true]) H' := by
  subst hk; exact ⟨e, v, rfl, o, hl⟩
def quietH (lim x : Nat) : Bool := fcB .leq .f32 (sizeF x) lim
def quietV (lim x : Nat) : Nat := if quietH lim x = true then 0 else x
theorem quiet_fin {lim : Nat} {a c l : Int} {xs : List Nat} (h : xs.all finF = true) : (fineL (quietV lim) a c l xs).all finF = true := by
  rw [List.all_eq_true]
  intro x hx
  obtain ⟨j, hj, rfl⟩ := List.mem_map.1 hx
  have hj' := (List.all_eq_true.1 h) (xs.getD j 0) (by
    have := List.mem_range.1 hj
    rw [List.getD_eq_getElem?_getD, List.getElem?_eq_getElem this]; exact List.getElem_mem this)
  unfold fineF quietV
  split
  · exact hj'
  · split
    · exact finF_zero
    · exact hj'
theorem quiet_ok {lim : Nat} {a c l : Int} {xs : List Nat} : fineOk (quietV lim) a c l xs = (validPicF a c xs && within l 1 4) := by
  unfold fineOk
  cases h1 : validPicF a c xs
  · simp
  · have h2 : validPicF a c (fineL (quietV lim) a c l xs) = true := by
      obtain ⟨m, n, rfl, rfl, q1, q2, q3, q4, q5, q6⟩ := valid_sides h1
      exact valid_mk q1 q2 q3 q4 (by rw [fineL, List.length_map, List.length_range, q5]) (quiet_fin q6)
    rw [h2]
    simp
def quietOk (a c : Int) (xs : List Nat) (l : Int) (lim : Nat) : Bool := leastF lim && (validPicF a c xs && within l 1 4)
end Go.Proofs.Ytkojmlpaamdhoac

namespace Go.Proofs.Ytkojmlpaamdhoac
open Go.Gx
set_option maxRecDepth 100000
set_option linter.unusedSimpArgs false
set_option linter.unusedVariables false

theorem soft_all {y : Nat} {a c l : Int} {xs : List Nat} (hy : leastF y = true) (h : xs.all finF = true) : (fineL (softV y) a c l xs).all finF = true := by
  rw [List.all_eq_true]
  intro x hx
  obtain ⟨j, hj, rfl⟩ := List.mem_map.1 hx
  have hj' := (List.all_eq_true.1 h) (xs.getD j 0) (by
    have := List.mem_range.1 hj
    rw [List.getD_eq_getElem?_getD, List.getElem?_eq_getElem this]; exact List.getElem_mem this)
  unfold fineF
  split
  · exact hj'
  · exact soft_fin hj' hy
theorem soft_ok {y : Nat} {a c l : Int} {xs : List Nat} (hy : leastF y = true) : fineOk (softV y) a c l xs = (validPicF a c xs && within l 1 4) := by
  unfold fineOk
  cases h1 : validPicF a c xs
  · simp
  · have h2 : validPicF a c (fineL (softV y) a c l xs) = true := by
      obtain ⟨m, n, rfl, rfl, q1, q2, q3, q4, q5, q6⟩ := valid_sides h1
      exact valid_mk q1 q2 q3 q4 (by rw [fineL, List.length_map, List.length_range, q5]) (soft_all hy q6)
    rw [h2]
    simp
end Go.Proofs.Ytkojmlpaamdhoac

namespace Go.Proofs.Ytkojmlpaamdhoac
open Go.Gx
set_option maxRecDepth 100000
set_option linter.unusedSimpArgs false
set_option linter.unusedVariables false

def rootN (x : Nat) : Nat := (f2f .f64 (sqrtF (f64 x)) .f32).getD 0
theorem acv_root {x : Nat} : acv (.f .f32) (.float .f64 (sqrtF (f64 x))) = some (.float .f32 (rootN x)) := by
  obtain ⟨r, hr⟩ := sqrt_narrow x
  show (f2f .f64 _ .f32).map _ = _
  unfold rootN
  rw [hr]
  rfl
def difF (xs ys : List Nat) (i : Nat) : Nat := fbin .sub .f32 (xs.getD i 0) (ys.getD i 0)
def difS (xs ys : List Nat) : Nat → Nat := foldI (fun i s => fbin .add .f32 s (fbin .mul .f32 (difF xs ys i) (difF xs ys i))) 0
theorem difS_succ (xs ys : List Nat) (i : Nat) : difS xs ys (i + 1) = fbin .add .f32 (difS xs ys i) (fbin .mul .f32 (difF xs ys i) (difF xs ys i)) := rfl
theorem difS_all (xs ys : List Nat) (n : Nat) : squaresF (tabL n (difF xs ys)) = difS xs ys n := by
  unfold squaresF
  rw [tabL_length]
  have : ∀ k, k ≤ n → foldI (fun i s => fbin .add .f32 s (fbin .mul .f32 ((tabL n (difF xs ys)).getD i 0) ((tabL n (difF xs ys)).getD i 0))) 0 k = difS xs ys k := by
    intro k
    induction k with
    | zero => intro _; rfl
    | succ k ih =>
      intro hk
      rw [foldI_succ, ih (by omega), tabL_getD (by omega), difS_succ]
  exact this n (Nat.le_refl _)
def farF (xs ys : List Nat) : Nat := rootN (fbin .quo .f32 (difS xs ys xs.length) (i2f .f32 xs.length))
def farN (a c : Int) (xs : List Nat) (b d : Int) (ys : List Nat) : Nat := if alikeF a c xs b d ys = true then (if finF (farF xs ys) = true then farF xs ys else 0) else 0
def farB (a c : Int) (xs : List Nat) (b d : Int) (ys : List Nat) : Bool := alikeF a c xs b d ys && finF (farF xs ys)
theorem m_Sqrt_ok {H : Heap} {x : Nat} : ACalls Try.prog n_m_Sqrt [.float .f64 x] H fun r H' => r = .float .f64 (sqrtF x) ∧ H' = H := by
  refine k_m_Sqrt.run rfl ?_
  unfold c_m_Sqrt
  simp (disch := first | assumption | omega | rfl | (refine id ?_; simp only [gxD, ne_eq, reduceCtorEq, not_false_eq_true, Nat.reduceAdd, *]; done) | (refine id ?_; simp only [gxD]; omega)) only [↓gxPre, gxPost, ↓reduceIte, Nat.reduceEqDiff, reduceCtorEq, Nat.reduceAdd]
theorem i_RootNumber_ok {H : Heap} {x : Nat} : ACalls Try.prog n_i_RootNumber [.float .f32 x] H fun r H' => r = .float .f32 (rootN x) ∧ H' = H := by
  refine k_i_RootNumber.run rfl ?_
  unfold c_i_RootNumber
  simp (disch := first | assumption | omega | rfl | (refine id ?_; simp only [gxD, ne_eq, reduceCtorEq, not_false_eq_true, Nat.reduceAdd, *]; done) | (refine id ?_; simp only [gxD]; omega)) only [↓gxPre, gxPost, ↓reduceIte, Nat.reduceEqDiff, reduceCtorEq, Nat.reduceAdd]
  refine callR_pure m_Sqrt_ok (.inl rfl) ?_
  simp (disch := first | assumption | omega | rfl | (refine id ?_; simp only [gxD, ne_eq, reduceCtorEq, not_false_eq_true, Nat.reduceAdd, *]; done) | (refine id ?_; simp only [gxD]; omega)) only [↓gxPre, gxPost, ↓reduceIte, Nat.reduceEqDiff, reduceCtorEq, Nat.reduceAdd, acv_root]
theorem s_l01Narrow_ok {H : Heap} {y r0 : Nat} (h : acv (.f .f32) (.float .f64 y) = some (.float .f32 r0)) : ACalls Try.prog n_s_l01Narrow [.float .f64 y] H fun r H' => r = .float .f32 r0 ∧ H' = H := by
  refine k_s_l01Narrow.run rfl ?_
  unfold c_s_l01Narrow
  simp (disch := first | assumption | omega | rfl | (refine id ?_; simp only [gxD, ne_eq, reduceCtorEq, not_false_eq_true, Nat.reduceAdd, *]; done) | (refine id ?_; simp only [gxD]; omega)) only [↓gxPre, gxPost, ↓reduceIte, Nat.reduceEqDiff, reduceCtorEq, Nat.reduceAdd, h]
theorem s_l01Sqrt_ok {H : Heap} {x : Nat} : ACalls Try.prog n_s_l01Sqrt [.float .f32 x] H fun r H' => r = .float .f32 (rootN x) ∧ H' = H := by
  refine k_s_l01Sqrt.run rfl ?_
  unfold c_s_l01Sqrt
  simp (disch := first | assumption | omega | rfl | (refine id ?_; simp only [gxD, ne_eq, reduceCtorEq, not_false_eq_true, Nat.reduceAdd, *]; done) | (refine id ?_; simp only [gxD]; omega)) only [↓gxPre, gxPost, ↓reduceIte, Nat.reduceEqDiff, reduceCtorEq, Nat.reduceAdd]
  refine callR_pure m_Sqrt_ok (.inl rfl) ?_
  simp (disch := first | assumption | omega | rfl | (refine id ?_; simp only [gxD, ne_eq, reduceCtorEq, not_false_eq_true, Nat.reduceAdd, *]; done) | (refine id ?_; simp only [gxD]; omega)) only [↓gxPre, gxPost, ↓reduceIte, Nat.reduceEqDiff, reduceCtorEq, Nat.reduceAdd]
  refine callR_pure (s_l01Narrow_ok acv_root) (.inl rfl) ?_
  simp (disch := first | assumption | omega | rfl | (refine id ?_; simp only [gxD, ne_eq, reduceCtorEq, not_false_eq_true, Nat.reduceAdd, *]; done) | (refine id ?_; simp only [gxD]; omega)) only [↓gxPre, gxPost, ↓reduceIte, Nat.reduceEqDiff, reduceCtorEq, Nat.reduceAdd]
theorem i_DistanceOf_law {H : Heap} {a0 c0 a1 c1 : Int} {v0 v1 : Value} {xs0 xs1 : List Nat} (A0 : AF H v0 xs0) (b0 : -9223372036854775808 ≤ a0 ∧ a0 ≤ 9223372036854775807) (d0 : -9223372036854775808 ≤ c0 ∧ c0 ≤ 9223372036854775807) (A1 : AF H v1 xs1) (b1 : -9223372036854775808 ≤ a1 ∧ a1 ≤ 9223372036854775807) (d1 : -9223372036854775808 ≤ c1 ∧ c1 ≤ 9223372036854775807) :
    ACalls Try.prog n_i_DistanceOf [.agg #[.int .i64 a0, .int .i64 c0, v0], .agg #[.int .i64 a1, .int .i64 c1, v1]] H fun r H' => r = .tuple #[.float .f32 (farN a0 c0 xs0 a1 c1 xs1), .bool (farB a0 c0 xs0 a1 c1 xs1)] ∧ Ext H H' := by
  refine k_i_DistanceOf.run rfl ?_
  unfold c_i_DistanceOf
  have o0 := A0.rd.one
  have o1 := A1.rd.one
  simp (disch := first | assumption | omega | rfl | (refine id ?_; simp only [gxD, ne_eq, reduceCtorEq, not_false_eq_true, Nat.reduceAdd, *]; done) | (refine id ?_; simp only [gxD]; omega)) only [↓gxPre, gxPost, ↓reduceIte, Nat.reduceEqDiff, reduceCtorEq, Nat.reduceAdd]
  refine callR_new2 ?_
  intro K eK hb hb2 nK
  refine callR_ext (i_areAlike_ok (A0.rd.ext eK) (A1.rd.ext eK) A0.le A1.le) ?_
  intro G n1 bb1
  have e1 : Ext H G := eK.trans ⟨n1, bb1⟩
  replace hb := (bb1 _ (by omega)).trans hb
  replace hb2 := (bb1 _ (by omega)).trans hb2
  cases h1 : alikeF a0 c0 xs0 a1 c1 xs1
  · simp (disch := first | assumption | omega | rfl | (refine id ?_; simp only [gxD, ne_eq, reduceCtorEq, not_false_eq_true, Nat.reduceAdd, *]; done) | (refine id ?_; simp only [gxD]; omega)) only [↓gxPre, gxPost, ↓reduceIte, Nat.reduceEqDiff, reduceCtorEq, Nat.reduceAdd]
    exact ⟨by simp [farN, farB, h1], e1⟩
  obtain ⟨hl, hle, rfl, rfl⟩ := alike_len h1
  have hv := A0.rd.ext e1
  have hu := A1.rd.ext e1
  simp (disch := first | assumption | omega | rfl | (refine id ?_; simp only [gxD, ne_eq, reduceCtorEq, not_false_eq_true, Nat.reduceAdd, *]; done) | (refine id ?_; simp only [gxD]; omega)) only [↓gxPre, gxPost, ↓reduceIte, Nat.reduceEqDiff, reduceCtorEq, Nat.reduceAdd, hb, hb2, hv.len]
  refine loop_for xs0.length (fun i => [.pointer (some ⟨H.n, 0, some 3⟩), .pointer (some ⟨H.n + 1, 0, some 3⟩), .float .f32 (difS xs0 xs1 i), v0, .int .i64 xs0.length, .int .i64 i]) rfl ?_ ?_
  · simp (disch := first | assumption | omega | rfl | (refine id ?_; simp only [gxD, ne_eq, reduceCtorEq, not_false_eq_true, Nat.reduceAdd, *]; done) | (refine id ?_; simp only [gxD]; omega)) only [↓gxPre, gxPost, ↓reduceIte, Nat.reduceEqDiff, reduceCtorEq, Nat.reduceAdd, Int.lt_irrefl, hb, hv.len]
    refine callR_pure i_RootNumber_ok (.inl rfl) ?_
    simp (disch := first | assumption | omega | rfl | (refine id ?_; simp only [gxD, ne_eq, reduceCtorEq, not_false_eq_true, Nat.reduceAdd, *]; done) | (refine id ?_; simp only [gxD]; omega)) only [↓gxPre, gxPost, ↓reduceIte, Nat.reduceEqDiff, reduceCtorEq, Nat.reduceAdd]
    refine callR_pure i_finite_ok (.inl rfl) ?_
    simp (disch := first | assumption | omega | rfl | (refine id ?_; simp only [gxD, ne_eq, reduceCtorEq, not_false_eq_true, Nat.reduceAdd, *]; done) | (refine id ?_; simp only [gxD]; omega)) only [↓gxPre, gxPost, ↓reduceIte, Nat.reduceEqDiff, reduceCtorEq, Nat.reduceAdd, numV]
    refine ⟨?_, e1⟩
    have : rootN (fbin .quo .f32 (difS xs0 xs1 xs0.length) (i2f .f32 xs0.length)) = farF xs0 xs1 := rfl
    simp [farN, farB, h1, this]
  · intro i hi
    have hd : fbin .sub .f32 (xs0.getD i 0) (xs1.getD i 0) = difF xs0 xs1 i := rfl
    simp (disch := first | assumption | omega | rfl | (refine id ?_; simp only [gxD, ne_eq, reduceCtorEq, not_false_eq_true, Nat.reduceAdd, *]; done) | (refine id ?_; simp only [gxD]; omega)) only [↓gxPre, gxPost, ↓reduceIte, Nat.reduceEqDiff, reduceCtorEq, Nat.reduceAdd, hb2, hv.ia, hv.ld, hu.ia, hu.ld, hd]
    simp [difS_succ]
theorem s_l04Far_ok {H : Heap} {p q : Nat} {w1 w2 : Bool} {t1 t2 : TypeId} {a c b d : Int} {v u : Value} {xs ys : List Nat} (hb : H.blk p = some ⟨w1, t1, [.int .i64 a, .int .i64 c, v]⟩) (hp : p < H.n) (hb2 : H.blk q = some ⟨w2, t2, [.int .i64 b, .int .i64 d, u]⟩) (hq : q < H.n) (hv : FS H v xs) (hu : FS H u ys) (hn : xs.length ≤ 2 ^ 40) (hm : ys.length = xs.length) :
    ACalls Try.prog n_s_l04Far [.pointer (some ⟨p, 0, some 3⟩), .pointer (some ⟨q, 0, some 3⟩)] H fun r H' => r = .float .f32 (farF xs ys) ∧ Ext H H' := by
  refine k_s_l04Far.run rfl ?_
  unfold c_s_l04Far
  simp (disch := first | assumption | omega | rfl | (refine id ?_; simp only [gxD, ne_eq, reduceCtorEq, not_false_eq_true, Nat.reduceAdd, *]; done) | (refine id ?_; simp only [gxD]; omega)) only [↓gxPre, gxPost, ↓reduceIte, Nat.reduceEqDiff, reduceCtorEq, Nat.reduceAdd]
  refine loop_forH xs.length (fun i => [.pointer (some ⟨p, 0, some 3⟩), .pointer (some ⟨q, 0, some 3⟩), .slice (some ⟨H.n, 0, none⟩) i i, .int .i64 i]) (fun i G => H.n + 1 ≤ G.n ∧ Ext H G ∧ G.blk H.n = some ⟨true, t_float32, (tabL i (difF xs ys)).map fv⟩) rfl ⟨by simp only [new_n]; omega, ⟨by first | omega | (simp only [new_n, put_n]; omega) | (simp only [new_n, put_n] at *; omega), fun i hi => by simp (disch := first | assumption | omega | rfl | (refine id ?_; simp only [gxD, ne_eq, reduceCtorEq, not_false_eq_true, Nat.reduceAdd, *]; done) | (refine id ?_; simp only [gxD]; omega)) only [↓gxPre, gxPost, ↓reduceIte, Nat.reduceEqDiff, reduceCtorEq, Nat.reduceAdd, *]⟩, by simp (disch := first | assumption | omega | rfl | (refine id ?_; simp only [gxD, ne_eq, reduceCtorEq, not_false_eq_true, Nat.reduceAdd, *]; done) | (refine id ?_; simp only [gxD]; omega)) only [↓gxPre, gxPost, ↓reduceIte, Nat.reduceEqDiff, reduceCtorEq, Nat.reduceAdd]; rfl⟩ ?_ ?_
  · rintro G ⟨hG, hE, hc⟩
    have hbG := (hE.blk _ hp).trans hb
    simp (disch := first | assumption | omega | rfl | (refine id ?_; simp only [gxD, ne_eq, reduceCtorEq, not_false_eq_true, Nat.reduceAdd, *]; done) | (refine id ?_; simp only [gxD]; omega)) only [↓gxPre, gxPost, ↓reduceIte, Nat.reduceEqDiff, reduceCtorEq, Nat.reduceAdd, hbG, (hv.ext hE).len, Int.lt_irrefl]
    refine callR_pure (s_l02Energy_ok (xs := tabL xs.length (difF xs ys)) (FS.own hc (by omega) (tabL_length _ _)) (by rw [tabL_length]; exact hn)) (.inl rfl) ?_
    rw [difS_all]
    simp (disch := first | assumption | omega | rfl | (refine id ?_; simp only [gxD, ne_eq, reduceCtorEq, not_false_eq_true, Nat.reduceAdd, *]; done) | (refine id ?_; simp only [gxD]; omega)) only [↓gxPre, gxPost, ↓reduceIte, Nat.reduceEqDiff, reduceCtorEq, Nat.reduceAdd]
    refine callR_pure s_l01Sqrt_ok (.inl rfl) ?_
    simp (disch := first | assumption | omega | rfl | (refine id ?_; simp only [gxD, ne_eq, reduceCtorEq, not_false_eq_true, Nat.reduceAdd, *]; done) | (refine id ?_; simp only [gxD]; omega)) only [↓gxPre, gxPost, ↓reduceIte, Nat.reduceEqDiff, reduceCtorEq, Nat.reduceAdd]
    exact ⟨rfl, hE⟩
  · rintro i G hi ⟨hG, hE, hc⟩
    have hbG := (hE.blk _ hp).trans hb
    have hb2G := (hE.blk _ hq).trans hb2
    have hv' := hv.ext hE
    have hu' := hu.ext hE
    have ht : ((tabL i (difF xs ys)).map fv).length = i := by rw [lMapN, tabL_length]
    have hd : fbin .sub .f32 (xs.getD i 0) (ys.getD i 0) = difF xs ys i := rfl
    have hs : (tabL i (difF xs ys)).map fv ++ [.float .f32 (difF xs ys i)] = (tabL (i + 1) (difF xs ys)).map fv := by rw [fv_snoc', ← tabL_succ]
    obtain ⟨f1, f2, f3, f4⟩ := push_at hE hc (Nat.le_refl _) (by omega) hs
    simp (disch := first | assumption | omega | rfl | (refine id ?_; simp only [gxD, ne_eq, reduceCtorEq, not_false_eq_true, Nat.reduceAdd, *]; done) | (refine id ?_; simp only [gxD]; omega)) only [↓gxPre, gxPost, ↓reduceIte, Nat.reduceEqDiff, reduceCtorEq, Nat.reduceAdd, hbG, hb2G, hv'.len, hv'.ia, hv'.ld, hu'.ia, hu'.ld, hd, hc]
    exact ⟨by simp, by omega, f1, by rw [hs]⟩
theorem s_DistanceOf_law {H : Heap} {a0 c0 a1 c1 : Int} {v0 v1 : Value} {xs0 xs1 : List Nat} (A0 : AF H v0 xs0) (b0 : -9223372036854775808 ≤ a0 ∧ a0 ≤ 9223372036854775807) (d0 : -9223372036854775808 ≤ c0 ∧ c0 ≤ 9223372036854775807) (A1 : AF H v1 xs1) (b1 : -9223372036854775808 ≤ a1 ∧ a1 ≤ 9223372036854775807) (d1 : -9223372036854775808 ≤ c1 ∧ c1 ≤ 9223372036854775807) :
    ACalls Try.prog n_s_DistanceOf [.agg #[.int .i64 a0, .int .i64 c0, v0], .agg #[.int .i64 a1, .int .i64 c1, v1]] H fun r H' => r = .tuple #[.float .f32 (farN a0 c0 xs0 a1 c1 xs1), .bool (farB a0 c0 xs0 a1 c1 xs1)] ∧ Ext H H' := by
  refine k_s_DistanceOf.run rfl ?_
  unfold c_s_DistanceOf
  have o0 := A0.rd.one
  have o1 := A1.rd.one
  simp (disch := first | assumption | omega | rfl | (refine id ?_; simp only [gxD, ne_eq, reduceCtorEq, not_false_eq_true, Nat.reduceAdd, *]; done) | (refine id ?_; simp only [gxD]; omega)) only [↓gxPre, gxPost, ↓reduceIte, Nat.reduceEqDiff, reduceCtorEq, Nat.reduceAdd]
  refine callR_new2 ?_
  intro K eK hb hb2 nK
  refine callR_pure (s_l04Both_ok hb hb2 (A0.rd.ext eK) (A1.rd.ext eK) A0.le A1.le) (.inl rfl) ?_
  cases h1 : alikeF a0 c0 xs0 a1 c1 xs1
  · simp (disch := first | assumption | omega | rfl | (refine id ?_; simp only [gxD, ne_eq, reduceCtorEq, not_false_eq_true, Nat.reduceAdd, *]; done) | (refine id ?_; simp only [gxD]; omega)) only [↓gxPre, gxPost, ↓reduceIte, Nat.reduceEqDiff, reduceCtorEq, Nat.reduceAdd]
    exact ⟨by simp [farN, farB, h1], eK⟩
  obtain ⟨hl, hle, rfl, rfl⟩ := alike_len h1
  simp (disch := first | assumption | omega | rfl | (refine id ?_; simp only [gxD, ne_eq, reduceCtorEq, not_false_eq_true, Nat.reduceAdd, *]; done) | (refine id ?_; simp only [gxD]; omega)) only [↓gxPre, gxPost, ↓reduceIte, Nat.reduceEqDiff, reduceCtorEq, Nat.reduceAdd]
  refine callR_ext (s_l04Far_ok hb (by omega) hb2 (by omega) (A0.rd.ext eK) (A1.rd.ext eK) A0.le hl) ?_
  intro G n1 bb1
  have e1 : Ext H G := eK.trans ⟨n1, bb1⟩
  simp (disch := first | assumption | omega | rfl | (refine id ?_; simp only [gxD, ne_eq, reduceCtorEq, not_false_eq_true, Nat.reduceAdd, *]; done) | (refine id ?_; simp only [gxD]; omega)) only [↓gxPre, gxPost, ↓reduceIte, Nat.reduceEqDiff, reduceCtorEq, Nat.reduceAdd]
  refine callR_pure s_l02Number_ok (.inl rfl) ?_
  simp (disch := first | assumption | omega | rfl | (refine id ?_; simp only [gxD, ne_eq, reduceCtorEq, not_false_eq_true, Nat.reduceAdd, *]; done) | (refine id ?_; simp only [gxD]; omega)) only [↓gxPre, gxPost, ↓reduceIte, Nat.reduceEqDiff, reduceCtorEq, Nat.reduceAdd, numV]
  exact ⟨by simp [farN, farB, h1], e1⟩
end Go.Proofs.Ytkojmlpaamdhoac
