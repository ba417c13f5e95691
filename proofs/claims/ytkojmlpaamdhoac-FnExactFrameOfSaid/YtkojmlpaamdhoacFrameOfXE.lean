/- Lists lifted many times. -/
import Derived.Test.YtkojmlpaamdhoacFrameOfXD
namespace Go.Proofs.Ytkojmlpaamdhoac
open Go.Gx
set_option maxRecDepth 100000
set_option linter.unusedSimpArgs false
set_option linter.unusedVariables false

theorem liftF_len1 (ws : List Nat) (sc : Nat) (xs : List Nat) : (liftF ws sc xs).1.length = (xs.length + 1) / 2 := by
  unfold liftF; split
  · exact evL_length _
  · rw [List.length_map, (weighUp_len _ _ _).1]; exact evL_length _
theorem liftF_len2 (ws : List Nat) (sc : Nat) (xs : List Nat) : (liftF ws sc xs).2.length = xs.length / 2 := by
  unfold liftF; split
  · exact odL_length _
  · rw [List.length_map, (weighUp_len _ _ _).2]; exact odL_length _
def nowD (ws : List Nat) (sc : Nat) (xs : List Nat) : Nat → List Nat := foldI (fun _ l => (liftF ws sc l).1) xs
def outD (ws : List Nat) (sc : Nat) (xs : List Nat) (t : Nat) : List (List Nat) := (List.range t).map fun k => (liftF ws sc (nowD ws sc xs k)).2
theorem outD_succ (ws : List Nat) (sc : Nat) (xs : List Nat) (t : Nat) : outD ws sc xs (t + 1) = outD ws sc xs t ++ [(liftF ws sc (nowD ws sc xs t)).2] := by simp [outD, List.range_succ]
theorem nowD_succ (ws : List Nat) (sc : Nat) (xs : List Nat) (t : Nat) : nowD ws sc xs (t + 1) = (liftF ws sc (nowD ws sc xs t)).1 := rfl
theorem nowD_le (ws : List Nat) (sc : Nat) (xs : List Nat) (hx : 1 ≤ xs.length) : ∀ t, 1 ≤ (nowD ws sc xs t).length ∧ (nowD ws sc xs t).length ≤ xs.length
  | 0 => by simp [nowD, foldI_zero, hx]
  | t + 1 => by have := nowD_le ws sc xs hx t; rw [nowD_succ, liftF_len1]; omega
def moreD (ws : List Nat) (sc : Nat) (xs : List Nat) (t : Nat) : Bool := decide (1 < (nowD ws sc xs t).length)
def levelsD (ws : List Nat) (sc : Nat) (xs : List Nat) (n : Nat) : List (List Nat) := outD ws sc xs (stopN (moreD ws sc xs) n) ++ [nowD ws sc xs (stopN (moreD ws sc xs) n)]
theorem outD_len (ws : List Nat) (sc : Nat) (xs : List Nat) (t : Nat) : (outD ws sc xs t).length = t := by simp [outD]
theorem outD_sum (ws : List Nat) (sc : Nat) (xs : List Nat) (h1 : 1 ≤ xs.length) (hx : xs.length ≤ 128) : ∀ t, offN (outD ws sc xs t) t ≤ 129 * t
  | 0 => by simp [offN_zero]
  | t + 1 => by
    have ih := outD_sum ws sc xs h1 hx t
    have h1 := nowD_le ws sc xs h1 t
    have h2 := liftF_len2 ws sc (nowD ws sc xs t)
    rw [outD_succ, offN_succ (by simp [outD_len])]
    have e1 : offN (outD ws sc xs t ++ [(liftF ws sc (nowD ws sc xs t)).2]) t = offN (outD ws sc xs t) t := by
      unfold offN
      rw [List.take_append_of_le_length (by rw [outD_len]; exact Nat.le_refl _)]
    have e2 : (outD ws sc xs t ++ [(liftF ws sc (nowD ws sc xs t)).2]).getD t [] = (liftF ws sc (nowD ws sc xs t)).2 := by
      have := @getD_app_at _ (outD ws sc xs t) ((liftF ws sc (nowD ws sc xs t)).2) []
      rwa [outD_len] at this
    rw [e1, e2]
    omega
theorem levelsD_tot (ws : List Nat) (sc : Nat) (xs : List Nat) (h1 : 1 ≤ xs.length) (hx : xs.length ≤ 128) (n : Nat) (hn : n ≤ 6) : totL (levelsD ws sc xs n) ≤ 2 ^ 40 := by
  have hs := stopN_le (moreD ws sc xs) n
  obtain ⟨t, ht⟩ : ∃ t, t = stopN (moreD ws sc xs) n := ⟨_, rfl⟩
  unfold levelsD
  rw [← ht] at hs ⊢
  have h3 := outD_sum ws sc xs h1 hx t
  have h2 := nowD_le ws sc xs h1 t
  have hl : (outD ws sc xs t ++ [nowD ws sc xs t]).length = t + 1 := by simp [outD_len]
  unfold totL
  rw [hl, offN_succ (by rw [hl]; omega)]
  have e1 : offN (outD ws sc xs t ++ [nowD ws sc xs t]) t = offN (outD ws sc xs t) t := by
    unfold offN
    rw [List.take_append_of_le_length (by rw [outD_len]; exact Nat.le_refl _)]
  have e2 : (outD ws sc xs t ++ [nowD ws sc xs t]).getD t [] = nowD ws sc xs t := by
    have := @getD_app_at _ (outD ws sc xs t) (nowD ws sc xs t) []
    rwa [outD_len] at this
  rw [e1, e2]
  omega
theorem stopN_mono (p : Nat → Bool) (m : Nat) : ∀ d, stopN p m ≤ stopN p (m + d)
  | 0 => Nat.le_refl _
  | d + 1 => by
    have h1 := stopN_mono p m d
    have h2 := stopN_le p (m + d)
    have : stopN p (m + d) ≤ stopN p (m + d + 1) := by
      conv => rhs; unfold stopN
      split <;> omega
    exact Nat.le_trans h1 this
theorem stopN_gt {p : Nat → Bool} {t n : Nat} (h : ∀ k, k ≤ t → p k = true) (hn : t < n) : t < stopN p n := by
  have h1 := stopN_full (p := p) (t + 1) fun s hs => h s (by omega)
  have h2 := stopN_mono p (t + 1) (n - (t + 1))
  rw [show t + 1 + (n - (t + 1)) = n by omega] at h2
  omega
def deepOk (ws : List Nat) (sc : Nat) (xs : List Nat) (n : Int) : Bool := schemeF ws sc && isLongF xs && within n 1 6 && (List.range (stopN (moreD ws sc xs) n.toNat)).all fun k => liftOkF ws sc (nowD ws sc xs k)
theorem deepOk_no {ws : List Nat} {sc : Nat} {xs : List Nat} {n : Int} {t : Nat} (h : t < stopN (moreD ws sc xs) n.toNat) (h' : liftOkF ws sc (nowD ws sc xs t) = false) : deepOk ws sc xs n = false := by
  have : ((List.range (stopN (moreD ws sc xs) n.toNat)).all fun k => liftOkF ws sc (nowD ws sc xs k)) = false := by
    rw [List.all_eq_false]
    exact ⟨t, List.mem_range.2 h, by rw [h']; decide⟩
  unfold deepOk
  rw [this, Bool.and_false]
theorem deepOk_yes {ws : List Nat} {sc : Nat} {xs : List Nat} {n : Int} (h0 : schemeF ws sc = true) (h1 : isLongF xs = true) (h2 : within n 1 6 = true) (h : ∀ k, k < stopN (moreD ws sc xs) n.toNat → liftOkF ws sc (nowD ws sc xs k) = true) : deepOk ws sc xs n = true := by
  unfold deepOk
  rw [h0, h1, h2, Bool.and_self, Bool.and_self, Bool.true_and, List.all_eq_true]
  exact fun k hk => h k (List.mem_range.1 hk)
theorem liftOk_fin {ws : List Nat} {sc : Nat} {xs : List Nat} (hx : isLongF xs = true) (h : liftOkF ws sc xs = true) : isLongF (liftF ws sc xs).1 = true := by
  obtain ⟨hl, hl1⟩ := isLong_len hx
  have hf := isLong_fin hx
  have h1 := liftF_len1 ws sc xs
  unfold isLongF
  rw [within_true.2 (by omega), Bool.true_and]
  unfold liftOkF at h
  rw [Bool.or_eq_true, Bool.and_eq_true, decide_eq_true_eq] at h
  rcases h with h | h
  · unfold liftF
    rw [if_pos h]
    rw [List.all_eq_true] at hf ⊢
    intro x hxm
    simp only [evL, List.mem_map, List.mem_range] at hxm
    obtain ⟨k, hk, rfl⟩ := hxm
    by_cases hk2 : 2 * k < xs.length
    · have : xs.getD (2 * k) 0 = xs[2 * k] := by simp [List.getD_eq_getElem?_getD, hk2]
      rw [this]
      exact hf _ (List.getElem_mem hk2)
    · omega
  · exact h.1
theorem nowD_long {ws : List Nat} {sc : Nat} {xs : List Nat} (hx : isLongF xs = true) : ∀ t, (∀ k, k < t → liftOkF ws sc (nowD ws sc xs k) = true) → isLongF (nowD ws sc xs t) = true
  | 0, _ => hx
  | t + 1, h => by
    rw [nowD_succ]
    exact liftOk_fin (nowD_long hx t fun k hk => h k (by omega)) (h t (by omega))
end Go.Proofs.Ytkojmlpaamdhoac
