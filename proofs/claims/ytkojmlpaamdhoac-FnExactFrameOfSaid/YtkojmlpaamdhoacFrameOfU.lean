/- Integers led back; levels of integers. -/
import Derived.Test.YtkojmlpaamdhoacFrameOfS
namespace Go.Proofs.Ytkojmlpaamdhoac
open Go.Gx
set_option maxRecDepth 100000
set_option linter.unusedSimpArgs false
set_option linter.unusedVariables false

theorem OwN_init {lo hi : Nat} {H : Heap} {ty : TypeId} {vs : List Value} {ls : List (List Value)} {v : Value} {l : List Value} (o : OwN lo hi H ty (vs ++ [v]) (ls ++ [l])) : OwN lo hi H ty vs ls := by
  obtain ⟨h1, h2, h3⟩ := o
  have hl : vs.length = ls.length := by simpa using h1
  have ea : ∀ i, i < ls.length → (vs ++ [v]).getD i undef = vs.getD i undef := fun i hi' => getD_app_lt (by omega)
  refine ⟨hl, fun i hi' => ?_, fun i j h hi' hj hh hk => h3 i j h (by simp; omega) (by simp; omega) (by rw [ea i hi']; exact hh) (by rw [ea j hj]; exact hk)⟩
  have := h2 i (by simp; omega)
  rwa [ea i hi', getD_app_lt hi'] at this
theorem OwN_last {lo hi : Nat} {H : Heap} {ty : TypeId} {vs : List Value} {ls : List (List Value)} {v : Value} {l : List Value} (o : OwN lo hi H ty (vs ++ [v]) (ls ++ [l])) : OwL lo hi H ty v l := by
  obtain ⟨h1, h2, h3⟩ := o
  have hl : vs.length = ls.length := by simpa using h1
  have := h2 ls.length (by simp)
  rw [getD_app_at] at this
  rwa [← hl, getD_app_at] at this
theorem OwN_put {lo hi h : Nat} {H : Heap} {ty sty : TypeId} {vs : List Value} {ls : List (List Value)} {cs : List Value} {own : Bool} {b : Blk} (o : OwN lo hi H ty vs ls) (hb : H.blk h = some ⟨own, sty, cs⟩) (hne : sty ≠ ty) : OwN lo hi (H.put h b) ty vs ls :=
  o.keep (Nat.le_refl _) fun i k hi' hk => hput_other _ _ _ _ fun e => (o.2.1 i hi').ne hb hne (by rw [hk, e])
theorem OwL_put {lo hi h : Nat} {H : Heap} {ty sty : TypeId} {v : Value} {l cs : List Value} {own : Bool} {b : Blk} (o : OwL lo hi H ty v l) (hb : H.blk h = some ⟨own, sty, cs⟩) (hne : sty ≠ ty) : OwL lo hi (H.put h b) ty v l :=
  o.keep (Nat.le_refl _) fun k hk => hput_other _ _ _ _ fun e => o.ne hb hne (by rw [hk, e])
/-- Two lists made later. -/
theorem OwN_two {lo : Nat} {G G' : Heap} {ty : TypeId} {vs : List Value} {ls : List (List Value)} {a b : Value} {la lb : List Value} (o : OwN lo G.n G ty vs ls) (e : Ext G G') (hlo : lo ≤ G.n) (p : OwN G.n G'.n G' ty [a, b] [la, lb]) : OwN lo G'.n G' ty (vs ++ [b] ++ [a]) (ls ++ [lb] ++ [la]) := by
  have o1 := (o.ext e).wide (Nat.le_refl _) e.n
  have pa := p.fst
  have pb := p.snd
  have hab : ∀ h, hdl b = some h → hdl a ≠ some h := fun h h1 h2 => by
    have := p.2.2 0 1 h (by simp) (by simp) h2 h1
    omega
  have o2 := o1.snoc (pb.wide hlo (Nat.le_refl _)) fun i h hi' hh hk => by
    have h1 := (o.lt hi' hh).2.1
    have h2 := (pb.hdl hk).1
    omega
  refine o2.snoc (pa.wide hlo (Nat.le_refl _)) fun i h hi' hh hk => ?_
  by_cases hlt : i < ls.length
  · rw [getD_app_lt (by rw [o.1]; exact hlt)] at hh
    have h1 := (o.lt hlt hh).2.1
    have h2 := (pa.hdl hk).1
    omega
  · have hi2 : i = ls.length := by simp at hi'; omega
    rw [hi2, ← o.1, getD_app_at] at hh
    exact hab h hh hk
def nowI (kind : Int) (xs : List Int) : Nat → List Int := foldI (fun _ l => liftE kind l) xs
def outI (kind : Int) (xs : List Int) (t : Nat) : List (List Int) := (List.range t).map fun k => liftO kind (nowI kind xs k)
theorem outI_succ (kind : Int) (xs : List Int) (t : Nat) : outI kind xs (t + 1) = outI kind xs t ++ [liftO kind (nowI kind xs t)] := by simp [outI, List.range_succ]
theorem nowI_succ (kind : Int) (xs : List Int) (t : Nat) : nowI kind xs (t + 1) = liftE kind (nowI kind xs t) := rfl
theorem nowI_le (kind : Int) (xs : List Int) : ∀ t, (nowI kind xs t).length ≤ xs.length + 1
  | 0 => by simp [nowI, foldI_zero]
  | t + 1 => by have := nowI_le kind xs t; rw [nowI_succ, liftE_length]; omega
def stopN (p : Nat → Bool) : Nat → Nat
  | 0 => 0
  | n + 1 => if stopN p n = n ∧ p n = true then n + 1 else stopN p n
theorem stopN_le (p : Nat → Bool) : ∀ n, stopN p n ≤ n
  | 0 => Nat.le_refl _
  | n + 1 => by
    have := stopN_le p n
    unfold stopN
    split <;> omega
theorem stopN_full {p : Nat → Bool} : ∀ t, (∀ s, s < t → p s = true) → stopN p t = t
  | 0, _ => rfl
  | t + 1, h => by
    unfold stopN
    rw [if_pos ⟨stopN_full t fun s hs => h s (by omega), h t (by omega)⟩]
theorem stopN_eq {p : Nat → Bool} {t : Nat} (h : ∀ s, s < t → p s = true) : ∀ n, t ≤ n → (t < n → p t = false) → stopN p n = t
  | 0, hn, _ => by have : t = 0 := by omega
                   subst this; rfl
  | n + 1, hn, hp => by
    by_cases h1 : t = n + 1
    · subst h1; exact stopN_full _ h
    · have ih := stopN_eq h n (by omega) fun _ => hp (by omega)
      unfold stopN
      rw [ih]
      by_cases h2 : t = n
      · subst h2
        rw [hp (by omega)]
        simp
      · rw [if_neg (fun h => h2 h.1)]
def moreI (kind : Int) (xs : List Int) (t : Nat) : Bool := decide (1 < (nowI kind xs t).length)
def levelsI (kind : Int) (xs : List Int) (n : Nat) : List (List Int) := outI kind xs (stopN (moreI kind xs) n) ++ [nowI kind xs (stopN (moreI kind xs) n)]
theorem outI_len (kind : Int) (xs : List Int) (t : Nat) : (outI kind xs t).length = t := by simp [outI]
theorem outI_sum (kind : Int) (xs : List Int) (hx : xs.length ≤ 128) : ∀ t, offN (outI kind xs t) t ≤ 129 * t
  | 0 => by simp [offN_zero]
  | t + 1 => by
    have ih := outI_sum kind xs hx t
    have h1 := nowI_le kind xs t
    have h2 := liftO_length kind (nowI kind xs t)
    rw [outI_succ, offN_succ (by simp [outI_len])]
    have e1 : offN (outI kind xs t ++ [liftO kind (nowI kind xs t)]) t = offN (outI kind xs t) t := by
      unfold offN
      rw [List.take_append_of_le_length (by rw [outI_len]; exact Nat.le_refl _)]
    have e2 : (outI kind xs t ++ [liftO kind (nowI kind xs t)]).getD t [] = liftO kind (nowI kind xs t) := by
      have := @getD_app_at _ (outI kind xs t) (liftO kind (nowI kind xs t)) []
      rwa [outI_len] at this
    rw [e1, e2]
    omega
theorem levelsI_tot (kind : Int) (xs : List Int) (hx : xs.length ≤ 128) (n : Nat) (hn : n ≤ 6) : totL (levelsI kind xs n) ≤ 2 ^ 40 := by
  have hs := stopN_le (moreI kind xs) n
  obtain ⟨t, ht⟩ : ∃ t, t = stopN (moreI kind xs) n := ⟨_, rfl⟩
  unfold levelsI
  rw [← ht] at hs ⊢
  have h1 := outI_sum kind xs hx t
  have h2 := nowI_le kind xs t
  have hl : (outI kind xs t ++ [nowI kind xs t]).length = t + 1 := by simp [outI_len]
  unfold totL
  rw [hl, offN_succ (by rw [hl]; omega)]
  have e1 : offN (outI kind xs t ++ [nowI kind xs t]) t = offN (outI kind xs t) t := by
    unfold offN
    rw [List.take_append_of_le_length (by rw [outI_len]; exact Nat.le_refl _)]
  have e2 : (outI kind xs t ++ [nowI kind xs t]).getD t [] = nowI kind xs t := by
    have := @getD_app_at _ (outI kind xs t) (nowI kind xs t) []
    rwa [outI_len] at this
  rw [e1, e2]
  omega
theorem integers_len {xs : List Int} (h : integersF xs = true) : 1 ≤ xs.length ∧ xs.length ≤ 128 := by
  simp only [integersF, Bool.and_eq_true] at h
  have := within_true.1 h.1
  omega
theorem i64_nowI {kind : Int} {xs : List Int} (h : I64 xs) : ∀ t, I64 (nowI kind xs t)
  | 0 => h
  | t + 1 => i64_liftE _ _
end Go.Proofs.Ytkojmlpaamdhoac
