/- Integers led back; levels of integers. -/
import Derived.Test.YtkojmlpaamdhoadLiftLevelsV
namespace Go.Proofs.Ytkojmlpaamdhoad
open Go.Gx
set_option maxRecDepth 100000
set_option linter.unusedSimpArgs false
set_option linter.unusedVariables false

theorem OwN_init {lo hi : Nat} {H : Heap} {ty : TypeId} {vs : List Value} {ls : List (List Value)} {v : Value} {l : List Value} (o : OwN lo hi H ty (vs ++ [v]) (ls ++ [l])) : OwN lo hi H ty vs ls := by
  obtain ⟨h1, h2, h3⟩ := o
  have hl : vs.length = ls.length := by simpa using h1
  have ea : ∀ i, i < ls.length → (vs ++ [v]).getD i undef = vs.getD i undef := fun i hi' => getD_app_lt (by omega)
  refine ⟨hl, fun i hi' => ?_, fun i j h hi' hj hh hk => h3 i j h (by simp; omega) (by simp; omega) (by rw [ea i hi']; exact hh) (by rw [ea j hj]; exact hk)⟩
  have := h2 i (by simp; omega)
  rwa [ea i hi', getD_app_lt hi'] at this
theorem OwN_last {lo hi : Nat} {H : Heap} {ty : TypeId} {vs : List Value} {ls : List (List Value)} {v : Value} {l : List Value} (o : OwN lo hi H ty (vs ++ [v]) (ls ++ [l])) : OwL lo hi H ty v l := by
  obtain ⟨h1, h2, h3⟩ := o
  have hl : vs.length = ls.length := by simpa using h1
  have := h2 ls.length (by simp)
  rw [getD_app_at] at this
  rwa [← hl, getD_app_at] at this
theorem OwN_put {lo hi h : Nat} {H : Heap} {ty sty : TypeId} {vs : List Value} {ls : List (List Value)} {cs : List Value} {own : Bool} {b : Blk} (o : OwN lo hi H ty vs ls) (hb : H.blk h = some ⟨own, sty, cs⟩) (hne : sty ≠ ty) : OwN lo hi (H.put h b) ty vs ls :=
  o.keep (Nat.le_refl _) fun i k hi' hk => hput_other _ _ _ _ fun e => (o.2.1 i hi').ne hb hne (by rw [hk, e])
theorem OwL_put {lo hi h : Nat} {H : Heap} {ty sty : TypeId} {v : Value} {l cs : List Value} {own : Bool} {b : Blk} (o : OwL lo hi H ty v l) (hb : H.blk h = some ⟨own, sty, cs⟩) (hne : sty ≠ ty) : OwL lo hi (H.put h b) ty v l :=
  o.keep (Nat.le_refl _) fun k hk => hput_other _ _ _ _ fun e => o.ne hb hne (by rw [hk, e])
/-- Two lists made later. -/
theorem OwN_two {lo : Nat} {G G' : Heap} {ty : TypeId} {vs : List Value} {ls : List (List Value)} {a b : Value} {la lb : List Value} (o : OwN lo G.n G ty vs ls) (e : Ext G G') (hlo : lo ≤ G.n) (p : OwN G.n G'.n G' ty [a, b] [la, lb]) : OwN lo G'.n G' ty (vs ++ [b] ++ [a]) (ls ++ [lb] ++ [la]) := by
  have o1 := (o.ext e).wide (Nat.le_refl _) e.n
  have pa := p.fst
  have pb := p.snd
  have hab : ∀ h, hdl b = some h → hdl a ≠ some h := fun h h1 h2 => by
    have := p.2.2 0 1 h (by simp) (by simp) h2 h1
    omega
  have o2 := o1.snoc (pb.wide hlo (Nat.le_refl _)) fun i h hi' hh hk => by
    have h1 := (o.lt hi' hh).2.1
    have h2 := (pb.hdl hk).1
    omega
  refine o2.snoc (pa.wide hlo (Nat.le_refl _)) fun i h hi' hh hk => ?_
  by_cases hlt : i < ls.length
  · rw [getD_app_lt (by rw [o.1]; exact hlt)] at hh
    have h1 := (o.lt hlt hh).2.1
    have h2 := (pa.hdl hk).1
    omega
  · have hi2 : i = ls.length := by simp at hi'; omega
    rw [hi2, ← o.1, getD_app_at] at hh
    exact hab h hh hk
def nowI (kind : Int) (xs : List Int) : Nat → List Int := foldI (fun _ l => liftE kind l) xs
def outI (kind : Int) (xs : List Int) (t : Nat) : List (List Int) := (List.range t).map fun k => liftO kind (nowI kind xs k)
theorem outI_succ (kind : Int) (xs : List Int) (t : Nat) : outI kind xs (t + 1) = outI kind xs t ++ [liftO kind (nowI kind xs t)] := by simp [outI, List.range_succ]
theorem nowI_succ (kind : Int) (xs : List Int) (t : Nat) : nowI kind xs (t + 1) = liftE kind (nowI kind xs t) := rfl
theorem nowI_le (kind : Int) (xs : List Int) : ∀ t, (nowI kind xs t).length ≤ xs.length + 1
  | 0 => by simp [nowI, foldI_zero]
  | t + 1 => by have := nowI_le kind xs t; rw [nowI_succ, liftE_length]; omega
def stopN (p : Nat → Bool) : Nat → Nat
  | 0 => 0
  | n + 1 => if stopN p n = n ∧ p n = true then n + 1 else stopN p n
theorem stopN_le (p : Nat → Bool) : ∀ n, stopN p n ≤ n
  | 0 => Nat.le_refl _
  | n + 1 => by
    have := stopN_le p n
    unfold stopN
    split <;> omega
theorem stopN_full {p : Nat → Bool} : ∀ t, (∀ s, s < t → p s = true) → stopN p t = t
  | 0, _ => rfl
  | t + 1, h => by
    unfold stopN
    rw [if_pos ⟨stopN_full t fun s hs => h s (by omega), h t (by omega)⟩]
theorem stopN_eq {p : Nat → Bool} {t : Nat} (h : ∀ s, s < t → p s = true) : ∀ n, t ≤ n → (t < n → p t = false) → stopN p n = t
  | 0, hn, _ => by have : t = 0 := by omega
                   subst this; rfl
  | n + 1, hn, hp => by
    by_cases h1 : t = n + 1
    · subst h1; exact stopN_full _ h
    · have ih := stopN_eq h n (by omega) fun _ => hp (by omega)
      unfold stopN
      rw [ih]
      by_cases h2 : t = n
      · subst h2
        rw [hp (by omega)]
        simp
      · rw [if_neg (fun h => h2 h.1)]
def moreI (kind : Int) (xs : List Int) (t : Nat) : Bool := decide (1 < (nowI kind xs t).length)
def levelsI (kind : Int) (xs : List Int) (n : Nat) : List (List Int) := outI kind xs (stopN (moreI kind xs) n) ++ [nowI kind xs (stopN (moreI kind xs) n)]
theorem outI_len (kind : Int) (xs : List Int) (t : Nat) : (outI kind xs t).length = t := by simp [outI]
theorem outI_sum (kind : Int) (xs : List Int) (hx : xs.length ≤ 128) : ∀ t, offN (outI kind xs t) t ≤ 129 * t
  | 0 => by simp [offN_zero]
  | t + 1 => by
    have ih := outI_sum kind xs hx t
    have h1 := nowI_le kind xs t
    have h2 := liftO_length kind (nowI kind xs t)
    rw [outI_succ, offN_succ (by simp [outI_len])]
    have e1 : offN (outI kind xs t ++ [liftO kind (nowI kind xs t)]) t = offN (outI kind xs t) t := by
      unfold offN
      rw [List.take_append_of_le_length (by rw [outI_len]; exact Nat.le_refl _)]
    have e2 : (outI kind xs t ++ [liftO kind (nowI kind xs t)]).getD t [] = liftO kind (nowI kind xs t) := by
      have := @getD_app_at _ (outI kind xs t) (liftO kind (nowI kind xs t)) []
      rwa [outI_len] at this
    rw [e1, e2]
    omega
theorem levelsI_tot (kind : Int) (xs : List Int) (hx : xs.length ≤ 128) (n : Nat) (hn : n ≤ 6) : totL (levelsI kind xs n) ≤ 2 ^ 40 := by
  have hs := stopN_le (moreI kind xs) n
  obtain ⟨t, ht⟩ : ∃ t, t = stopN (moreI kind xs) n := ⟨_, rfl⟩
  unfold levelsI
  rw [← ht] at hs ⊢
  have h1 := outI_sum kind xs hx t
  have h2 := nowI_le kind xs t
  have hl : (outI kind xs t ++ [nowI kind xs t]).length = t + 1 := by simp [outI_len]
  unfold totL
  rw [hl, offN_succ (by rw [hl]; omega)]
  have e1 : offN (outI kind xs t ++ [nowI kind xs t]) t = offN (outI kind xs t) t := by
    unfold offN
    rw [List.take_append_of_le_length (by rw [outI_len]; exact Nat.le_refl _)]
  have e2 : (outI kind xs t ++ [nowI kind xs t]).getD t [] = nowI kind xs t := by
    have := @getD_app_at _ (outI kind xs t) (nowI kind xs t) []
    rwa [outI_len] at this
  rw [e1, e2]
  omega
theorem integers_len {xs : List Int} (h : integersF xs = true) : 1 ≤ xs.length ∧ xs.length ≤ 128 := by
  simp only [integersF, Bool.and_eq_true] at h
  have := within_true.1 h.1
  omega
theorem i64_nowI {kind : Int} {xs : List Int} (h : I64 xs) : ∀ t, I64 (nowI kind xs t)
  | 0 => h
  | t + 1 => i64_liftE _ _
theorem i_LiftLevels_law {H : Heap} {a0 a2 : Int} {v1 : Value} {xs1 : List Int} (b0 : -9223372036854775808 ≤ a0 ∧ a0 ≤ 9223372036854775807) (A : AI H v1 xs1) (b2 : -9223372036854775808 ≤ a2 ∧ a2 ≤ 9223372036854775807) :
    ACalls Try.prog n_i_LiftLevels [.int .i64 a0, v1, .int .i64 a2] H fun r H' => GridR iv t_sint64 t_int64 H (within a0 0 2 && integersF xs1 && within a2 1 6) (levelsI a0 xs1 a2.toNat) r H' := by
  refine k_i_LiftLevels.run rfl ?_
  unfold c_i_LiftLevels
  simp (disch := first | assumption | omega | rfl | (refine id ?_; simp only [gxD, ne_eq, reduceCtorEq, not_false_eq_true, Nat.reduceAdd, *]; done) | (refine id ?_; simp only [gxD]; omega)) only [↓gxPre, gxPost, ↓reduceIte, Nat.reduceEqDiff, reduceCtorEq, Nat.reduceAdd]
  refine callR_pure (i_within_ok) (by first | exact Or.inl rfl | (simp (disch := first | assumption | omega | rfl | (refine id ?_; simp only [gxD, ne_eq, reduceCtorEq, not_false_eq_true, Nat.reduceAdd, *]; done) | (refine id ?_; simp only [gxD]; omega)) only [↓gxPre, gxPost, ↓reduceIte, Nat.reduceEqDiff, reduceCtorEq, Nat.reduceAdd, *]; done)) ?_
  simp (disch := first | assumption | omega | rfl | (refine id ?_; simp only [gxD, ne_eq, reduceCtorEq, not_false_eq_true, Nat.reduceAdd, *]; done) | (refine id ?_; simp only [gxD]; omega)) only [↓gxPre, gxPost, ↓reduceIte, Nat.reduceEqDiff, reduceCtorEq, Nat.reduceAdd, *]
  cases h0 : within a0 0 2
  · simp (disch := first | assumption | omega | rfl | (refine id ?_; simp only [gxD, ne_eq, reduceCtorEq, not_false_eq_true, Nat.reduceAdd, *]; done) | (refine id ?_; simp only [gxD]; omega)) only [↓gxPre, gxPost, ↓reduceIte, Nat.reduceEqDiff, reduceCtorEq, Nat.reduceAdd]
    exact .no rfl (.refl _)
  simp (disch := first | assumption | omega | rfl | (refine id ?_; simp only [gxD, ne_eq, reduceCtorEq, not_false_eq_true, Nat.reduceAdd, *]; done) | (refine id ?_; simp only [gxD]; omega)) only [↓gxPre, gxPost, ↓reduceIte, Nat.reduceEqDiff, reduceCtorEq, Nat.reduceAdd]
  refine callR_pure (i_AreIntegers_ok A.rd A.le) (.inl rfl) ?_
  cases h1 : integersF xs1
  · simp (disch := first | assumption | omega | rfl | (refine id ?_; simp only [gxD, ne_eq, reduceCtorEq, not_false_eq_true, Nat.reduceAdd, *]; done) | (refine id ?_; simp only [gxD]; omega)) only [↓gxPre, gxPost, ↓reduceIte, Nat.reduceEqDiff, reduceCtorEq, Nat.reduceAdd]
    exact .no rfl (.refl _)
  simp (disch := first | assumption | omega | rfl | (refine id ?_; simp only [gxD, ne_eq, reduceCtorEq, not_false_eq_true, Nat.reduceAdd, *]; done) | (refine id ?_; simp only [gxD]; omega)) only [↓gxPre, gxPost, ↓reduceIte, Nat.reduceEqDiff, reduceCtorEq, Nat.reduceAdd]
  refine callR_pure (i_within_ok) (by first | exact Or.inl rfl | (simp (disch := first | assumption | omega | rfl | (refine id ?_; simp only [gxD, ne_eq, reduceCtorEq, not_false_eq_true, Nat.reduceAdd, *]; done) | (refine id ?_; simp only [gxD]; omega)) only [↓gxPre, gxPost, ↓reduceIte, Nat.reduceEqDiff, reduceCtorEq, Nat.reduceAdd, *]; done)) ?_
  simp (disch := first | assumption | omega | rfl | (refine id ?_; simp only [gxD, ne_eq, reduceCtorEq, not_false_eq_true, Nat.reduceAdd, *]; done) | (refine id ?_; simp only [gxD]; omega)) only [↓gxPre, gxPost, ↓reduceIte, Nat.reduceEqDiff, reduceCtorEq, Nat.reduceAdd, *]
  cases h2 : within a2 1 6
  · simp (disch := first | assumption | omega | rfl | (refine id ?_; simp only [gxD, ne_eq, reduceCtorEq, not_false_eq_true, Nat.reduceAdd, *]; done) | (refine id ?_; simp only [gxD]; omega)) only [↓gxPre, gxPost, ↓reduceIte, Nat.reduceEqDiff, reduceCtorEq, Nat.reduceAdd]
    exact .no rfl (.refl _)
  have hl := integers_len h1
  have hw2 := within_true.1 h2
  have hr := (A.rd.ext ((Ext.new H ⟨true, t_sint64, []⟩).news ⟨true, t_int64, []⟩)).read
  simp (disch := first | assumption | omega | rfl | (refine id ?_; simp only [gxD, ne_eq, reduceCtorEq, not_false_eq_true, Nat.reduceAdd, *]; done) | (refine id ?_; simp only [gxD]; omega)) only [↓gxPre, gxPost, ↓reduceIte, Nat.reduceEqDiff, reduceCtorEq, Nat.reduceAdd, hr, List.nil_append, lMapI]
  refine loop_st (σ := Nat × Value) (fun s => [.int .i64 a0, .int .i64 a2, .slice (some ⟨H.n, 0, none⟩) s.1 s.1, s.2, .int .i64 s.1])
    (fun s G => s.1 ≤ a2.toNat ∧ (∀ k, k < s.1 → moreI a0 xs1 k = true) ∧ H.n + 1 ≤ G.n ∧ Ext H G ∧ ∃ vs, G.blk H.n = some ⟨true, t_sint64, vs⟩ ∧ OwN H.n G.n G t_int64 (vs ++ [s.2]) ((outI a0 xs1 s.1 ++ [nowI a0 xs1 s.1]).map (List.map iv)))
    (fun s => a2.toNat - s.1) (0, .slice (some ⟨H.n + 1, 0, none⟩) xs1.length xs1.length) rfl
    ⟨by omega, by intros; omega, by simp only [new_n, put_n]; omega, ⟨by first | omega | (simp only [new_n, put_n]; omega) | (simp only [new_n, put_n] at *; omega), fun i hi => by simp (disch := first | assumption | omega | rfl | (refine id ?_; simp only [gxD, ne_eq, reduceCtorEq, not_false_eq_true, Nat.reduceAdd, *]; done) | (refine id ?_; simp only [gxD]; omega)) only [↓gxPre, gxPost, ↓reduceIte, Nat.reduceEqDiff, reduceCtorEq, Nat.reduceAdd, *]⟩, [], by simp (disch := first | assumption | omega | rfl | (refine id ?_; simp only [gxD, ne_eq, reduceCtorEq, not_false_eq_true, Nat.reduceAdd, *]; done) | (refine id ?_; simp only [gxD]; omega)) only [↓gxPre, gxPost, ↓reduceIte, Nat.reduceEqDiff, reduceCtorEq, Nat.reduceAdd], ?_⟩ ?_
  · refine OwN.nil.snoc (ls := []) (vs := []) (.mk (by simp (disch := first | assumption | omega | rfl | (refine id ?_; simp only [gxD, ne_eq, reduceCtorEq, not_false_eq_true, Nat.reduceAdd, *]; done) | (refine id ?_; simp only [gxD]; omega)) only [↓gxPre, gxPost, ↓reduceIte, Nat.reduceEqDiff, reduceCtorEq, Nat.reduceAdd]; rfl) (by simp [nowI, foldI_zero]) (by first | omega | (simp only [new_n, put_n]; omega)) (by first | omega | (simp only [new_n, put_n]; omega)) (by first | omega | (simp only [new_n, put_n]; omega))) fun i h hi' => by simp at hi'
  · rintro ⟨t, v⟩ G ⟨ht, hmore, hG, hE, vs, hb, ho⟩
    simp only [List.map_append, List.map_cons, List.map_nil] at ho
    simp only at ht hmore ho ⊢
    have hlv : vs.length = t := by have := ho.1; simpa [outI_len] using this
    have hv := OwN_last ho
    have hvis := hv.is
    have hlen := nowI_le a0 xs1 t
    by_cases c1 : (t : Int) < a2
    · by_cases c2 : (1 : Int) < (nowI a0 xs1 t).length
      · simp (disch := first | assumption | omega | rfl | (refine id ?_; simp only [gxD, ne_eq, reduceCtorEq, not_false_eq_true, Nat.reduceAdd, *]; done) | (refine id ?_; simp only [gxD]; omega)) only [↓gxPre, gxPost, ↓reduceIte, Nat.reduceEqDiff, reduceCtorEq, Nat.reduceAdd, hvis.len, c1, c2]
        refine callR_of (i_lifted_ok hvis (by omega) (i64_nowI A.w t)) ?_
        rintro _ G1 ⟨e1, n1, rfl, hc, hd⟩
        have hb1 := (e1.blk H.n (by omega)).trans hb
        have l1 := liftE_length a0 (nowI a0 xs1 t)
        have l2 := liftO_length a0 (nowI a0 xs1 t)
        have p : OwN G.n G1.n G1 t_int64 [.slice (some ⟨G.n, 0, none⟩) (((nowI a0 xs1 t).length + 1) / 2) (((nowI a0 xs1 t).length + 1) / 2), .slice (some ⟨G.n + 1, 0, none⟩) ((nowI a0 xs1 t).length / 2) ((nowI a0 xs1 t).length / 2)] [(liftE a0 (nowI a0 xs1 t)).map iv, (liftO a0 (nowI a0 xs1 t)).map iv] :=
          OwN.two (.mk hc (by simpa using l1) (by omega) (by omega) (by omega)) (.mk hd (by simpa using l2) (by omega) (by omega) (by omega)) fun h h1 h2 => by simp only [hdl, Option.some.injEq] at h1 h2; omega
        have q := OwN_two (OwN_init ho) e1 (by omega) p
        obtain ⟨f1, f2, f3, f4⟩ := push_at (x := .slice (some ⟨G.n + 1, 0, none⟩) ((nowI a0 xs1 t).length / 2) ((nowI a0 xs1 t).length / 2)) (hE.trans e1) hb1 (Nat.le_refl _) (by omega) rfl
        have q2 : OwN H.n (G1.n + 1) ((G1.new ⟨true, t_sint64, [.slice (some ⟨G.n + 1, 0, none⟩) ((nowI a0 xs1 t).length / 2) ((nowI a0 xs1 t).length / 2)]⟩).put H.n ⟨true, t_sint64, vs ++ [.slice (some ⟨G.n + 1, 0, none⟩) ((nowI a0 xs1 t).length / 2) ((nowI a0 xs1 t).length / 2)]⟩) t_int64 _ _ :=
          OwN_put ((q.ext (.new _ ⟨true, t_sint64, [.slice (some ⟨G.n + 1, 0, none⟩) ((nowI a0 xs1 t).length / 2) ((nowI a0 xs1 t).length / 2)]⟩)).wide (Nat.le_refl _) (by omega)) ((new_old _ _ _ (by omega)).trans hb1) (by decide)
        simp (disch := first | assumption | omega | rfl | (refine id ?_; simp only [gxD, ne_eq, reduceCtorEq, not_false_eq_true, Nat.reduceAdd, *]; done) | (refine id ?_; simp only [gxD]; omega)) only [↓gxPre, gxPost, ↓reduceIte, Nat.reduceEqDiff, reduceCtorEq, Nat.reduceAdd, hb1]
        refine ⟨(t + 1, .slice (some ⟨G.n, 0, none⟩) (((nowI a0 xs1 t).length + 1) / 2) (((nowI a0 xs1 t).length + 1) / 2)), by simp only; omega, by simp, by simp only; omega, fun k hk => ?_, by omega, f1, _, rfl, ?_⟩
        · by_cases hkt : k = t
          · subst hkt; exact decide_eq_true (by omega)
          · exact hmore k (by simp only at hk; omega)
        · simp only [outI_succ, nowI_succ, List.map_append, List.map_cons, List.map_nil]
          exact q2
      · have hst : stopN (moreI a0 xs1) a2.toNat = t := stopN_eq hmore _ ht fun _ => decide_eq_false (by omega)
        obtain ⟨f1, f2, f3, f4⟩ := push_at (x := v) hE hb (Nat.le_refl _) (by omega) rfl
        have ov := hv.one
        simp (disch := first | assumption | omega | rfl | (refine id ?_; simp only [gxD, ne_eq, reduceCtorEq, not_false_eq_true, Nat.reduceAdd, *]; done) | (refine id ?_; simp only [gxD]; omega)) only [↓gxPre, gxPost, ↓reduceIte, Nat.reduceEqDiff, reduceCtorEq, Nat.reduceAdd, hvis.len, c1, c2, hb]
        have hres : levelsI a0 xs1 a2.toNat = outI a0 xs1 t ++ [nowI a0 xs1 t] := by unfold levelsI; rw [hst]
        refine .yes (by simp) f1 ⟨vs ++ [v], .mk f2 (by simp [hlv]) (by first | omega | (simp only [new_n, put_n]; omega)) (by first | omega | (simp only [new_n, put_n]; omega)) (by first | omega | (simp only [new_n, put_n]; omega)), ?_⟩ (levelsI_tot a0 xs1 hl.2 _ (by omega))
        rw [hres]
        simp only [List.map_append, List.map_cons, List.map_nil]
        exact OwN_put ((ho.ext (.new _ ⟨true, t_sint64, [v]⟩)).wide (Nat.le_refl _) (by first | omega | (simp only [new_n, put_n]; omega))) ((new_old _ _ _ (by omega)).trans hb) (by decide)
    · have hst : stopN (moreI a0 xs1) a2.toNat = t := stopN_eq hmore _ ht fun h => by omega
      obtain ⟨f1, f2, f3, f4⟩ := push_at (x := v) hE hb (Nat.le_refl _) (by omega) rfl
      have ov := hv.one
      simp (disch := first | assumption | omega | rfl | (refine id ?_; simp only [gxD, ne_eq, reduceCtorEq, not_false_eq_true, Nat.reduceAdd, *]; done) | (refine id ?_; simp only [gxD]; omega)) only [↓gxPre, gxPost, ↓reduceIte, Nat.reduceEqDiff, reduceCtorEq, Nat.reduceAdd, hvis.len, c1, hb]
      have hres : levelsI a0 xs1 a2.toNat = outI a0 xs1 t ++ [nowI a0 xs1 t] := by unfold levelsI; rw [hst]
      refine .yes (by simp) f1 ⟨vs ++ [v], .mk f2 (by simp [hlv]) (by first | omega | (simp only [new_n, put_n]; omega)) (by first | omega | (simp only [new_n, put_n]; omega)) (by first | omega | (simp only [new_n, put_n]; omega)), ?_⟩ (levelsI_tot a0 xs1 hl.2 _ (by omega))
      rw [hres]
      simp only [List.map_append, List.map_cons, List.map_nil]
      exact OwN_put ((ho.ext (.new _ ⟨true, t_sint64, [v]⟩)).wide (Nat.le_refl _) (by first | omega | (simp only [new_n, put_n]; omega))) ((new_old _ _ _ (by omega)).trans hb) (by decide)
theorem s_LiftLevels_law {H : Heap} {a0 a2 : Int} {v1 : Value} {xs1 : List Int} (b0 : -9223372036854775808 ≤ a0 ∧ a0 ≤ 9223372036854775807) (A : AI H v1 xs1) (b2 : -9223372036854775808 ≤ a2 ∧ a2 ≤ 9223372036854775807) :
    ACalls Try.prog n_s_LiftLevels [.int .i64 a0, v1, .int .i64 a2] H fun r H' => GridR iv t_sint64 t_int64 H (within a0 0 2 && integersF xs1 && within a2 1 6) (levelsI a0 xs1 a2.toNat) r H' := by
  refine k_s_LiftLevels.run rfl ?_
  unfold c_s_LiftLevels
  simp (disch := first | assumption | omega | rfl | (refine id ?_; simp only [gxD, ne_eq, reduceCtorEq, not_false_eq_true, Nat.reduceAdd, *]; done) | (refine id ?_; simp only [gxD]; omega)) only [↓gxPre, gxPost, ↓reduceIte, Nat.reduceEqDiff, reduceCtorEq, Nat.reduceAdd]
  refine callR_pure (s_l02Kind_ok) (by first | exact Or.inl rfl | (simp (disch := first | assumption | omega | rfl | (refine id ?_; simp only [gxD, ne_eq, reduceCtorEq, not_false_eq_true, Nat.reduceAdd, *]; done) | (refine id ?_; simp only [gxD]; omega)) only [↓gxPre, gxPost, ↓reduceIte, Nat.reduceEqDiff, reduceCtorEq, Nat.reduceAdd, *]; done)) ?_
  simp (disch := first | assumption | omega | rfl | (refine id ?_; simp only [gxD, ne_eq, reduceCtorEq, not_false_eq_true, Nat.reduceAdd, *]; done) | (refine id ?_; simp only [gxD]; omega)) only [↓gxPre, gxPost, ↓reduceIte, Nat.reduceEqDiff, reduceCtorEq, Nat.reduceAdd, *]
  cases h0 : within a0 0 2
  · simp (disch := first | assumption | omega | rfl | (refine id ?_; simp only [gxD, ne_eq, reduceCtorEq, not_false_eq_true, Nat.reduceAdd, *]; done) | (refine id ?_; simp only [gxD]; omega)) only [↓gxPre, gxPost, ↓reduceIte, Nat.reduceEqDiff, reduceCtorEq, Nat.reduceAdd]
    exact .no rfl (.refl _)
  simp (disch := first | assumption | omega | rfl | (refine id ?_; simp only [gxD, ne_eq, reduceCtorEq, not_false_eq_true, Nat.reduceAdd, *]; done) | (refine id ?_; simp only [gxD]; omega)) only [↓gxPre, gxPost, ↓reduceIte, Nat.reduceEqDiff, reduceCtorEq, Nat.reduceAdd]
  refine callR_pure (s_l02Integers_ok A.rd A.le) (.inl rfl) ?_
  cases h1 : integersF xs1
  · simp (disch := first | assumption | omega | rfl | (refine id ?_; simp only [gxD, ne_eq, reduceCtorEq, not_false_eq_true, Nat.reduceAdd, *]; done) | (refine id ?_; simp only [gxD]; omega)) only [↓gxPre, gxPost, ↓reduceIte, Nat.reduceEqDiff, reduceCtorEq, Nat.reduceAdd]
    exact .no rfl (.refl _)
  simp (disch := first | assumption | omega | rfl | (refine id ?_; simp only [gxD, ne_eq, reduceCtorEq, not_false_eq_true, Nat.reduceAdd, *]; done) | (refine id ?_; simp only [gxD]; omega)) only [↓gxPre, gxPost, ↓reduceIte, Nat.reduceEqDiff, reduceCtorEq, Nat.reduceAdd]
  refine callR_pure (s_l02Levels_ok) (by first | exact Or.inl rfl | (simp (disch := first | assumption | omega | rfl | (refine id ?_; simp only [gxD, ne_eq, reduceCtorEq, not_false_eq_true, Nat.reduceAdd, *]; done) | (refine id ?_; simp only [gxD]; omega)) only [↓gxPre, gxPost, ↓reduceIte, Nat.reduceEqDiff, reduceCtorEq, Nat.reduceAdd, *]; done)) ?_
  simp (disch := first | assumption | omega | rfl | (refine id ?_; simp only [gxD, ne_eq, reduceCtorEq, not_false_eq_true, Nat.reduceAdd, *]; done) | (refine id ?_; simp only [gxD]; omega)) only [↓gxPre, gxPost, ↓reduceIte, Nat.reduceEqDiff, reduceCtorEq, Nat.reduceAdd, *]
  cases h2 : within a2 1 6
  · simp (disch := first | assumption | omega | rfl | (refine id ?_; simp only [gxD, ne_eq, reduceCtorEq, not_false_eq_true, Nat.reduceAdd, *]; done) | (refine id ?_; simp only [gxD]; omega)) only [↓gxPre, gxPost, ↓reduceIte, Nat.reduceEqDiff, reduceCtorEq, Nat.reduceAdd]
    exact .no rfl (.refl _)
  have hl := integers_len h1
  have hw2 := within_true.1 h2
  have hr := (A.rd.ext ((Ext.new H ⟨true, t_sint64, []⟩).news ⟨true, t_int64, []⟩)).read
  simp (disch := first | assumption | omega | rfl | (refine id ?_; simp only [gxD, ne_eq, reduceCtorEq, not_false_eq_true, Nat.reduceAdd, *]; done) | (refine id ?_; simp only [gxD]; omega)) only [↓gxPre, gxPost, ↓reduceIte, Nat.reduceEqDiff, reduceCtorEq, Nat.reduceAdd, hr, List.nil_append, lMapI]
  refine loop_st (σ := Nat × Value) (fun s => [.int .i64 a0, .int .i64 a2, .slice (some ⟨H.n, 0, none⟩) s.1 s.1, s.2, .int .i64 s.1])
    (fun s G => s.1 ≤ a2.toNat ∧ (∀ k, k < s.1 → moreI a0 xs1 k = true) ∧ H.n + 1 ≤ G.n ∧ Ext H G ∧ ∃ vs, G.blk H.n = some ⟨true, t_sint64, vs⟩ ∧ OwN H.n G.n G t_int64 (vs ++ [s.2]) ((outI a0 xs1 s.1 ++ [nowI a0 xs1 s.1]).map (List.map iv)))
    (fun s => a2.toNat - s.1) (0, .slice (some ⟨H.n + 1, 0, none⟩) xs1.length xs1.length) rfl
    ⟨by omega, by intros; omega, by simp only [new_n, put_n]; omega, ⟨by first | omega | (simp only [new_n, put_n]; omega) | (simp only [new_n, put_n] at *; omega), fun i hi => by simp (disch := first | assumption | omega | rfl | (refine id ?_; simp only [gxD, ne_eq, reduceCtorEq, not_false_eq_true, Nat.reduceAdd, *]; done) | (refine id ?_; simp only [gxD]; omega)) only [↓gxPre, gxPost, ↓reduceIte, Nat.reduceEqDiff, reduceCtorEq, Nat.reduceAdd, *]⟩, [], by simp (disch := first | assumption | omega | rfl | (refine id ?_; simp only [gxD, ne_eq, reduceCtorEq, not_false_eq_true, Nat.reduceAdd, *]; done) | (refine id ?_; simp only [gxD]; omega)) only [↓gxPre, gxPost, ↓reduceIte, Nat.reduceEqDiff, reduceCtorEq, Nat.reduceAdd], ?_⟩ ?_
  · refine OwN.nil.snoc (ls := []) (vs := []) (.mk (by simp (disch := first | assumption | omega | rfl | (refine id ?_; simp only [gxD, ne_eq, reduceCtorEq, not_false_eq_true, Nat.reduceAdd, *]; done) | (refine id ?_; simp only [gxD]; omega)) only [↓gxPre, gxPost, ↓reduceIte, Nat.reduceEqDiff, reduceCtorEq, Nat.reduceAdd]; rfl) (by simp [nowI, foldI_zero]) (by first | omega | (simp only [new_n, put_n]; omega)) (by first | omega | (simp only [new_n, put_n]; omega)) (by first | omega | (simp only [new_n, put_n]; omega))) fun i h hi' => by simp at hi'
  · rintro ⟨t, v⟩ G ⟨ht, hmore, hG, hE, vs, hb, ho⟩
    simp only [List.map_append, List.map_cons, List.map_nil] at ho
    simp only at ht hmore ho ⊢
    have hlv : vs.length = t := by have := ho.1; simpa [outI_len] using this
    have hv := OwN_last ho
    have hvis := hv.is
    have hlen := nowI_le a0 xs1 t
    by_cases c1 : (t : Int) < a2
    · by_cases c2 : (2 : Int) ≤ (nowI a0 xs1 t).length
      · simp (disch := first | assumption | omega | rfl | (refine id ?_; simp only [gxD, ne_eq, reduceCtorEq, not_false_eq_true, Nat.reduceAdd, *]; done) | (refine id ?_; simp only [gxD]; omega)) only [↓gxPre, gxPost, ↓reduceIte, Nat.reduceEqDiff, reduceCtorEq, Nat.reduceAdd, hvis.len, c1, c2]
        refine callR_of (s_l02Lift_ok hvis (by omega) (i64_nowI A.w t)) ?_
        rintro _ G1 ⟨e1, n1, rfl, hc, hd⟩
        have hb1 := (e1.blk H.n (by omega)).trans hb
        have l1 := liftE_length a0 (nowI a0 xs1 t)
        have l2 := liftO_length a0 (nowI a0 xs1 t)
        have p : OwN G.n G1.n G1 t_int64 [.slice (some ⟨G.n, 0, none⟩) (((nowI a0 xs1 t).length + 1) / 2) (((nowI a0 xs1 t).length + 1) / 2), .slice (some ⟨G.n + 1, 0, none⟩) ((nowI a0 xs1 t).length / 2) ((nowI a0 xs1 t).length / 2)] [(liftE a0 (nowI a0 xs1 t)).map iv, (liftO a0 (nowI a0 xs1 t)).map iv] :=
          OwN.two (.mk hc (by simpa using l1) (by omega) (by omega) (by omega)) (.mk hd (by simpa using l2) (by omega) (by omega) (by omega)) fun h h1 h2 => by simp only [hdl, Option.some.injEq] at h1 h2; omega
        have q := OwN_two (OwN_init ho) e1 (by omega) p
        obtain ⟨f1, f2, f3, f4⟩ := push_at (x := .slice (some ⟨G.n + 1, 0, none⟩) ((nowI a0 xs1 t).length / 2) ((nowI a0 xs1 t).length / 2)) (hE.trans e1) hb1 (Nat.le_refl _) (by omega) rfl
        have q2 : OwN H.n (G1.n + 1) ((G1.new ⟨true, t_sint64, [.slice (some ⟨G.n + 1, 0, none⟩) ((nowI a0 xs1 t).length / 2) ((nowI a0 xs1 t).length / 2)]⟩).put H.n ⟨true, t_sint64, vs ++ [.slice (some ⟨G.n + 1, 0, none⟩) ((nowI a0 xs1 t).length / 2) ((nowI a0 xs1 t).length / 2)]⟩) t_int64 _ _ :=
          OwN_put ((q.ext (.new _ ⟨true, t_sint64, [.slice (some ⟨G.n + 1, 0, none⟩) ((nowI a0 xs1 t).length / 2) ((nowI a0 xs1 t).length / 2)]⟩)).wide (Nat.le_refl _) (by omega)) ((new_old _ _ _ (by omega)).trans hb1) (by decide)
        simp (disch := first | assumption | omega | rfl | (refine id ?_; simp only [gxD, ne_eq, reduceCtorEq, not_false_eq_true, Nat.reduceAdd, *]; done) | (refine id ?_; simp only [gxD]; omega)) only [↓gxPre, gxPost, ↓reduceIte, Nat.reduceEqDiff, reduceCtorEq, Nat.reduceAdd, hb1]
        refine ⟨(t + 1, .slice (some ⟨G.n, 0, none⟩) (((nowI a0 xs1 t).length + 1) / 2) (((nowI a0 xs1 t).length + 1) / 2)), by simp only; omega, by simp, by simp only; omega, fun k hk => ?_, by omega, f1, _, rfl, ?_⟩
        · by_cases hkt : k = t
          · subst hkt; exact decide_eq_true (by omega)
          · exact hmore k (by simp only at hk; omega)
        · simp only [outI_succ, nowI_succ, List.map_append, List.map_cons, List.map_nil]
          exact q2
      · have hst : stopN (moreI a0 xs1) a2.toNat = t := stopN_eq hmore _ ht fun _ => decide_eq_false (by omega)
        obtain ⟨f1, f2, f3, f4⟩ := push_at (x := v) hE hb (Nat.le_refl _) (by omega) rfl
        have ov := hv.one
        simp (disch := first | assumption | omega | rfl | (refine id ?_; simp only [gxD, ne_eq, reduceCtorEq, not_false_eq_true, Nat.reduceAdd, *]; done) | (refine id ?_; simp only [gxD]; omega)) only [↓gxPre, gxPost, ↓reduceIte, Nat.reduceEqDiff, reduceCtorEq, Nat.reduceAdd, hvis.len, c1, c2, hb]
        have hres : levelsI a0 xs1 a2.toNat = outI a0 xs1 t ++ [nowI a0 xs1 t] := by unfold levelsI; rw [hst]
        refine .yes (by simp) f1 ⟨vs ++ [v], .mk f2 (by simp [hlv]) (by first | omega | (simp only [new_n, put_n]; omega)) (by first | omega | (simp only [new_n, put_n]; omega)) (by first | omega | (simp only [new_n, put_n]; omega)), ?_⟩ (levelsI_tot a0 xs1 hl.2 _ (by omega))
        rw [hres]
        simp only [List.map_append, List.map_cons, List.map_nil]
        exact OwN_put ((ho.ext (.new _ ⟨true, t_sint64, [v]⟩)).wide (Nat.le_refl _) (by first | omega | (simp only [new_n, put_n]; omega))) ((new_old _ _ _ (by omega)).trans hb) (by decide)
    · have hst : stopN (moreI a0 xs1) a2.toNat = t := stopN_eq hmore _ ht fun h => by omega
      obtain ⟨f1, f2, f3, f4⟩ := push_at (x := v) hE hb (Nat.le_refl _) (by omega) rfl
      have ov := hv.one
      simp (disch := first | assumption | omega | rfl | (refine id ?_; simp only [gxD, ne_eq, reduceCtorEq, not_false_eq_true, Nat.reduceAdd, *]; done) | (refine id ?_; simp only [gxD]; omega)) only [↓gxPre, gxPost, ↓reduceIte, Nat.reduceEqDiff, reduceCtorEq, Nat.reduceAdd, hvis.len, c1, hb]
      have hres : levelsI a0 xs1 a2.toNat = outI a0 xs1 t ++ [nowI a0 xs1 t] := by unfold levelsI; rw [hst]
      refine .yes (by simp) f1 ⟨vs ++ [v], .mk f2 (by simp [hlv]) (by first | omega | (simp only [new_n, put_n]; omega)) (by first | omega | (simp only [new_n, put_n]; omega)) (by first | omega | (simp only [new_n, put_n]; omega)), ?_⟩ (levelsI_tot a0 xs1 hl.2 _ (by omega))
      rw [hres]
      simp only [List.map_append, List.map_cons, List.map_nil]
      exact OwN_put ((ho.ext (.new _ ⟨true, t_sint64, [v]⟩)).wide (Nat.le_refl _) (by first | omega | (simp only [new_n, put_n]; omega))) ((new_old _ _ _ (by omega)).trans hb) (by decide)
end Go.Proofs.Ytkojmlpaamdhoad
