/- Lists lifted many times. -/
import Derived.Test.YtkojmlpaamdhoaeCoarseOfXD
namespace Go.Proofs.Ytkojmlpaamdhoae
open Go.Gx
set_option maxRecDepth 100000
set_option linter.unusedSimpArgs false
set_option linter.unusedVariables false

theorem liftF_len1 (ws : List Nat) (sc : Nat) (xs : List Nat) : (liftF ws sc xs).1.length = (xs.length + 1) / 2 := by
  unfold liftF; split
  · exact evL_length _
  · rw [List.length_map, (weighUp_len _ _ _).1]; exact evL_length _
theorem liftF_len2 (ws : List Nat) (sc : Nat) (xs : List Nat) : (liftF ws sc xs).2.length = xs.length / 2 := by
  unfold liftF; split
  · exact odL_length _
  · rw [List.length_map, (weighUp_len _ _ _).2]; exact odL_length _
def nowD (ws : List Nat) (sc : Nat) (xs : List Nat) : Nat → List Nat := foldI (fun _ l => (liftF ws sc l).1) xs
def outD (ws : List Nat) (sc : Nat) (xs : List Nat) (t : Nat) : List (List Nat) := (List.range t).map fun k => (liftF ws sc (nowD ws sc xs k)).2
theorem outD_succ (ws : List Nat) (sc : Nat) (xs : List Nat) (t : Nat) : outD ws sc xs (t + 1) = outD ws sc xs t ++ [(liftF ws sc (nowD ws sc xs t)).2] := by simp [outD, List.range_succ]
theorem nowD_succ (ws : List Nat) (sc : Nat) (xs : List Nat) (t : Nat) : nowD ws sc xs (t + 1) = (liftF ws sc (nowD ws sc xs t)).1 := rfl
theorem nowD_le (ws : List Nat) (sc : Nat) (xs : List Nat) (hx : 1 ≤ xs.length) : ∀ t, 1 ≤ (nowD ws sc xs t).length ∧ (nowD ws sc xs t).length ≤ xs.length
  | 0 => by simp [nowD, foldI_zero, hx]
  | t + 1 => by have := nowD_le ws sc xs hx t; rw [nowD_succ, liftF_len1]; omega
def moreD (ws : List Nat) (sc : Nat) (xs : List Nat) (t : Nat) : Bool := decide (1 < (nowD ws sc xs t).length)
def levelsD (ws : List Nat) (sc : Nat) (xs : List Nat) (n : Nat) : List (List Nat) := outD ws sc xs (stopN (moreD ws sc xs) n) ++ [nowD ws sc xs (stopN (moreD ws sc xs) n)]
theorem outD_len (ws : List Nat) (sc : Nat) (xs : List Nat) (t : Nat) : (outD ws sc xs t).length = t := by simp [outD]
theorem outD_sum (ws : List Nat) (sc : Nat) (xs : List Nat) (h1 : 1 ≤ xs.length) (hx : xs.length ≤ 128) : ∀ t, offN (outD ws sc xs t) t ≤ 129 * t
  | 0 => by simp [offN_zero]
  | t + 1 => by
    have ih := outD_sum ws sc xs h1 hx t
    have h1 := nowD_le ws sc xs h1 t
    have h2 := liftF_len2 ws sc (nowD ws sc xs t)
    rw [outD_succ, offN_succ (by simp [outD_len])]
    have e1 : offN (outD ws sc xs t ++ [(liftF ws sc (nowD ws sc xs t)).2]) t = offN (outD ws sc xs t) t := by
      unfold offN
      rw [List.take_append_of_le_length (by rw [outD_len]; exact Nat.le_refl _)]
    have e2 : (outD ws sc xs t ++ [(liftF ws sc (nowD ws sc xs t)).2]).getD t [] = (liftF ws sc (nowD ws sc xs t)).2 := by
      have := @getD_app_at _ (outD ws sc xs t) ((liftF ws sc (nowD ws sc xs t)).2) []
      rwa [outD_len] at this
    rw [e1, e2]
    omega
theorem levelsD_tot (ws : List Nat) (sc : Nat) (xs : List Nat) (h1 : 1 ≤ xs.length) (hx : xs.length ≤ 128) (n : Nat) (hn : n ≤ 6) : totL (levelsD ws sc xs n) ≤ 2 ^ 40 := by
  have hs := stopN_le (moreD ws sc xs) n
  obtain ⟨t, ht⟩ : ∃ t, t = stopN (moreD ws sc xs) n := ⟨_, rfl⟩
  unfold levelsD
  rw [← ht] at hs ⊢
  have h3 := outD_sum ws sc xs h1 hx t
  have h2 := nowD_le ws sc xs h1 t
  have hl : (outD ws sc xs t ++ [nowD ws sc xs t]).length = t + 1 := by simp [outD_len]
  unfold totL
  rw [hl, offN_succ (by rw [hl]; omega)]
  have e1 : offN (outD ws sc xs t ++ [nowD ws sc xs t]) t = offN (outD ws sc xs t) t := by
    unfold offN
    rw [List.take_append_of_le_length (by rw [outD_len]; exact Nat.le_refl _)]
  have e2 : (outD ws sc xs t ++ [nowD ws sc xs t]).getD t [] = nowD ws sc xs t := by
    have := @getD_app_at _ (outD ws sc xs t) (nowD ws sc xs t) []
    rwa [outD_len] at this
  rw [e1, e2]
  omega
theorem stopN_mono (p : Nat → Bool) (m : Nat) : ∀ d, stopN p m ≤ stopN p (m + d)
  | 0 => Nat.le_refl _
  | d + 1 => by
    have h1 := stopN_mono p m d
    have h2 := stopN_le p (m + d)
    have : stopN p (m + d) ≤ stopN p (m + d + 1) := by
      conv => rhs; unfold stopN
      split <;> omega
    exact Nat.le_trans h1 this
theorem stopN_gt {p : Nat → Bool} {t n : Nat} (h : ∀ k, k ≤ t → p k = true) (hn : t < n) : t < stopN p n := by
  have h1 := stopN_full (p := p) (t + 1) fun s hs => h s (by omega)
  have h2 := stopN_mono p (t + 1) (n - (t + 1))
  rw [show t + 1 + (n - (t + 1)) = n by omega] at h2
  omega
def deepOk (ws : List Nat) (sc : Nat) (xs : List Nat) (n : Int) : Bool := schemeF ws sc && isLongF xs && within n 1 6 && (List.range (stopN (moreD ws sc xs) n.toNat)).all fun k => liftOkF ws sc (nowD ws sc xs k)
theorem deepOk_no {ws : List Nat} {sc : Nat} {xs : List Nat} {n : Int} {t : Nat} (h : t < stopN (moreD ws sc xs) n.toNat) (h' : liftOkF ws sc (nowD ws sc xs t) = false) : deepOk ws sc xs n = false := by
  have : ((List.range (stopN (moreD ws sc xs) n.toNat)).all fun k => liftOkF ws sc (nowD ws sc xs k)) = false := by
    rw [List.all_eq_false]
    exact ⟨t, List.mem_range.2 h, by rw [h']; decide⟩
  unfold deepOk
  rw [this, Bool.and_false]
theorem deepOk_yes {ws : List Nat} {sc : Nat} {xs : List Nat} {n : Int} (h0 : schemeF ws sc = true) (h1 : isLongF xs = true) (h2 : within n 1 6 = true) (h : ∀ k, k < stopN (moreD ws sc xs) n.toNat → liftOkF ws sc (nowD ws sc xs k) = true) : deepOk ws sc xs n = true := by
  unfold deepOk
  rw [h0, h1, h2, Bool.and_self, Bool.and_self, Bool.true_and, List.all_eq_true]
  exact fun k hk => h k (List.mem_range.1 hk)
theorem liftOk_fin {ws : List Nat} {sc : Nat} {xs : List Nat} (hx : isLongF xs = true) (h : liftOkF ws sc xs = true) : isLongF (liftF ws sc xs).1 = true := by
  obtain ⟨hl, hl1⟩ := isLong_len hx
  have hf := isLong_fin hx
  have h1 := liftF_len1 ws sc xs
  unfold isLongF
  rw [within_true.2 (by omega), Bool.true_and]
  unfold liftOkF at h
  rw [Bool.or_eq_true, Bool.and_eq_true, decide_eq_true_eq] at h
  rcases h with h | h
  · unfold liftF
    rw [if_pos h]
    rw [List.all_eq_true] at hf ⊢
    intro x hxm
    simp only [evL, List.mem_map, List.mem_range] at hxm
    obtain ⟨k, hk, rfl⟩ := hxm
    by_cases hk2 : 2 * k < xs.length
    · have : xs.getD (2 * k) 0 = xs[2 * k] := by simp [List.getD_eq_getElem?_getD, hk2]
      rw [this]
      exact hf _ (List.getElem_mem hk2)
    · omega
  · exact h.1
theorem nowD_long {ws : List Nat} {sc : Nat} {xs : List Nat} (hx : isLongF xs = true) : ∀ t, (∀ k, k < t → liftOkF ws sc (nowD ws sc xs k) = true) → isLongF (nowD ws sc xs t) = true
  | 0, _ => hx
  | t + 1, h => by
    rw [nowD_succ]
    exact liftOk_fin (nowD_long hx t fun k hk => h k (by omega)) (h t (by omega))
theorem i_LiftDeep_law {H : Heap} {v0 v1 : Value} {xs0 xs1 : List Nat} {a0 : Nat} {a2 : Int} (A0 : AF H v0 xs0) (b0 : a0 < 2 ^ 32) (A1 : AF H v1 xs1) (b2 : -9223372036854775808 ≤ a2 ∧ a2 ≤ 9223372036854775807) :
    ACalls Try.prog n_i_LiftDeep [.agg #[v0, .float .f32 a0], v1, .int .i64 a2] H fun r H' => GridR fv t_sfloat32 t_float32 H (deepOk xs0 a0 xs1 a2) (levelsD xs0 a0 xs1 a2.toNat) r H' := by
  refine k_i_LiftDeep.run rfl ?_
  unfold c_i_LiftDeep
  have o0 := A0.rd.one
  have e0 : Ext H (H.new ⟨true, t_Scheme, [v0, .float .f32 a0]⟩) := .new _ _
  simp (disch := first | assumption | omega | rfl | (refine id ?_; simp only [gxD, ne_eq, reduceCtorEq, not_false_eq_true, Nat.reduceAdd, *]; done) | (refine id ?_; simp only [gxD]; omega)) only [↓gxPre, gxPost, ↓reduceIte, Nat.reduceEqDiff, reduceCtorEq, Nat.reduceAdd]
  refine callR_ext (i_ValidScheme_ok (A0.rd.ext e0) A0.le) ?_
  intro H1 n1 bb1
  have e1 := e0.trans ⟨n1, bb1⟩
  have hs1 : H1.blk H.n = some ⟨true, t_Scheme, [v0, .float .f32 a0]⟩ := (bb1 _ (by first | omega | (simp only [new_n, put_n]; omega))).trans (by simp (disch := first | assumption | omega | rfl | (refine id ?_; simp only [gxD, ne_eq, reduceCtorEq, not_false_eq_true, Nat.reduceAdd, *]; done) | (refine id ?_; simp only [gxD]; omega)) only [↓gxPre, gxPost, ↓reduceIte, Nat.reduceEqDiff, reduceCtorEq, Nat.reduceAdd])
  simp only [new_n] at n1
  cases h0 : schemeF xs0 a0
  · simp (disch := first | assumption | omega | rfl | (refine id ?_; simp only [gxD, ne_eq, reduceCtorEq, not_false_eq_true, Nat.reduceAdd, *]; done) | (refine id ?_; simp only [gxD]; omega)) only [↓gxPre, gxPost, ↓reduceIte, Nat.reduceEqDiff, reduceCtorEq, Nat.reduceAdd]
    exact .no (by simp only [deepOk, h0, Bool.false_and, Bool.true_and, Bool.and_true, Bool.and_false, Bool.or_true, Bool.true_or, Bool.false_or, Bool.or_false, Bool.and_self, Bool.or_self]) e1
  simp (disch := first | assumption | omega | rfl | (refine id ?_; simp only [gxD, ne_eq, reduceCtorEq, not_false_eq_true, Nat.reduceAdd, *]; done) | (refine id ?_; simp only [gxD]; omega)) only [↓gxPre, gxPost, ↓reduceIte, Nat.reduceEqDiff, reduceCtorEq, Nat.reduceAdd]
  refine callR_ext (i_IsList_ok (A1.rd.ext e1) A1.le) ?_
  intro K n2 bb2
  have eK := e1.trans ⟨n2, bb2⟩
  have hsK : K.blk H.n = some ⟨true, t_Scheme, [v0, .float .f32 a0]⟩ := (bb2 _ (by omega)).trans hs1
  cases h1 : isLongF xs1
  · simp (disch := first | assumption | omega | rfl | (refine id ?_; simp only [gxD, ne_eq, reduceCtorEq, not_false_eq_true, Nat.reduceAdd, *]; done) | (refine id ?_; simp only [gxD]; omega)) only [↓gxPre, gxPost, ↓reduceIte, Nat.reduceEqDiff, reduceCtorEq, Nat.reduceAdd]
    exact .no (by simp only [deepOk, h1, Bool.false_and, Bool.true_and, Bool.and_true, Bool.and_false, Bool.or_true, Bool.true_or, Bool.false_or, Bool.or_false, Bool.and_self, Bool.or_self]) eK
  obtain ⟨hl, hl1⟩ := isLong_len h1
  simp (disch := first | assumption | omega | rfl | (refine id ?_; simp only [gxD, ne_eq, reduceCtorEq, not_false_eq_true, Nat.reduceAdd, *]; done) | (refine id ?_; simp only [gxD]; omega)) only [↓gxPre, gxPost, ↓reduceIte, Nat.reduceEqDiff, reduceCtorEq, Nat.reduceAdd]
  refine callR_pure i_within_ok (.inl rfl) ?_
  cases h2 : within a2 1 6
  · simp (disch := first | assumption | omega | rfl | (refine id ?_; simp only [gxD, ne_eq, reduceCtorEq, not_false_eq_true, Nat.reduceAdd, *]; done) | (refine id ?_; simp only [gxD]; omega)) only [↓gxPre, gxPost, ↓reduceIte, Nat.reduceEqDiff, reduceCtorEq, Nat.reduceAdd]
    exact .no (by simp only [deepOk, h2, Bool.false_and, Bool.true_and, Bool.and_true, Bool.and_false, Bool.or_true, Bool.true_or, Bool.false_or, Bool.or_false, Bool.and_self, Bool.or_self]) eK
  have hw2 := within_true.1 h2
  simp (disch := first | assumption | omega | rfl | (refine id ?_; simp only [gxD, ne_eq, reduceCtorEq, not_false_eq_true, Nat.reduceAdd, *]; done) | (refine id ?_; simp only [gxD]; omega)) only [↓gxPre, gxPost, ↓reduceIte, Nat.reduceEqDiff, reduceCtorEq, Nat.reduceAdd]
  refine callR_new ?_
  intro N eN hbN nN
  refine callR_of (i_copyOf_ex (A1.rd.ext (eK.trans eN)) A1.le) ?_
  rintro _ P ⟨eP, rfl, nP, hcP⟩
  have hKn := eK.n
  simp (disch := first | assumption | omega | rfl | (refine id ?_; simp only [gxD, ne_eq, reduceCtorEq, not_false_eq_true, Nat.reduceAdd, *]; done) | (refine id ?_; simp only [gxD]; omega)) only [↓gxPre, gxPost, ↓reduceIte, Nat.reduceEqDiff, reduceCtorEq, Nat.reduceAdd]
  refine loop_st (σ := Nat × Value) (fun s => [.int .i64 a2, .pointer (some ⟨H.n, 0, some 2⟩), .slice (some ⟨K.n, 0, none⟩) s.1 s.1, s.2, .int .i64 s.1])
    (fun s G => s.1 ≤ a2.toNat ∧ (∀ k, k < s.1 → moreD xs0 a0 xs1 k = true) ∧ (∀ k, k < s.1 → liftOkF xs0 a0 (nowD xs0 a0 xs1 k) = true) ∧ K.n + 1 ≤ G.n ∧ Ext K G ∧ ∃ vs, G.blk K.n = some ⟨true, t_sfloat32, vs⟩ ∧ OwN K.n G.n G t_float32 (vs ++ [s.2]) ((outD xs0 a0 xs1 s.1 ++ [nowD xs0 a0 xs1 s.1]).map (List.map fv)))
    (fun s => a2.toNat - s.1) (0, .slice (some ⟨N.n, 0, none⟩) xs1.length xs1.length) rfl
    ⟨by omega, by intros; omega, by intros; omega, by omega, eN.trans eP, [], (eP.blk _ (by omega)).trans hbN, ?_⟩ ?_
  · refine OwN.nil.snoc (ls := []) (vs := []) (.mk hcP (by simp [nowD, foldI_zero]) (by omega) (by omega) (by omega)) fun i h hi' => by simp at hi'
  · rintro ⟨t, v⟩ G ⟨ht, hmore, hok, hG, hE, vs, hb, ho⟩
    simp only [List.map_append, List.map_cons, List.map_nil] at ho
    simp only at ht hmore hok ho ⊢
    have hlv : vs.length = t := by have := ho.1; simpa [outD_len] using this
    have hv := OwN_last ho
    have hvis := hv.fs
    have hlen := nowD_le xs0 a0 xs1 hl1 t
    have eHG := eK.trans hE
    have hsG : G.blk H.n = some ⟨true, t_Scheme, [v0, .float .f32 a0]⟩ := (hE.blk _ (by omega)).trans hsK
    by_cases c1 : (t : Int) < a2
    · by_cases c2 : (1 : Int) < (nowD xs0 a0 xs1 t).length
      · simp (disch := first | assumption | omega | rfl | (refine id ?_; simp only [gxD, ne_eq, reduceCtorEq, not_false_eq_true, Nat.reduceAdd, *]; done) | (refine id ?_; simp only [gxD]; omega)) only [↓gxPre, gxPost, ↓reduceIte, Nat.reduceEqDiff, reduceCtorEq, Nat.reduceAdd, hvis.len, c1, c2, hsG]
        refine callR_of (i_LiftOnce_core ⟨A0.rd.ext eHG, A0.le⟩ b0 ⟨hvis, by omega⟩) ?_
        rintro _ G1 ⟨e1, x, y, rfl, p, _, _⟩
        have hlng : isLongF (nowD xs0 a0 xs1 t) = true := nowD_long h1 t hok
        have hmt : ∀ k, k ≤ t → moreD xs0 a0 xs1 k = true := fun k hk => by
          by_cases hkt : k = t
          · subst hkt; exact decide_eq_true (by omega)
          · exact hmore k (by omega)
        cases hlo : liftOkF xs0 a0 (nowD xs0 a0 xs1 t)
        · simp only [h0, hlng, Bool.false_and, Bool.true_and, Bool.and_true, Bool.and_false, Bool.or_true, Bool.true_or, Bool.false_or, Bool.or_false, Bool.and_self, Bool.or_self]
          simp (disch := first | assumption | omega | rfl | (refine id ?_; simp only [gxD, ne_eq, reduceCtorEq, not_false_eq_true, Nat.reduceAdd, *]; done) | (refine id ?_; simp only [gxD]; omega)) only [↓gxPre, gxPost, ↓reduceIte, Nat.reduceEqDiff, reduceCtorEq, Nat.reduceAdd]
          exact .no (deepOk_no (stopN_gt hmt (by omega)) hlo) (eHG.trans e1)
        simp only [h0, hlng, hlo, Bool.false_and, Bool.true_and, Bool.and_true, Bool.and_false, Bool.or_true, Bool.true_or, Bool.false_or, Bool.or_false, Bool.and_self, Bool.or_self, selL, if_true] at p ⊢
        have hb1 := (e1.blk K.n (by omega)).trans hb
        have n1 := e1.n
        have q := OwN_two (OwN_init ho) e1 (by omega) p
        obtain ⟨f1, f2, f3, f4⟩ := push_at (x := y) (hE.trans e1) hb1 (Nat.le_refl _) (by omega) rfl
        have q2 : OwN K.n (G1.n + 1) ((G1.new ⟨true, t_sfloat32, [y]⟩).put K.n ⟨true, t_sfloat32, vs ++ [y]⟩) t_float32 _ _ :=
          OwN_put ((q.ext (.new _ ⟨true, t_sfloat32, [y]⟩)).wide (Nat.le_refl _) (by omega)) ((new_old _ _ _ (by omega)).trans hb1) (by decide)
        have oy := p.snd.one
        simp (disch := first | assumption | omega | rfl | (refine id ?_; simp only [gxD, ne_eq, reduceCtorEq, not_false_eq_true, Nat.reduceAdd, *]; done) | (refine id ?_; simp only [gxD]; omega)) only [↓gxPre, gxPost, ↓reduceIte, Nat.reduceEqDiff, reduceCtorEq, Nat.reduceAdd, hb1]
        refine ⟨(t + 1, x), by simp only; omega, by simp, by simp only; omega, fun k hk => hmt k (by simp only at hk; omega), fun k hk => ?_, by omega, f1, _, rfl, ?_⟩
        · by_cases hkt : k = t
          · subst hkt; exact hlo
          · exact hok k (by simp only at hk; omega)
        · simp only [outD_succ, nowD_succ, List.map_append, List.map_cons, List.map_nil]
          exact q2
      · have hst : stopN (moreD xs0 a0 xs1) a2.toNat = t := stopN_eq hmore _ ht fun _ => decide_eq_false (by omega)
        obtain ⟨f1, f2, f3, f4⟩ := push_at (x := v) hE hb (Nat.le_refl _) (by omega) rfl
        have ov := hv.one
        simp (disch := first | assumption | omega | rfl | (refine id ?_; simp only [gxD, ne_eq, reduceCtorEq, not_false_eq_true, Nat.reduceAdd, *]; done) | (refine id ?_; simp only [gxD]; omega)) only [↓gxPre, gxPost, ↓reduceIte, Nat.reduceEqDiff, reduceCtorEq, Nat.reduceAdd, hvis.len, c1, c2, hb]
        have hres : levelsD xs0 a0 xs1 a2.toNat = outD xs0 a0 xs1 t ++ [nowD xs0 a0 xs1 t] := by unfold levelsD; rw [hst]
        refine .yes (deepOk_yes h0 h1 h2 fun k hk => hok k (by omega)) (eK.trans f1) ⟨vs ++ [v], .mk f2 (by simp [hlv]) (by first | omega | (simp only [new_n, put_n]; omega)) (by first | omega | (simp only [new_n, put_n]; omega)) (by first | omega | (simp only [new_n, put_n]; omega)), ?_⟩ (levelsD_tot xs0 a0 xs1 hl1 hl _ (by omega))
        rw [hres]
        simp only [List.map_append, List.map_cons, List.map_nil]
        exact (OwN_put ((ho.ext (.new _ ⟨true, t_sfloat32, [v]⟩)).wide (Nat.le_refl _) (by first | omega | (simp only [new_n, put_n]; omega))) ((new_old _ _ _ (by omega)).trans hb) (by decide)).wide hKn (Nat.le_refl _)
    · have hst : stopN (moreD xs0 a0 xs1) a2.toNat = t := stopN_eq hmore _ ht fun h => by omega
      obtain ⟨f1, f2, f3, f4⟩ := push_at (x := v) hE hb (Nat.le_refl _) (by omega) rfl
      have ov := hv.one
      simp (disch := first | assumption | omega | rfl | (refine id ?_; simp only [gxD, ne_eq, reduceCtorEq, not_false_eq_true, Nat.reduceAdd, *]; done) | (refine id ?_; simp only [gxD]; omega)) only [↓gxPre, gxPost, ↓reduceIte, Nat.reduceEqDiff, reduceCtorEq, Nat.reduceAdd, hvis.len, c1, hb]
      have hres : levelsD xs0 a0 xs1 a2.toNat = outD xs0 a0 xs1 t ++ [nowD xs0 a0 xs1 t] := by unfold levelsD; rw [hst]
      refine .yes (deepOk_yes h0 h1 h2 fun k hk => hok k (by omega)) (eK.trans f1) ⟨vs ++ [v], .mk f2 (by simp [hlv]) (by first | omega | (simp only [new_n, put_n]; omega)) (by first | omega | (simp only [new_n, put_n]; omega)) (by first | omega | (simp only [new_n, put_n]; omega)), ?_⟩ (levelsD_tot xs0 a0 xs1 hl1 hl _ (by omega))
      rw [hres]
      simp only [List.map_append, List.map_cons, List.map_nil]
      exact (OwN_put ((ho.ext (.new _ ⟨true, t_sfloat32, [v]⟩)).wide (Nat.le_refl _) (by first | omega | (simp only [new_n, put_n]; omega))) ((new_old _ _ _ (by omega)).trans hb) (by decide)).wide hKn (Nat.le_refl _)
theorem s_l02Deep_ok {H K : Heap} {h a0 : Nat} {a2 : Int} {own : Bool} {ty : TypeId} {v0 v1 : Value} {xs0 xs1 : List Nat} (hsK : K.blk h = some ⟨own, ty, [v0, .float .f32 a0]⟩) (hh : h < K.n) (eK : Ext H K) (A0 : RF K v0 xs0) (A1 : RF K v1 xs1) (h0 : schemeF xs0 a0 = true) (h1 : isLongF xs1 = true) (h2 : within a2 1 6 = true) :
    ACalls Try.prog n_s_l02Deep [.pointer (some ⟨h, 0, some 2⟩), v1, .int .i64 a2] K fun r H' => GridR fv t_sfloat32 t_float32 H (deepOk xs0 a0 xs1 a2) (levelsD xs0 a0 xs1 a2.toNat) r H' := by
  refine k_s_l02Deep.run rfl ?_
  unfold c_s_l02Deep
  obtain ⟨hl, hl1⟩ := isLong_len h1
  have hw2 := within_true.1 h2
  have h8 : xs0.length ≤ 8 := by
    unfold schemeF at h0
    simp only [Bool.and_eq_true] at h0
    have := within_true.1 h0.1.1
    omega
  have hKn := eK.n
  have hr := (A1.rd.ext ((Ext.new K ⟨true, t_sfloat32, []⟩).news ⟨true, t_float32, []⟩)).read
  simp (disch := first | assumption | omega | rfl | (refine id ?_; simp only [gxD, ne_eq, reduceCtorEq, not_false_eq_true, Nat.reduceAdd, *]; done) | (refine id ?_; simp only [gxD]; omega)) only [↓gxPre, gxPost, ↓reduceIte, Nat.reduceEqDiff, reduceCtorEq, Nat.reduceAdd, hr, List.nil_append, lMapN]
  refine loop_st (σ := Nat × Value) (fun s => [.pointer (some ⟨h, 0, some 2⟩), .int .i64 a2, .slice (some ⟨K.n, 0, none⟩) s.1 s.1, s.2, .int .i64 s.1])
    (fun s G => s.1 ≤ a2.toNat ∧ (∀ k, k < s.1 → moreD xs0 a0 xs1 k = true) ∧ (∀ k, k < s.1 → liftOkF xs0 a0 (nowD xs0 a0 xs1 k) = true) ∧ K.n + 1 ≤ G.n ∧ Ext K G ∧ ∃ vs, G.blk K.n = some ⟨true, t_sfloat32, vs⟩ ∧ OwN K.n G.n G t_float32 (vs ++ [s.2]) ((outD xs0 a0 xs1 s.1 ++ [nowD xs0 a0 xs1 s.1]).map (List.map fv)))
    (fun s => a2.toNat - s.1) (0, .slice (some ⟨K.n + 1, 0, none⟩) xs1.length xs1.length) rfl
    ⟨by omega, by intros; omega, by intros; omega, by simp only [new_n, put_n]; omega, ⟨by first | omega | (simp only [new_n, put_n]; omega) | (simp only [new_n, put_n] at *; omega), fun i hi => by simp (disch := first | assumption | omega | rfl | (refine id ?_; simp only [gxD, ne_eq, reduceCtorEq, not_false_eq_true, Nat.reduceAdd, *]; done) | (refine id ?_; simp only [gxD]; omega)) only [↓gxPre, gxPost, ↓reduceIte, Nat.reduceEqDiff, reduceCtorEq, Nat.reduceAdd, *]⟩, [], by simp (disch := first | assumption | omega | rfl | (refine id ?_; simp only [gxD, ne_eq, reduceCtorEq, not_false_eq_true, Nat.reduceAdd, *]; done) | (refine id ?_; simp only [gxD]; omega)) only [↓gxPre, gxPost, ↓reduceIte, Nat.reduceEqDiff, reduceCtorEq, Nat.reduceAdd], ?_⟩ ?_
  · refine OwN.nil.snoc (ls := []) (vs := []) (.mk (by simp (disch := first | assumption | omega | rfl | (refine id ?_; simp only [gxD, ne_eq, reduceCtorEq, not_false_eq_true, Nat.reduceAdd, *]; done) | (refine id ?_; simp only [gxD]; omega)) only [↓gxPre, gxPost, ↓reduceIte, Nat.reduceEqDiff, reduceCtorEq, Nat.reduceAdd]; rfl) (by simp [nowD, foldI_zero]) (by first | omega | (simp only [new_n, put_n]; omega)) (by first | omega | (simp only [new_n, put_n]; omega)) (by first | omega | (simp only [new_n, put_n]; omega))) fun i h hi' => by simp at hi'
  · rintro ⟨t, v⟩ G ⟨ht, hmore, hok, hG, hE, vs, hb, ho⟩
    simp only [List.map_append, List.map_cons, List.map_nil] at ho
    simp only at ht hmore hok ho ⊢
    have hlv : vs.length = t := by have := ho.1; simpa [outD_len] using this
    have hv := OwN_last ho
    have hvis := hv.fs
    have hlen := nowD_le xs0 a0 xs1 hl1 t
    have eHG := eK.trans hE
    have hsG : G.blk h = some ⟨own, ty, [v0, .float .f32 a0]⟩ := (hE.blk _ hh).trans hsK
    by_cases c1 : (t : Int) < a2
    · by_cases c2 : (2 : Int) ≤ (nowD xs0 a0 xs1 t).length
      · simp (disch := first | assumption | omega | rfl | (refine id ?_; simp only [gxD, ne_eq, reduceCtorEq, not_false_eq_true, Nat.reduceAdd, *]; done) | (refine id ?_; simp only [gxD]; omega)) only [↓gxPre, gxPost, ↓reduceIte, Nat.reduceEqDiff, reduceCtorEq, Nat.reduceAdd, hvis.len, c1, c2, hsG]
        have hGn := hE.n
        refine callR_of (s_l02LiftOnce_ok hsG (by omega) ⟨A0.rd.ext hE, A0.le⟩ h8 ⟨hvis, by omega⟩ (by omega) (by omega)) ?_
        rintro _ G1 ⟨e1, n1', rfl, hc, hd⟩
        have ll1 := liftF_len1 xs0 a0 (nowD xs0 a0 xs1 t)
        have ll2 := liftF_len2 xs0 a0 (nowD xs0 a0 xs1 t)
        have p : OwN G.n G1.n G1 t_float32 [.slice (some ⟨G.n, 0, none⟩) (((nowD xs0 a0 xs1 t).length + 1) / 2) (((nowD xs0 a0 xs1 t).length + 1) / 2), .slice (some ⟨G.n + 1, 0, none⟩) ((nowD xs0 a0 xs1 t).length / 2) ((nowD xs0 a0 xs1 t).length / 2)] [(liftF xs0 a0 (nowD xs0 a0 xs1 t)).1.map fv, (liftF xs0 a0 (nowD xs0 a0 xs1 t)).2.map fv] :=
          OwN.two (.mk hc (by simpa using ll1) (by omega) (by omega) (by omega)) (.mk hd (by simpa using ll2) (by omega) (by omega) (by omega)) fun h h1 h2 => by simp only [hdl, Option.some.injEq] at h1 h2; omega
        generalize hX : Value.slice (some ⟨G.n, 0, none⟩) (((nowD xs0 a0 xs1 t).length + 1) / 2) (((nowD xs0 a0 xs1 t).length + 1) / 2) = x at p ⊢
        generalize hY : Value.slice (some ⟨G.n + 1, 0, none⟩) ((nowD xs0 a0 xs1 t).length / 2) ((nowD xs0 a0 xs1 t).length / 2) = y at p ⊢
        have hlng : isLongF (nowD xs0 a0 xs1 t) = true := nowD_long h1 t hok
        have hmt : ∀ k, k ≤ t → moreD xs0 a0 xs1 k = true := fun k hk => by
          by_cases hkt : k = t
          · subst hkt; exact decide_eq_true (by omega)
          · exact hmore k (by omega)
        cases hlo : liftOkF xs0 a0 (nowD xs0 a0 xs1 t)
        · simp (disch := first | assumption | omega | rfl | (refine id ?_; simp only [gxD, ne_eq, reduceCtorEq, not_false_eq_true, Nat.reduceAdd, *]; done) | (refine id ?_; simp only [gxD]; omega)) only [↓gxPre, gxPost, ↓reduceIte, Nat.reduceEqDiff, reduceCtorEq, Nat.reduceAdd]
          exact .no (deepOk_no (stopN_gt hmt (by omega)) hlo) (eHG.trans e1)
        have hb1 := (e1.blk K.n (by omega)).trans hb
        have n1 := e1.n
        have q := OwN_two (OwN_init ho) e1 (by omega) p
        obtain ⟨f1, f2, f3, f4⟩ := push_at (x := y) (hE.trans e1) hb1 (Nat.le_refl _) (by omega) rfl
        have q2 : OwN K.n (G1.n + 1) ((G1.new ⟨true, t_sfloat32, [y]⟩).put K.n ⟨true, t_sfloat32, vs ++ [y]⟩) t_float32 _ _ :=
          OwN_put ((q.ext (.new _ ⟨true, t_sfloat32, [y]⟩)).wide (Nat.le_refl _) (by omega)) ((new_old _ _ _ (by omega)).trans hb1) (by decide)
        have oy := p.snd.one
        simp (disch := first | assumption | omega | rfl | (refine id ?_; simp only [gxD, ne_eq, reduceCtorEq, not_false_eq_true, Nat.reduceAdd, *]; done) | (refine id ?_; simp only [gxD]; omega)) only [↓gxPre, gxPost, ↓reduceIte, Nat.reduceEqDiff, reduceCtorEq, Nat.reduceAdd, hb1]
        refine ⟨(t + 1, x), by simp only; omega, by simp, by simp only; omega, fun k hk => hmt k (by simp only at hk; omega), fun k hk => ?_, by omega, f1, _, rfl, ?_⟩
        · by_cases hkt : k = t
          · subst hkt; exact hlo
          · exact hok k (by simp only at hk; omega)
        · simp only [outD_succ, nowD_succ, List.map_append, List.map_cons, List.map_nil]
          exact q2
      · have hst : stopN (moreD xs0 a0 xs1) a2.toNat = t := stopN_eq hmore _ ht fun _ => decide_eq_false (by omega)
        obtain ⟨f1, f2, f3, f4⟩ := push_at (x := v) hE hb (Nat.le_refl _) (by omega) rfl
        have ov := hv.one
        simp (disch := first | assumption | omega | rfl | (refine id ?_; simp only [gxD, ne_eq, reduceCtorEq, not_false_eq_true, Nat.reduceAdd, *]; done) | (refine id ?_; simp only [gxD]; omega)) only [↓gxPre, gxPost, ↓reduceIte, Nat.reduceEqDiff, reduceCtorEq, Nat.reduceAdd, hvis.len, c1, c2, hb]
        have hres : levelsD xs0 a0 xs1 a2.toNat = outD xs0 a0 xs1 t ++ [nowD xs0 a0 xs1 t] := by unfold levelsD; rw [hst]
        refine .yes (deepOk_yes h0 h1 h2 fun k hk => hok k (by omega)) (eK.trans f1) ⟨vs ++ [v], .mk f2 (by simp [hlv]) (by first | omega | (simp only [new_n, put_n]; omega)) (by first | omega | (simp only [new_n, put_n]; omega)) (by first | omega | (simp only [new_n, put_n]; omega)), ?_⟩ (levelsD_tot xs0 a0 xs1 hl1 hl _ (by omega))
        rw [hres]
        simp only [List.map_append, List.map_cons, List.map_nil]
        exact (OwN_put ((ho.ext (.new _ ⟨true, t_sfloat32, [v]⟩)).wide (Nat.le_refl _) (by first | omega | (simp only [new_n, put_n]; omega))) ((new_old _ _ _ (by omega)).trans hb) (by decide)).wide hKn (Nat.le_refl _)
    · have hst : stopN (moreD xs0 a0 xs1) a2.toNat = t := stopN_eq hmore _ ht fun h => by omega
      obtain ⟨f1, f2, f3, f4⟩ := push_at (x := v) hE hb (Nat.le_refl _) (by omega) rfl
      have ov := hv.one
      simp (disch := first | assumption | omega | rfl | (refine id ?_; simp only [gxD, ne_eq, reduceCtorEq, not_false_eq_true, Nat.reduceAdd, *]; done) | (refine id ?_; simp only [gxD]; omega)) only [↓gxPre, gxPost, ↓reduceIte, Nat.reduceEqDiff, reduceCtorEq, Nat.reduceAdd, hvis.len, c1, hb]
      have hres : levelsD xs0 a0 xs1 a2.toNat = outD xs0 a0 xs1 t ++ [nowD xs0 a0 xs1 t] := by unfold levelsD; rw [hst]
      refine .yes (deepOk_yes h0 h1 h2 fun k hk => hok k (by omega)) (eK.trans f1) ⟨vs ++ [v], .mk f2 (by simp [hlv]) (by first | omega | (simp only [new_n, put_n]; omega)) (by first | omega | (simp only [new_n, put_n]; omega)) (by first | omega | (simp only [new_n, put_n]; omega)), ?_⟩ (levelsD_tot xs0 a0 xs1 hl1 hl _ (by omega))
      rw [hres]
      simp only [List.map_append, List.map_cons, List.map_nil]
      exact (OwN_put ((ho.ext (.new _ ⟨true, t_sfloat32, [v]⟩)).wide (Nat.le_refl _) (by first | omega | (simp only [new_n, put_n]; omega))) ((new_old _ _ _ (by omega)).trans hb) (by decide)).wide hKn (Nat.le_refl _)
theorem s_LiftDeep_law {H : Heap} {v0 v1 : Value} {xs0 xs1 : List Nat} {a0 : Nat} {a2 : Int} (A0 : AF H v0 xs0) (b0 : a0 < 2 ^ 32) (A1 : AF H v1 xs1) (b2 : -9223372036854775808 ≤ a2 ∧ a2 ≤ 9223372036854775807) :
    ACalls Try.prog n_s_LiftDeep [.agg #[v0, .float .f32 a0], v1, .int .i64 a2] H fun r H' => GridR fv t_sfloat32 t_float32 H (deepOk xs0 a0 xs1 a2) (levelsD xs0 a0 xs1 a2.toNat) r H' := by
  refine k_s_LiftDeep.run rfl ?_
  unfold c_s_LiftDeep
  have o0 := A0.rd.one
  simp (disch := first | assumption | omega | rfl | (refine id ?_; simp only [gxD, ne_eq, reduceCtorEq, not_false_eq_true, Nat.reduceAdd, *]; done) | (refine id ?_; simp only [gxD]; omega)) only [↓gxPre, gxPost, ↓reduceIte, Nat.reduceEqDiff, reduceCtorEq, Nat.reduceAdd]
  refine callR_new ?_
  intro G e0 hb n0
  refine callR_pure (s_l02Scheme_ok hb (A0.rd.ext e0) A0.le) (.inl rfl) ?_
  cases h0 : schemeF xs0 a0
  · simp (disch := first | assumption | omega | rfl | (refine id ?_; simp only [gxD, ne_eq, reduceCtorEq, not_false_eq_true, Nat.reduceAdd, *]; done) | (refine id ?_; simp only [gxD]; omega)) only [↓gxPre, gxPost, ↓reduceIte, Nat.reduceEqDiff, reduceCtorEq, Nat.reduceAdd]
    exact .no (by simp only [deepOk, h0, Bool.false_and, Bool.true_and, Bool.and_true, Bool.and_false, Bool.or_true, Bool.true_or, Bool.false_or, Bool.or_false, Bool.and_self, Bool.or_self]) e0
  simp (disch := first | assumption | omega | rfl | (refine id ?_; simp only [gxD, ne_eq, reduceCtorEq, not_false_eq_true, Nat.reduceAdd, *]; done) | (refine id ?_; simp only [gxD]; omega)) only [↓gxPre, gxPost, ↓reduceIte, Nat.reduceEqDiff, reduceCtorEq, Nat.reduceAdd]
  refine callR_pure (s_l02Is_ok (A1.rd.ext e0) A1.le) (.inl rfl) ?_
  cases h1 : isLongF xs1
  · simp (disch := first | assumption | omega | rfl | (refine id ?_; simp only [gxD, ne_eq, reduceCtorEq, not_false_eq_true, Nat.reduceAdd, *]; done) | (refine id ?_; simp only [gxD]; omega)) only [↓gxPre, gxPost, ↓reduceIte, Nat.reduceEqDiff, reduceCtorEq, Nat.reduceAdd]
    exact .no (by simp only [deepOk, h1, Bool.false_and, Bool.true_and, Bool.and_true, Bool.and_false, Bool.or_true, Bool.true_or, Bool.false_or, Bool.or_false, Bool.and_self, Bool.or_self]) e0
  simp (disch := first | assumption | omega | rfl | (refine id ?_; simp only [gxD, ne_eq, reduceCtorEq, not_false_eq_true, Nat.reduceAdd, *]; done) | (refine id ?_; simp only [gxD]; omega)) only [↓gxPre, gxPost, ↓reduceIte, Nat.reduceEqDiff, reduceCtorEq, Nat.reduceAdd]
  refine callR_pure s_l02Levels_ok (.inl rfl) ?_
  cases h2 : within a2 1 6
  · simp (disch := first | assumption | omega | rfl | (refine id ?_; simp only [gxD, ne_eq, reduceCtorEq, not_false_eq_true, Nat.reduceAdd, *]; done) | (refine id ?_; simp only [gxD]; omega)) only [↓gxPre, gxPost, ↓reduceIte, Nat.reduceEqDiff, reduceCtorEq, Nat.reduceAdd]
    exact .no (by simp only [deepOk, h2, Bool.false_and, Bool.true_and, Bool.and_true, Bool.and_false, Bool.or_true, Bool.true_or, Bool.false_or, Bool.or_false, Bool.and_self, Bool.or_self]) e0
  simp (disch := first | assumption | omega | rfl | (refine id ?_; simp only [gxD, ne_eq, reduceCtorEq, not_false_eq_true, Nat.reduceAdd, *]; done) | (refine id ?_; simp only [gxD]; omega)) only [↓gxPre, gxPost, ↓reduceIte, Nat.reduceEqDiff, reduceCtorEq, Nat.reduceAdd]
  refine callR_of (s_l02Deep_ok hb (by omega) e0 ⟨A0.rd.ext e0, A0.le⟩ ⟨A1.rd.ext e0, A1.le⟩ h0 h1 h2) ?_
  rintro _ M ⟨e1, v, rfl, o, q⟩
  simp (disch := first | assumption | omega | rfl | (refine id ?_; simp only [gxD, ne_eq, reduceCtorEq, not_false_eq_true, Nat.reduceAdd, *]; done) | (refine id ?_; simp only [gxD]; omega)) only [↓gxPre, gxPost, ↓reduceIte, Nat.reduceEqDiff, reduceCtorEq, Nat.reduceAdd]
  exact ⟨e1, _, rfl, o, q⟩
end Go.Proofs.Ytkojmlpaamdhoae
