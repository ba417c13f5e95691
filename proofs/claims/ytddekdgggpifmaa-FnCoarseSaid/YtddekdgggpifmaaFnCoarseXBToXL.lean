/- What the functions of the program do: contracts that are proved. -/
import Derived.Test.YtddekdgggpifmaaFnCoarseBToXA
namespace Go.Proofs.Ytddekdgggpifmaa
open Go.Gx
set_option maxRecDepth 100000
set_option linter.unusedSimpArgs false
set_option linter.unusedVariables false

theorem weighDown_zero (ws : List Nat) (p : List Nat × List Nat) : weighDown ws p 0 = p := rfl
theorem weighDown_succ (ws : List Nat) (p : List Nat × List Nat) (i : Nat) : weighDown ws p (i + 1) = weighF (ws.length - 1 - i) (fneg .f32 (ws.getD (ws.length - 1 - i) 0)) (weighDown ws p i) := rfl
def dropOk (ws : List Nat) (sc : Nat) (ev od : List Nat) : Bool := schemeF ws sc && fitF ev.length od.length && (ev.all finF && od.all finF) && (dropF ws sc ev od).all finF
theorem dropF_len (ws : List Nat) (sc : Nat) (ev od : List Nat) : (dropF ws sc ev od).length ≤ 2 * ev.length := by
  unfold dropF
  split
  · omega
  · have h := wovL_len (d := 0) (ev := (weighDown ws (ev.map fun x => fbin .quo .f32 x sc, od.map fun x => fbin .mul .f32 x sc) ws.length).1) (od := (weighDown ws (ev.map fun x => fbin .quo .f32 x sc, od.map fun x => fbin .mul .f32 x sc) ws.length).2) ((weighDown ws (ev.map fun x => fbin .quo .f32 x sc, od.map fun x => fbin .mul .f32 x sc) ws.length).1.length)
    have h2 := (weighDown_len ws (ev.map fun x => fbin .quo .f32 x sc, od.map fun x => fbin .mul .f32 x sc) ws.length).1
    simp only [List.length_map] at h2
    dsimp only
    rw [h2] at h ⊢
    exact h
theorem fit_facts {a b : Nat} (h : fitF a b = true) : 1 ≤ a ∧ (b = a ∨ b + 1 = a) ∧ a + b ≤ 128 := by
  simp only [fitF, Bool.and_eq_true, Bool.or_eq_true, decide_eq_true_eq] at h
  exact ⟨h.1.1, h.1.2, h.2⟩
theorem i_copyOf_ex {H : Heap} {v : Value} {xs : List Nat} (hv : FS H v xs) (hn : xs.length ≤ 2 ^ 40) :
    ACalls Try.prog n_i_copyOf [v] H fun r H' => Ext H H' ∧ r = .slice (some ⟨H.n, 0, none⟩) xs.length xs.length ∧ H'.n = H.n + 1 ∧ H'.blk H.n = some ⟨true, t_float32, xs.map fv⟩ := by
  refine (i_copyOf_ok hv hn).mono ?_
  rintro _ _ ⟨rfl, rfl⟩
  exact ⟨.new _ _, rfl, rfl, new_self _ _⟩
theorem i_woven_f_ok {H : Heap} {v u : Value} {ev od : List Nat} (hv : FS H v ev) (hu : FS H u od) (hn : ev.length ≤ 2 ^ 30) (hm : od.length ≤ 2 ^ 30) :
    ACalls Try.prog n_i_woven_float32_ [v, u] H fun r H' => Ext H H' ∧ H.n + 1 ≤ H'.n ∧ r = .slice (some ⟨H.n, 0, none⟩) (wovL 0 ev od ev.length).length (wovL 0 ev od ev.length).length ∧ H'.blk H.n = some ⟨true, t_float32, (wovL 0 ev od ev.length).map fv⟩ := by
  refine k_i_woven_float32_.run rfl ?_
  unfold c_i_woven_float32_
  simp (disch := first | assumption | omega | rfl | (refine id ?_; simp only [gxD, ne_eq, reduceCtorEq, not_false_eq_true, Nat.reduceAdd, *]; done) | (refine id ?_; simp only [gxD]; omega)) only [↓gxPre, gxPost, ↓reduceIte, Nat.reduceEqDiff, reduceCtorEq, Nat.reduceAdd, hv.len]
  refine loop_forH ev.length (fun i => [u, .slice (some ⟨H.n, 0, none⟩) (wovL 0 ev od i).length (wovL 0 ev od i).length, v, .int .i64 ev.length, .int .i64 i])
    (fun i G => H.n + 1 ≤ G.n ∧ Ext H G ∧ G.blk H.n = some ⟨true, t_float32, (wovL 0 ev od i).map fv⟩) rfl ⟨by simp only [new_n]; omega, ⟨by first | omega | (simp only [new_n, put_n]; omega) | (simp only [new_n, put_n] at *; omega), fun i hi => by simp (disch := first | assumption | omega | rfl | (refine id ?_; simp only [gxD, ne_eq, reduceCtorEq, not_false_eq_true, Nat.reduceAdd, *]; done) | (refine id ?_; simp only [gxD]; omega)) only [↓gxPre, gxPost, ↓reduceIte, Nat.reduceEqDiff, reduceCtorEq, Nat.reduceAdd, *]⟩, by simp (disch := first | assumption | omega | rfl | (refine id ?_; simp only [gxD, ne_eq, reduceCtorEq, not_false_eq_true, Nat.reduceAdd, *]; done) | (refine id ?_; simp only [gxD]; omega)) only [↓gxPre, gxPost, ↓reduceIte, Nat.reduceEqDiff, reduceCtorEq, Nat.reduceAdd]; rfl⟩ ?_ ?_
  · rintro G ⟨hG, hE, hc⟩
    simp (disch := first | assumption | omega | rfl | (refine id ?_; simp only [gxD, ne_eq, reduceCtorEq, not_false_eq_true, Nat.reduceAdd, *]; done) | (refine id ?_; simp only [gxD]; omega)) only [↓gxPre, gxPost, ↓reduceIte, Nat.reduceEqDiff, reduceCtorEq, Nat.reduceAdd, Int.lt_irrefl]
    exact ⟨hE, hG, hc⟩
  · rintro i G hi ⟨hG, hE, hc⟩
    have hv' := hv.ext hE
    have hu' := hu.ext hE
    have hw := wovL_len (d := 0) (ev := ev) (od := od) i
    have l1 : ((wovL 0 ev od i).map fv).length = (wovL 0 ev od i).length := by rw [lMapN]
    have l2 : ((wovL 0 ev od i).map fv ++ [Value.float .f32 (ev.getD i 0)]).length = (wovL 0 ev od i).length + 1 := by simp
    obtain ⟨f1, f2, f3, f4⟩ := push_at (x := .float .f32 (ev.getD i 0)) hE hc (Nat.le_refl _) (by omega) rfl
    by_cases h2 : i < od.length
    · have hc2 : ((i : Nat) : Int) < od.length := by omega
      obtain ⟨g1, g2, g3, g4⟩ := push_at (x := .float .f32 (od.getD i 0)) f1 f2 (Nat.le_refl _) (by rw [f3]; omega) rfl
      have hm5 : (wovL 0 ev od i).map fv ++ [Value.float .f32 (ev.getD i 0)] ++ [Value.float .f32 (od.getD i 0)] = (wovL 0 ev od (i + 1)).map fv := by rw [wovL_both h2, fv_snoc', fv_snoc']
      have hl5 : (wovL 0 ev od (i + 1)).length = (wovL 0 ev od i).length + 1 + 1 := by rw [wovL_both h2]; simp
      simp (disch := first | assumption | omega | rfl | (refine id ?_; simp only [gxD, ne_eq, reduceCtorEq, not_false_eq_true, Nat.reduceAdd, *]; done) | (refine id ?_; simp only [gxD]; omega)) only [↓gxPre, gxPost, ↓reduceIte, Nat.reduceEqDiff, reduceCtorEq, Nat.reduceAdd, hv'.ia, hv'.ld, hu'.len, hc, (hu.ext f1).ia, (hu.ext f1).ld, (hu.ext f1).len, hc2, rd1_at]
      refine ⟨by rw [hl5]; simp, by omega, g1, ?_⟩
      rw [← hm5]
    · have hc2 : ¬ ((i : Nat) : Int) < od.length := by omega
      have hm5 : (wovL 0 ev od i).map fv ++ [Value.float .f32 (ev.getD i 0)] = (wovL 0 ev od (i + 1)).map fv := by rw [wovL_one h2, fv_snoc']
      have hl5 : (wovL 0 ev od (i + 1)).length = (wovL 0 ev od i).length + 1 := by rw [wovL_one h2]; simp
      simp (disch := first | assumption | omega | rfl | (refine id ?_; simp only [gxD, ne_eq, reduceCtorEq, not_false_eq_true, Nat.reduceAdd, *]; done) | (refine id ?_; simp only [gxD]; omega)) only [↓gxPre, gxPost, ↓reduceIte, Nat.reduceEqDiff, reduceCtorEq, Nat.reduceAdd, hv'.ia, hv'.ld, hu'.len, hc, (hu.ext f1).len, hc2]
      refine ⟨by rw [hl5]; simp, by omega, f1, ?_⟩
      rw [← hm5]
theorem i_DropOnce_core {H : Heap} {v0 v1 v2 : Value} {xs0 xs1 xs2 : List Nat} {a0 : Nat} (A0 : RF H v0 xs0) (b0 : a0 < 2 ^ 32) (A1 : RF H v1 xs1) (A2 : RF H v2 xs2) :
    ACalls Try.prog n_i_DropOnce [.agg #[v0, .float .f32 a0], v1, v2] H fun r H' => ListR fv t_float32 H (dropOk xs0 a0 xs1 xs2) (dropF xs0 a0 xs1 xs2) r H' := by
  refine k_i_DropOnce.run rfl ?_
  unfold c_i_DropOnce
  have o0 := A0.rd.one
  have e0 : Ext H (H.new ⟨true, t_Scheme, [v0, .float .f32 a0]⟩) := .new _ _
  have hA1 := A1.le
  have hA2 := A2.le
  simp (disch := first | assumption | omega | rfl | (refine id ?_; simp only [gxD, ne_eq, reduceCtorEq, not_false_eq_true, Nat.reduceAdd, *]; done) | (refine id ?_; simp only [gxD]; omega)) only [↓gxPre, gxPost, ↓reduceIte, Nat.reduceEqDiff, reduceCtorEq, Nat.reduceAdd, A1.rd.len]
  refine callR_ext (i_ValidScheme_ok (A0.rd.ext e0) A0.le) ?_
  intro H1 n1 bb1
  have e1 := e0.trans ⟨n1, bb1⟩
  have hs1 : H1.blk H.n = some ⟨true, t_Scheme, [v0, .float .f32 a0]⟩ := (bb1 _ (by first | omega | (simp only [new_n, put_n]; omega))).trans (by simp (disch := first | assumption | omega | rfl | (refine id ?_; simp only [gxD, ne_eq, reduceCtorEq, not_false_eq_true, Nat.reduceAdd, *]; done) | (refine id ?_; simp only [gxD]; omega)) only [↓gxPre, gxPost, ↓reduceIte, Nat.reduceEqDiff, reduceCtorEq, Nat.reduceAdd])
  simp only [new_n] at n1
  cases h0 : schemeF xs0 a0
  · simp (disch := first | assumption | omega | rfl | (refine id ?_; simp only [gxD, ne_eq, reduceCtorEq, not_false_eq_true, Nat.reduceAdd, *]; done) | (refine id ?_; simp only [gxD]; omega)) only [↓gxPre, gxPost, ↓reduceIte, Nat.reduceEqDiff, reduceCtorEq, Nat.reduceAdd]
    exact .no (by simp only [dropOk, h0, Bool.false_and, Bool.true_and, Bool.and_true, Bool.and_false, Bool.or_true, Bool.true_or, Bool.false_or, Bool.or_false, Bool.and_self, Bool.or_self]) e1
  have h01 : xs0.all finF = true ∧ (1 : Int) ≤ xs0.length ∧ (xs0.length : Int) ≤ 8 := by
    unfold schemeF at h0
    simp only [Bool.and_eq_true] at h0
    exact ⟨h0.1.2, within_true.1 h0.1.1⟩
  obtain ⟨hf0, hs8, hs9⟩ := h01
  cases h1 : fitF xs1.length xs2.length
  · by_cases d1 : (xs1.length : Int) < 1
    · simp (disch := first | assumption | omega | rfl | (refine id ?_; simp only [gxD, ne_eq, reduceCtorEq, not_false_eq_true, Nat.reduceAdd, *]; done) | (refine id ?_; simp only [gxD]; omega)) only [↓gxPre, gxPost, ↓reduceIte, Nat.reduceEqDiff, reduceCtorEq, Nat.reduceAdd, A1.rd.len, A2.rd.len, d1]
      exact .no (by simp only [dropOk, h1, Bool.false_and, Bool.true_and, Bool.and_true, Bool.and_false, Bool.or_true, Bool.true_or, Bool.false_or, Bool.or_false, Bool.and_self, Bool.or_self]) e1
    by_cases d2 : (xs2.length : Int) = xs1.length
    · have d3 : (128 : Int) < xs1.length + xs2.length := by
        simp only [fitF, Bool.and_eq_false_iff, Bool.or_eq_false_iff, decide_eq_false_iff_not] at h1
        omega
      simp (disch := first | assumption | omega | rfl | (refine id ?_; simp only [gxD, ne_eq, reduceCtorEq, not_false_eq_true, Nat.reduceAdd, *]; done) | (refine id ?_; simp only [gxD]; omega)) only [↓gxPre, gxPost, ↓reduceIte, Nat.reduceEqDiff, reduceCtorEq, Nat.reduceAdd, A1.rd.len, A2.rd.len, d1, d2, ne_eq, not_true, not_false_eq_true, Bool.false_and, Bool.true_and, Bool.and_true, Bool.and_false, Bool.or_true, Bool.true_or, Bool.false_or, Bool.or_false, Bool.and_self, Bool.or_self, d3]
      exact .no (by simp only [dropOk, h1, Bool.false_and, Bool.true_and, Bool.and_true, Bool.and_false, Bool.or_true, Bool.true_or, Bool.false_or, Bool.or_false, Bool.and_self, Bool.or_self]) e1
    by_cases d4 : (xs2.length : Int) = xs1.length - 1
    · have d3 : (128 : Int) < xs1.length + xs2.length := by
        simp only [fitF, Bool.and_eq_false_iff, Bool.or_eq_false_iff, decide_eq_false_iff_not] at h1
        omega
      simp (disch := first | assumption | omega | rfl | (refine id ?_; simp only [gxD, ne_eq, reduceCtorEq, not_false_eq_true, Nat.reduceAdd, *]; done) | (refine id ?_; simp only [gxD]; omega)) only [↓gxPre, gxPost, ↓reduceIte, Nat.reduceEqDiff, reduceCtorEq, Nat.reduceAdd, A1.rd.len, A2.rd.len, d1, d2, d4, ne_eq, not_true, not_false_eq_true, Bool.false_and, Bool.true_and, Bool.and_true, Bool.and_false, Bool.or_true, Bool.true_or, Bool.false_or, Bool.or_false, Bool.and_self, Bool.or_self, d3]
      exact .no (by simp only [dropOk, h1, Bool.false_and, Bool.true_and, Bool.and_true, Bool.and_false, Bool.or_true, Bool.true_or, Bool.false_or, Bool.or_false, Bool.and_self, Bool.or_self]) e1
    · simp (disch := first | assumption | omega | rfl | (refine id ?_; simp only [gxD, ne_eq, reduceCtorEq, not_false_eq_true, Nat.reduceAdd, *]; done) | (refine id ?_; simp only [gxD]; omega)) only [↓gxPre, gxPost, ↓reduceIte, Nat.reduceEqDiff, reduceCtorEq, Nat.reduceAdd, A1.rd.len, A2.rd.len, d1, d2, d4, ne_eq, not_true, not_false_eq_true, Bool.false_and, Bool.true_and, Bool.and_true, Bool.and_false, Bool.or_true, Bool.true_or, Bool.false_or, Bool.or_false, Bool.and_self, Bool.or_self]
      exact .no (by simp only [dropOk, h1, Bool.false_and, Bool.true_and, Bool.and_true, Bool.and_false, Bool.or_true, Bool.true_or, Bool.false_or, Bool.or_false, Bool.and_self, Bool.or_self]) e1
  obtain ⟨p1, p2, p3⟩ := fit_facts h1
  have d1 : ¬ (xs1.length : Int) < 1 := by omega
  have d3 : ¬ (128 : Int) < xs1.length + xs2.length := by omega
  have o1 := A1.rd.one
  have o2 := A2.rd.one
  have d2 : ((xs2.length : Int) = xs1.length ∨ (¬ (xs2.length : Int) = xs1.length ∧ (xs2.length : Int) = xs1.length - 1)) := by omega
  have key : ∀ (P : Prop), ((xs2.length : Int) = xs1.length → P) → ((¬ (xs2.length : Int) = xs1.length) → ((xs2.length : Int) = xs1.length - 1) → P) → P := fun P f g => d2.elim f fun h => g h.1 h.2
  refine key _ (fun d2 => ?_) (fun d2 d4 => ?_)
  all_goals first | simp (disch := first | assumption | omega | rfl | (refine id ?_; simp only [gxD, ne_eq, reduceCtorEq, not_false_eq_true, Nat.reduceAdd, *]; done) | (refine id ?_; simp only [gxD]; omega)) only [↓gxPre, gxPost, ↓reduceIte, Nat.reduceEqDiff, reduceCtorEq, Nat.reduceAdd, A1.rd.len, A2.rd.len, d1, d2, d4, d3, ne_eq, not_true, not_false_eq_true, Bool.false_and, Bool.true_and, Bool.and_true, Bool.and_false, Bool.or_true, Bool.true_or, Bool.false_or, Bool.or_false, Bool.and_self, Bool.or_self] | simp (disch := first | assumption | omega | rfl | (refine id ?_; simp only [gxD, ne_eq, reduceCtorEq, not_false_eq_true, Nat.reduceAdd, *]; done) | (refine id ?_; simp only [gxD]; omega)) only [↓gxPre, gxPost, ↓reduceIte, Nat.reduceEqDiff, reduceCtorEq, Nat.reduceAdd, A1.rd.len, A2.rd.len, d1, d2, d3, ne_eq, not_true, not_false_eq_true, Bool.false_and, Bool.true_and, Bool.and_true, Bool.and_false, Bool.or_true, Bool.true_or, Bool.false_or, Bool.or_false, Bool.and_self, Bool.or_self]
  all_goals clear d2
  all_goals try clear d4
  all_goals refine callR_new ?_
  all_goals intro N eN hbN nN
  all_goals (
    have eF := e1.trans eN
    have hsN := (eN.blk _ (by omega)).trans hs1
    have nN1 : H1.n < N.n := by omega
    refine callR_pure (i_areFinite2_ok hbN nN1 (A1.rd.ext eF) (A2.rd.ext eF) A1.le A2.le) (.inl rfl) ?_
    clear hbN nN
    cases h3 : (xs1.all finF && xs2.all finF)
    · simp (disch := first | assumption | omega | rfl | (refine id ?_; simp only [gxD, ne_eq, reduceCtorEq, not_false_eq_true, Nat.reduceAdd, *]; done) | (refine id ?_; simp only [gxD]; omega)) only [↓gxPre, gxPost, ↓reduceIte, Nat.reduceEqDiff, reduceCtorEq, Nat.reduceAdd]
      exact .no (by simp only [dropOk, h3, Bool.false_and, Bool.true_and, Bool.and_true, Bool.and_false, Bool.or_true, Bool.true_or, Bool.false_or, Bool.or_false, Bool.and_self, Bool.or_self]) eF
    simp (disch := first | assumption | omega | rfl | (refine id ?_; simp only [gxD, ne_eq, reduceCtorEq, not_false_eq_true, Nat.reduceAdd, *]; done) | (refine id ?_; simp only [gxD]; omega)) only [↓gxPre, gxPost, ↓reduceIte, Nat.reduceEqDiff, reduceCtorEq, Nat.reduceAdd]
    refine callR_of (i_copyOf_ex (A1.rd.ext eF) A1.le) ?_
    rintro _ P ⟨eP, rfl, nP, hcP⟩
    have eFP := eF.trans eP
    simp (disch := first | assumption | omega | rfl | (refine id ?_; simp only [gxD, ne_eq, reduceCtorEq, not_false_eq_true, Nat.reduceAdd, *]; done) | (refine id ?_; simp only [gxD]; omega)) only [↓gxPre, gxPost, ↓reduceIte, Nat.reduceEqDiff, reduceCtorEq, Nat.reduceAdd]
    refine callR_of (i_copyOf_ex (A2.rd.ext eFP) A2.le) ?_
    rintro _ K ⟨eK', rfl, nK, hd⟩
    have eK := eFP.trans eK'
    have hc := (eK'.blk _ (by omega)).trans hcP
    have hsK := (eK'.blk _ (by omega)).trans ((eP.blk _ (by omega)).trans hsN)
    simp (disch := first | assumption | omega | rfl | (refine id ?_; simp only [gxD, ne_eq, reduceCtorEq, not_false_eq_true, Nat.reduceAdd, *]; done) | (refine id ?_; simp only [gxD]; omega)) only [↓gxPre, gxPost, ↓reduceIte, Nat.reduceEqDiff, reduceCtorEq, Nat.reduceAdd]
    by_cases hz : xs2.length = 0
    · have hz' : ((xs2.length : Nat) : Int) = 0 := by omega
      have hL : dropF xs0 a0 xs1 xs2 = xs1 := by unfold dropF; rw [if_pos hz]
      have h3' : xs1.all finF = true ∧ xs2.all finF = true := by rwa [Bool.and_eq_true] at h3
      have hO : dropOk xs0 a0 xs1 xs2 = true := by simp only [dropOk, hL, h0, h1, h3'.1, h3'.2, Bool.false_and, Bool.true_and, Bool.and_true, Bool.and_false, Bool.or_true, Bool.true_or, Bool.false_or, Bool.or_false, Bool.and_self, Bool.or_self]
      rw [hL, hO]
      simp (disch := first | assumption | omega | rfl | (refine id ?_; simp only [gxD, ne_eq, reduceCtorEq, not_false_eq_true, Nat.reduceAdd, *]; done) | (refine id ?_; simp only [gxD]; omega)) only [↓gxPre, gxPost, ↓reduceIte, Nat.reduceEqDiff, reduceCtorEq, Nat.reduceAdd, hz']
      exact .yes rfl eK (.mk hc (by simp) (by omega) (by omega) (by omega)) (by omega)
    have hz' : ¬ ((xs2.length : Nat) : Int) = 0 := by omega
    simp (disch := first | assumption | omega | rfl | (refine id ?_; simp only [gxD, ne_eq, reduceCtorEq, not_false_eq_true, Nat.reduceAdd, *]; done) | (refine id ?_; simp only [gxD]; omega)) only [↓gxPre, gxPost, ↓reduceIte, Nat.reduceEqDiff, reduceCtorEq, Nat.reduceAdd, hz']
    refine loop_forH xs1.length (fun i => [.pointer (some ⟨H.n, 0, some 2⟩), .slice (some ⟨N.n, 0, none⟩) xs1.length xs1.length, .slice (some ⟨P.n, 0, none⟩) xs2.length xs2.length, .int .i64 xs1.length, .int .i64 i])
      (fun i F => K.n ≤ F.n ∧ F.blk N.n = some ⟨true, t_float32, (quoL a0 xs1 i).map fv⟩ ∧ F.blk P.n = some ⟨true, t_float32, xs2.map fv⟩ ∧ F.blk H.n = some ⟨true, t_Scheme, [v0, .float .f32 a0]⟩ ∧ ∀ j, j < K.n → j ≠ N.n → j ≠ P.n → F.blk j = K.blk j) rfl
      ⟨Nat.le_refl _, by rw [quoL_zero]; exact hc, hd, hsK, fun _ _ _ _ => rfl⟩ ?_ ?_
    rotate_left
    · rintro i F hi ⟨hFn, hfa, hfb, hfs, hFF⟩
      have ht := quoL_at (sc := a0) (xs := xs1) (i := i) (by omega)
      have lm : ((quoL a0 xs1 i).map fv).length = xs1.length := by rw [lMapN, quoL_length]
      simp (disch := first | assumption | omega | rfl | (refine id ?_; simp only [gxD, ne_eq, reduceCtorEq, not_false_eq_true, Nat.reduceAdd, *]; done) | (refine id ?_; simp only [gxD]; omega)) only [↓gxPre, gxPost, ↓reduceIte, Nat.reduceEqDiff, reduceCtorEq, Nat.reduceAdd, hfa, ht, hfs]
      refine ⟨by simp, by simpa using hFn, ?_, hfb, fun j h1 h2 h3 => ?_⟩
      · first | (rw [quoL_set]; done) | (rw [hput_self, quoL_set])
      · first | exact hFF j h1 h2 h3 | rw [hput_other _ _ _ _ h2, hFF j h1 h2 h3]
    rintro F ⟨hFn, hfa, hfb, hfs, hFF⟩
    rw [quoL_all] at hfa
    simp (disch := first | assumption | omega | rfl | (refine id ?_; simp only [gxD, ne_eq, reduceCtorEq, not_false_eq_true, Nat.reduceAdd, *]; done) | (refine id ?_; simp only [gxD]; omega)) only [↓gxPre, gxPost, ↓reduceIte, Nat.reduceEqDiff, reduceCtorEq, Nat.reduceAdd, Int.lt_irrefl]
    refine loop_forH xs2.length (fun i => [.pointer (some ⟨H.n, 0, some 2⟩), .slice (some ⟨N.n, 0, none⟩) xs1.length xs1.length, .slice (some ⟨P.n, 0, none⟩) xs2.length xs2.length, .int .i64 xs2.length, .int .i64 i])
      (fun i F => K.n ≤ F.n ∧ F.blk N.n = some ⟨true, t_float32, (xs1.map fun x => fbin .quo .f32 x a0).map fv⟩ ∧ F.blk P.n = some ⟨true, t_float32, (mulL a0 xs2 i).map fv⟩ ∧ F.blk H.n = some ⟨true, t_Scheme, [v0, .float .f32 a0]⟩ ∧ ∀ j, j < K.n → j ≠ N.n → j ≠ P.n → F.blk j = K.blk j) rfl
      ⟨hFn, hfa, by rw [mulL_zero]; exact hfb, hfs, hFF⟩ ?_ ?_
    rotate_left
    · rintro i F hi ⟨hFn, hfa, hfb, hfs, hFF⟩
      have ht := mulL_at (sc := a0) (xs := xs2) (i := i) (by omega)
      have lm : ((mulL a0 xs2 i).map fv).length = xs2.length := by rw [lMapN, mulL_length]
      simp (disch := first | assumption | omega | rfl | (refine id ?_; simp only [gxD, ne_eq, reduceCtorEq, not_false_eq_true, Nat.reduceAdd, *]; done) | (refine id ?_; simp only [gxD]; omega)) only [↓gxPre, gxPost, ↓reduceIte, Nat.reduceEqDiff, reduceCtorEq, Nat.reduceAdd, hfb, ht, hfs]
      refine ⟨by simp, by simpa using hFn, hfa, ?_, fun j h1 h2 h3 => ?_⟩
      · first | (rw [mulL_set]; done) | (rw [hput_self, mulL_set])
      · first | exact hFF j h1 h2 h3 | rw [hput_other _ _ _ _ h3, hFF j h1 h2 h3]
    clear hFn hfa hfb hfs hFF F
    rintro G ⟨hGn, hga, hgb, hsG, hGF⟩
    rw [mulL_all] at hgb
    have eG : Ext H G := ⟨by have := eK.n; omega, fun j hj => (hGF j (by omega) (by omega) (by omega)).trans (eK.blk j hj)⟩
    have hvG := A0.rd.ext eG
    obtain ⟨p, hp⟩ : ∃ p, p = (xs1.map fun x => fbin .quo .f32 x a0, xs2.map fun x => fbin .mul .f32 x a0) := ⟨_, rfl⟩
    have lp1 : p.1.length = xs1.length := by rw [hp]; simp
    have lp2 : p.2.length = xs2.length := by rw [hp]; simp
    have lw1 : ∀ i, (weighDown xs0 p i).1.length = xs1.length := fun i => (weighDown_len xs0 p i).1.trans lp1
    have lw2 : ∀ i, (weighDown xs0 p i).2.length = xs2.length := fun i => (weighDown_len xs0 p i).2.trans lp2
    simp (disch := first | assumption | omega | rfl | (refine id ?_; simp only [gxD, ne_eq, reduceCtorEq, not_false_eq_true, Nat.reduceAdd, *]; done) | (refine id ?_; simp only [gxD]; omega)) only [↓gxPre, gxPost, ↓reduceIte, Nat.reduceEqDiff, reduceCtorEq, Nat.reduceAdd, Int.lt_irrefl, hsG, hvG.len]
    refine loop_forH xs0.length (fun t => [.pointer (some ⟨H.n, 0, some 2⟩), .slice (some ⟨N.n, 0, none⟩) xs1.length xs1.length, .slice (some ⟨P.n, 0, none⟩) xs2.length xs2.length, .int .i64 ((xs0.length : Int) - 1 - (t : Int))])
      (fun t F => K.n ≤ F.n ∧ F.blk N.n = some ⟨true, t_float32, (weighDown xs0 p t).1.map fv⟩ ∧ F.blk P.n = some ⟨true, t_float32, (weighDown xs0 p t).2.map fv⟩ ∧ ∀ j, j < K.n → j ≠ N.n → j ≠ P.n → F.blk j = K.blk j) (by simp)
      ⟨hGn, by rw [weighDown_zero, hp]; exact hga, by rw [weighDown_zero, hp]; exact hgb, hGF⟩ ?_ ?_
    rotate_left
    · rintro t F ht ⟨hFn, hfa, hfb, hFF⟩
      obtain ⟨k, hk⟩ : ∃ k, k = xs0.length - 1 - t := ⟨_, rfl⟩
      have hki : (xs0.length : Int) - 1 - (t : Int) = (k : Int) := by omega
      have eX : Ext H F := ⟨by have := eK.n; omega, fun j hj => (hFF j (by omega) (by omega) (by omega)).trans (eK.blk j hj)⟩
      have hv := A0.rd.ext eX
      have hfs : F.blk H.n = some ⟨true, t_Scheme, [v0, .float .f32 a0]⟩ := (hFF _ (by omega) (by omega) (by omega)).trans hsK
      have hnan : nanB .f32 (xs0.getD k 0) = false := fin_nan (all_getD.1 hf0 k (by omega))
      have hk0 : (0 : Int) ≤ (k : Int) := by omega
      simp only [hki]
      simp (disch := first | assumption | omega | rfl | (refine id ?_; simp only [gxD, ne_eq, reduceCtorEq, not_false_eq_true, Nat.reduceAdd, *]; done) | (refine id ?_; simp only [gxD]; omega)) only [↓gxPre, gxPost, ↓reduceIte, Nat.reduceEqDiff, reduceCtorEq, Nat.reduceAdd, hfs, hv.ia, hv.ld, hk0]
      refine callR_of (i_weigh_at hfa hfb (lw1 t) (lw2 t) (by omega) (by omega) (by omega) (by omega) (by omega) (by omega) (by omega) hnan (by omega)) ?_
      rintro _ G' ⟨rfl, hn', ha', hb', hF'⟩
      simp (disch := first | assumption | omega | rfl | (refine id ?_; simp only [gxD, ne_eq, reduceCtorEq, not_false_eq_true, Nat.reduceAdd, *]; done) | (refine id ?_; simp only [gxD]; omega)) only [↓gxPre, gxPost, ↓reduceIte, Nat.reduceEqDiff, reduceCtorEq, Nat.reduceAdd]
      refine ⟨by simp; omega, by omega, ?_, ?_, fun j h1 h2 h3 => (hF' j (by omega) h2 h3).trans (hFF j h1 h2 h3)⟩
      · rw [weighDown_succ, ← hk]; simpa using ha'
      · rw [weighDown_succ, ← hk]; simpa using hb'
    rintro M ⟨hMn, hma, hmb, hMF⟩
    have hneg : ¬ (0 : Int) ≤ (xs0.length : Int) - 1 - (xs0.length : Int) := by omega
    have eM : Ext H M := ⟨by have := eK.n; omega, fun j hj => (hMF j (by omega) (by omega) (by omega)).trans (eK.blk j hj)⟩
    obtain ⟨q, hq⟩ : ∃ q, q = weighDown xs0 p xs0.length := ⟨_, rfl⟩
    have lq1 : q.1.length = xs1.length := by rw [hq]; exact lw1 _
    have lq2 : q.2.length = xs2.length := by rw [hq]; exact lw2 _
    rw [← hq] at hma hmb
    have hL : dropF xs0 a0 xs1 xs2 = wovL 0 q.1 q.2 q.1.length := by unfold dropF; rw [if_neg hz, ← hp, ← hq]
    have hwl := wovL_len (d := 0) (ev := q.1) (od := q.2) q.1.length
    have hO : dropOk xs0 a0 xs1 xs2 = (wovL 0 q.1 q.2 q.1.length).all finF := by simp only [dropOk, hL, h0, h1, h3, Bool.false_and, Bool.true_and, Bool.and_true, Bool.and_false, Bool.or_true, Bool.true_or, Bool.false_or, Bool.or_false, Bool.and_self, Bool.or_self]
    rw [hL, hO]
    simp (disch := first | assumption | omega | rfl | (refine id ?_; simp only [gxD, ne_eq, reduceCtorEq, not_false_eq_true, Nat.reduceAdd, *]; done) | (refine id ?_; simp only [gxD]; omega)) only [↓gxPre, gxPost, ↓reduceIte, Nat.reduceEqDiff, reduceCtorEq, Nat.reduceAdd, hneg]
    refine callR_of (i_woven_f_ok (FS.own hma (by omega) lq1) (FS.own hmb (by omega) lq2) (by omega) (by omega)) ?_
    rintro _ W ⟨eW, nW, rfl, hw⟩
    simp (disch := first | assumption | omega | rfl | (refine id ?_; simp only [gxD, ne_eq, reduceCtorEq, not_false_eq_true, Nat.reduceAdd, *]; done) | (refine id ?_; simp only [gxD]; omega)) only [↓gxPre, gxPost, ↓reduceIte, Nat.reduceEqDiff, reduceCtorEq, Nat.reduceAdd]
    refine callR_ext (i_finiteList_ok (FS.own hw (by omega) rfl) (by omega)) ?_
    intro X nX bX
    have eX : Ext W X := ⟨nX, bX⟩
    cases hf : (wovL 0 q.1 q.2 q.1.length).all finF
    · simp (disch := first | assumption | omega | rfl | (refine id ?_; simp only [gxD, ne_eq, reduceCtorEq, not_false_eq_true, Nat.reduceAdd, *]; done) | (refine id ?_; simp only [gxD]; omega)) only [↓gxPre, gxPost, ↓reduceIte, Nat.reduceEqDiff, reduceCtorEq, Nat.reduceAdd, listV]
      exact .no rfl ((eM.trans eW).trans eX)
    · simp (disch := first | assumption | omega | rfl | (refine id ?_; simp only [gxD, ne_eq, reduceCtorEq, not_false_eq_true, Nat.reduceAdd, *]; done) | (refine id ?_; simp only [gxD]; omega)) only [↓gxPre, gxPost, ↓reduceIte, Nat.reduceEqDiff, reduceCtorEq, Nat.reduceAdd, listV]
      have := eM.n
      exact .yes rfl ((eM.trans eW).trans eX) (.mk ((eX.blk _ (by omega)).trans hw) (by simp) (by omega) (by omega) (by omega)) (by omega))
theorem i_DropOnce_law {H : Heap} {v0 v1 v2 : Value} {xs0 xs1 xs2 : List Nat} {a0 : Nat} (A0 : AF H v0 xs0) (b0 : a0 < 2 ^ 32) (A1 : AF H v1 xs1) (A2 : AF H v2 xs2) :
    ACalls Try.prog n_i_DropOnce [.agg #[v0, .float .f32 a0], v1, v2] H fun r H' => ListR fv t_float32 H (dropOk xs0 a0 xs1 xs2) (dropF xs0 a0 xs1 xs2) r H' :=
  i_DropOnce_core ⟨A0.rd, A0.le⟩ b0 ⟨A1.rd, A1.le⟩ ⟨A2.rd, A2.le⟩
theorem wovL_nil (ev od : List Nat) (h : od.length = 0) : wovL 0 ev od ev.length = ev := by
  have h1 : ∀ j, ¬ j < od.length := fun j => by omega
  have h2 := range_getD_map (fun x => x) ev
  simp only [List.map_id'] at h2
  conv => rhs; rw [← h2]
  simp only [wovL, h1, if_false]
  exact List.map_eq_flatMap.symm
theorem new_put1 {H : Heap} {a b c : Blk} : ((H.new a).new b).put (H.n + 1) c = (H.new a).new c := new_put (H := H.new a) ..
end Go.Proofs.Ytddekdgggpifmaa

namespace Go.Proofs.Ytddekdgggpifmaa
open Go.Gx
set_option maxRecDepth 100000
set_option linter.unusedSimpArgs false
set_option linter.unusedVariables false

theorem new_put2 {H : Heap} {a b c : Blk} : ((H.new a).new b).put (H.n + 1) c = (H.new a).new c := new_put (H := H.new a) ..
theorem dropE_length (kind : Int) (ev od : List Int) : (dropE kind ev od).length = ev.length := by simp [dropE]
theorem dropO_length (kind : Int) (ev od : List Int) : (dropO kind ev od).length = od.length := by simp [dropO]
theorem i64_dropE (kind : Int) (ev od : List Int) : I64 (dropE kind ev od) := i64_range _ _ fun j => wr_range _
def dropOkI (kind : Int) (ev od : List Int) : Bool := within kind 0 2 && fitF ev.length od.length && boundF ev 10000000 && boundF od 10000000 && integersF (dropI kind ev od)
theorem fit_facts' {a b : Nat} (h : fitF a b = true) : 1 ≤ a ∧ (b = a ∨ b + 1 = a) ∧ a + b ≤ 128 := by
  simp only [fitF, Bool.and_eq_true, Bool.or_eq_true, decide_eq_true_eq] at h
  exact ⟨h.1.1, h.1.2, h.2⟩
structure RI (H : Heap) (v : Value) (xs : List Int) : Prop where
  rd : IS H v xs
  le : xs.length ≤ 2 ^ 40
end Go.Proofs.Ytddekdgggpifmaa

namespace Go.Proofs.Ytddekdgggpifmaa
open Go.Gx
set_option maxRecDepth 100000
set_option linter.unusedSimpArgs false
set_option linter.unusedVariables false

def zerosF (n : Nat) : List Nat := List.replicate n 0
theorem zerosF_length (n : Nat) : (zerosF n).length = n := by simp [zerosF]
theorem zerosF_map (n : Nat) : List.replicate n (Value.float .f32 0) = (zerosF n).map fv := rep_fv _
theorem zerosF_w (n : Nat) : W32 (zerosF n) := fun j => by
  unfold zerosF
  by_cases h : j < n <;> simp [List.getD_eq_getElem?_getD, h]
theorem zerosF_fin (n : Nat) : (zerosF n).all finF = true := by
  rw [List.all_eq_true]
  intro x hx
  rw [zerosF, List.mem_replicate] at hx
  rw [hx.2]
  decide
def growOk (ws : List Nat) (sc : Nat) (xs : List Nat) : Bool := isLongF xs && (decide (xs.length ≤ 64) && dropOk ws sc xs (zerosF xs.length))
theorem isLong_fin {xs : List Nat} (h : isLongF xs = true) : xs.all finF = true := by
  unfold isLongF at h
  rw [Bool.and_eq_true] at h
  exact h.2
theorem fit_same {n : Nat} (h : 1 ≤ n) (h' : n ≤ 64) : fitF n n = true := by
  unfold fitF
  rw [decide_eq_true h, decide_eq_true (show n = n from rfl), decide_eq_true (show n + n ≤ 128 by omega)]
  rfl
theorem i_GrowList_law {H : Heap} {v0 v1 : Value} {xs0 xs1 : List Nat} {a0 : Nat} (A0 : AF H v0 xs0) (b0 : a0 < 2 ^ 32) (A1 : AF H v1 xs1) :
    ACalls Try.prog n_i_GrowList [.agg #[v0, .float .f32 a0], v1] H fun r H' => ListR fv t_float32 H (growOk xs0 a0 xs1) (dropF xs0 a0 xs1 (zerosF xs1.length)) r H' := by
  refine k_i_GrowList.run rfl ?_
  unfold c_i_GrowList
  have o0 := A0.rd.one
  simp (disch := first | assumption | omega | rfl | (refine id ?_; simp only [gxD, ne_eq, reduceCtorEq, not_false_eq_true, Nat.reduceAdd, *]; done) | (refine id ?_; simp only [gxD]; omega)) only [↓gxPre, gxPost, ↓reduceIte, Nat.reduceEqDiff, reduceCtorEq, Nat.reduceAdd]
  refine callR_new ?_
  intro G e0 hb n0
  refine callR_ext (i_IsList_ok (A1.rd.ext e0) A1.le) ?_
  intro H1 n1 bb1
  have e1 := e0.trans ⟨n1, bb1⟩
  have hb1 := (bb1 _ (by omega)).trans hb
  cases h1 : isLongF xs1
  · simp (disch := first | assumption | omega | rfl | (refine id ?_; simp only [gxD, ne_eq, reduceCtorEq, not_false_eq_true, Nat.reduceAdd, *]; done) | (refine id ?_; simp only [gxD]; omega)) only [↓gxPre, gxPost, ↓reduceIte, Nat.reduceEqDiff, reduceCtorEq, Nat.reduceAdd]
    exact .no (by simp only [growOk, h1, Bool.false_and, Bool.true_and, Bool.and_true, Bool.and_false, Bool.or_true, Bool.true_or, Bool.false_or, Bool.or_false, Bool.and_self, Bool.or_self]) e1
  obtain ⟨hl, hl1⟩ := isLong_len h1
  simp (disch := first | assumption | omega | rfl | (refine id ?_; simp only [gxD, ne_eq, reduceCtorEq, not_false_eq_true, Nat.reduceAdd, *]; done) | (refine id ?_; simp only [gxD]; omega)) only [↓gxPre, gxPost, ↓reduceIte, Nat.reduceEqDiff, reduceCtorEq, Nat.reduceAdd, A1.rd.len]
  by_cases h2 : xs1.length ≤ 64
  rotate_left
  · have h2' : (64 : Int) < xs1.length := by omega
    simp (disch := first | assumption | omega | rfl | (refine id ?_; simp only [gxD, ne_eq, reduceCtorEq, not_false_eq_true, Nat.reduceAdd, *]; done) | (refine id ?_; simp only [gxD]; omega)) only [↓gxPre, gxPost, ↓reduceIte, Nat.reduceEqDiff, reduceCtorEq, Nat.reduceAdd, h2']
    exact .no (by simp only [growOk, decide_eq_false h2, Bool.false_and, Bool.true_and, Bool.and_true, Bool.and_false, Bool.or_true, Bool.true_or, Bool.false_or, Bool.or_false, Bool.and_self, Bool.or_self]) e1
  have h2' : ¬ (64 : Int) < xs1.length := by omega
  have hmk : ∀ G, eMks t_float32 4 (.float .f32 0) (.int .i64 (xs1.length : Int)) (.int .i64 (xs1.length : Int)) G = some (.slice (some ⟨G.n, 0, none⟩) xs1.length xs1.length, G.new ⟨true, t_float32, (zerosF xs1.length).map fv⟩) := fun G => by
    rw [← zerosF_map]
    exact eMks_i (by omega)
  simp (disch := first | assumption | omega | rfl | (refine id ?_; simp only [gxD, ne_eq, reduceCtorEq, not_false_eq_true, Nat.reduceAdd, *]; done) | (refine id ?_; simp only [gxD]; omega)) only [↓gxPre, gxPost, ↓reduceIte, Nat.reduceEqDiff, reduceCtorEq, Nat.reduceAdd, h2', hb1, A1.rd.len, hmk]
  have eZ : Ext H1 (H1.new ⟨true, t_float32, (zerosF xs1.length).map fv⟩) := .new _ _
  have e2 := e1.trans eZ
  refine callR_of (i_DropOnce_law ⟨A0.rd.ext e2, A0.le, A0.w⟩ b0 ⟨A1.rd.ext e2, A1.le, A1.w⟩ ⟨FS.own (new_self _ _) (by first | omega | (simp only [new_n, put_n]; omega)) (zerosF_length _), by rw [zerosF_length]; omega, zerosF_w _⟩) ?_
  rintro _ M ⟨e3, v, rfl, o, q⟩
  have hO : growOk xs0 a0 xs1 = dropOk xs0 a0 xs1 (zerosF xs1.length) := by simp only [growOk, h1, decide_eq_true h2, Bool.false_and, Bool.true_and, Bool.and_true, Bool.and_false, Bool.or_true, Bool.true_or, Bool.false_or, Bool.or_false, Bool.and_self, Bool.or_self]
  rw [hO]
  have hn := e2.n
  simp (disch := first | assumption | omega | rfl | (refine id ?_; simp only [gxD, ne_eq, reduceCtorEq, not_false_eq_true, Nat.reduceAdd, *]; done) | (refine id ?_; simp only [gxD]; omega)) only [↓gxPre, gxPost, ↓reduceIte, Nat.reduceEqDiff, reduceCtorEq, Nat.reduceAdd]
  exact ⟨e2.trans e3, _, rfl, o.wide hn (Nat.le_refl _), q⟩
end Go.Proofs.Ytddekdgggpifmaa

namespace Go.Proofs.Ytddekdgggpifmaa
open Go.Gx
set_option maxRecDepth 100000
set_option linter.unusedSimpArgs false
set_option linter.unusedVariables false

theorem liftF_len1 (ws : List Nat) (sc : Nat) (xs : List Nat) : (liftF ws sc xs).1.length = (xs.length + 1) / 2 := by
  unfold liftF; split
  · exact evL_length _
  · rw [List.length_map, (weighUp_len _ _ _).1]; exact evL_length _
theorem liftF_len2 (ws : List Nat) (sc : Nat) (xs : List Nat) : (liftF ws sc xs).2.length = xs.length / 2 := by
  unfold liftF; split
  · exact odL_length _
  · rw [List.length_map, (weighUp_len _ _ _).2]; exact odL_length _
def nowD (ws : List Nat) (sc : Nat) (xs : List Nat) : Nat → List Nat := foldI (fun _ l => (liftF ws sc l).1) xs
def outD (ws : List Nat) (sc : Nat) (xs : List Nat) (t : Nat) : List (List Nat) := (List.range t).map fun k => (liftF ws sc (nowD ws sc xs k)).2
theorem outD_succ (ws : List Nat) (sc : Nat) (xs : List Nat) (t : Nat) : outD ws sc xs (t + 1) = outD ws sc xs t ++ [(liftF ws sc (nowD ws sc xs t)).2] := by simp [outD, List.range_succ]
theorem nowD_succ (ws : List Nat) (sc : Nat) (xs : List Nat) (t : Nat) : nowD ws sc xs (t + 1) = (liftF ws sc (nowD ws sc xs t)).1 := rfl
theorem nowD_le (ws : List Nat) (sc : Nat) (xs : List Nat) (hx : 1 ≤ xs.length) : ∀ t, 1 ≤ (nowD ws sc xs t).length ∧ (nowD ws sc xs t).length ≤ xs.length
  | 0 => by simp [nowD, foldI_zero, hx]
  | t + 1 => by have := nowD_le ws sc xs hx t; rw [nowD_succ, liftF_len1]; omega
def moreD (ws : List Nat) (sc : Nat) (xs : List Nat) (t : Nat) : Bool := decide (1 < (nowD ws sc xs t).length)
def levelsD (ws : List Nat) (sc : Nat) (xs : List Nat) (n : Nat) : List (List Nat) := outD ws sc xs (stopN (moreD ws sc xs) n) ++ [nowD ws sc xs (stopN (moreD ws sc xs) n)]
theorem outD_len (ws : List Nat) (sc : Nat) (xs : List Nat) (t : Nat) : (outD ws sc xs t).length = t := by simp [outD]
theorem outD_sum (ws : List Nat) (sc : Nat) (xs : List Nat) (h1 : 1 ≤ xs.length) (hx : xs.length ≤ 128) : ∀ t, offN (outD ws sc xs t) t ≤ 129 * t
  | 0 => by simp [offN_zero]
  | t + 1 => by
    have ih := outD_sum ws sc xs h1 hx t
    have h1 := nowD_le ws sc xs h1 t
    have h2 := liftF_len2 ws sc (nowD ws sc xs t)
    rw [outD_succ, offN_succ (by simp [outD_len])]
    have e1 : offN (outD ws sc xs t ++ [(liftF ws sc (nowD ws sc xs t)).2]) t = offN (outD ws sc xs t) t := by
      unfold offN
      rw [List.take_append_of_le_length (by rw [outD_len]; exact Nat.le_refl _)]
    have e2 : (outD ws sc xs t ++ [(liftF ws sc (nowD ws sc xs t)).2]).getD t [] = (liftF ws sc (nowD ws sc xs t)).2 := by
      have := @getD_app_at _ (outD ws sc xs t) ((liftF ws sc (nowD ws sc xs t)).2) []
      rwa [outD_len] at this
    rw [e1, e2]
    omega
theorem levelsD_tot (ws : List Nat) (sc : Nat) (xs : List Nat) (h1 : 1 ≤ xs.length) (hx : xs.length ≤ 128) (n : Nat) (hn : n ≤ 6) : totL (levelsD ws sc xs n) ≤ 2 ^ 40 := by
  have hs := stopN_le (moreD ws sc xs) n
  obtain ⟨t, ht⟩ : ∃ t, t = stopN (moreD ws sc xs) n := ⟨_, rfl⟩
  unfold levelsD
  rw [← ht] at hs ⊢
  have h3 := outD_sum ws sc xs h1 hx t
  have h2 := nowD_le ws sc xs h1 t
  have hl : (outD ws sc xs t ++ [nowD ws sc xs t]).length = t + 1 := by simp [outD_len]
  unfold totL
  rw [hl, offN_succ (by rw [hl]; omega)]
  have e1 : offN (outD ws sc xs t ++ [nowD ws sc xs t]) t = offN (outD ws sc xs t) t := by
    unfold offN
    rw [List.take_append_of_le_length (by rw [outD_len]; exact Nat.le_refl _)]
  have e2 : (outD ws sc xs t ++ [nowD ws sc xs t]).getD t [] = nowD ws sc xs t := by
    have := @getD_app_at _ (outD ws sc xs t) (nowD ws sc xs t) []
    rwa [outD_len] at this
  rw [e1, e2]
  omega
theorem stopN_mono (p : Nat → Bool) (m : Nat) : ∀ d, stopN p m ≤ stopN p (m + d)
  | 0 => Nat.le_refl _
  | d + 1 => by
    have h1 := stopN_mono p m d
    have h2 := stopN_le p (m + d)
    have : stopN p (m + d) ≤ stopN p (m + d + 1) := by
      conv => rhs; unfold stopN
      split <;> omega
    exact Nat.le_trans h1 this
theorem stopN_gt {p : Nat → Bool} {t n : Nat} (h : ∀ k, k ≤ t → p k = true) (hn : t < n) : t < stopN p n := by
  have h1 := stopN_full (p := p) (t + 1) fun s hs => h s (by omega)
  have h2 := stopN_mono p (t + 1) (n - (t + 1))
  rw [show t + 1 + (n - (t + 1)) = n by omega] at h2
  omega
def deepOk (ws : List Nat) (sc : Nat) (xs : List Nat) (n : Int) : Bool := schemeF ws sc && isLongF xs && within n 1 6 && (List.range (stopN (moreD ws sc xs) n.toNat)).all fun k => liftOkF ws sc (nowD ws sc xs k)
theorem deepOk_no {ws : List Nat} {sc : Nat} {xs : List Nat} {n : Int} {t : Nat} (h : t < stopN (moreD ws sc xs) n.toNat) (h' : liftOkF ws sc (nowD ws sc xs t) = false) : deepOk ws sc xs n = false := by
  have : ((List.range (stopN (moreD ws sc xs) n.toNat)).all fun k => liftOkF ws sc (nowD ws sc xs k)) = false := by
    rw [List.all_eq_false]
    exact ⟨t, List.mem_range.2 h, by rw [h']; decide⟩
  unfold deepOk
  rw [this, Bool.and_false]
theorem deepOk_yes {ws : List Nat} {sc : Nat} {xs : List Nat} {n : Int} (h0 : schemeF ws sc = true) (h1 : isLongF xs = true) (h2 : within n 1 6 = true) (h : ∀ k, k < stopN (moreD ws sc xs) n.toNat → liftOkF ws sc (nowD ws sc xs k) = true) : deepOk ws sc xs n = true := by
  unfold deepOk
  rw [h0, h1, h2, Bool.and_self, Bool.and_self, Bool.true_and, List.all_eq_true]
  exact fun k hk => h k (List.mem_range.1 hk)
theorem liftOk_fin {ws : List Nat} {sc : Nat} {xs : List Nat} (hx : isLongF xs = true) (h : liftOkF ws sc xs = true) : isLongF (liftF ws sc xs).1 = true := by
  obtain ⟨hl, hl1⟩ := isLong_len hx
  have hf := isLong_fin hx
  have h1 := liftF_len1 ws sc xs
  unfold isLongF
  rw [within_true.2 (by omega), Bool.true_and]
  unfold liftOkF at h
  rw [Bool.or_eq_true, Bool.and_eq_true, decide_eq_true_eq] at h
  rcases h with h | h
  · unfold liftF
    rw [if_pos h]
    rw [List.all_eq_true] at hf ⊢
    intro x hxm
    simp only [evL, List.mem_map, List.mem_range] at hxm
    obtain ⟨k, hk, rfl⟩ := hxm
    by_cases hk2 : 2 * k < xs.length
    · have : xs.getD (2 * k) 0 = xs[2 * k] := by simp [List.getD_eq_getElem?_getD, hk2]
      rw [this]
      exact hf _ (List.getElem_mem hk2)
    · omega
  · exact h.1
theorem nowD_long {ws : List Nat} {sc : Nat} {xs : List Nat} (hx : isLongF xs = true) : ∀ t, (∀ k, k < t → liftOkF ws sc (nowD ws sc xs k) = true) → isLongF (nowD ws sc xs t) = true
  | 0, _ => hx
  | t + 1, h => by
    rw [nowD_succ]
    exact liftOk_fin (nowD_long hx t fun k hk => h k (by omega)) (h t (by omega))
theorem i_LiftDeep_law {H : Heap} {v0 v1 : Value} {xs0 xs1 : List Nat} {a0 : Nat} {a2 : Int} (A0 : AF H v0 xs0) (b0 : a0 < 2 ^ 32) (A1 : AF H v1 xs1) (b2 : -9223372036854775808 ≤ a2 ∧ a2 ≤ 9223372036854775807) :
    ACalls Try.prog n_i_LiftDeep [.agg #[v0, .float .f32 a0], v1, .int .i64 a2] H fun r H' => GridR fv t_sfloat32 t_float32 H (deepOk xs0 a0 xs1 a2) (levelsD xs0 a0 xs1 a2.toNat) r H' := by
  refine k_i_LiftDeep.run rfl ?_
  unfold c_i_LiftDeep
  have o0 := A0.rd.one
  have e0 : Ext H (H.new ⟨true, t_Scheme, [v0, .float .f32 a0]⟩) := .new _ _
  simp (disch := first | assumption | omega | rfl | (refine id ?_; simp only [gxD, ne_eq, reduceCtorEq, not_false_eq_true, Nat.reduceAdd, *]; done) | (refine id ?_; simp only [gxD]; omega)) only [↓gxPre, gxPost, ↓reduceIte, Nat.reduceEqDiff, reduceCtorEq, Nat.reduceAdd]
  refine callR_ext (i_ValidScheme_ok (A0.rd.ext e0) A0.le) ?_
  intro H1 n1 bb1
  have e1 := e0.trans ⟨n1, bb1⟩
  have hs1 : H1.blk H.n = some ⟨true, t_Scheme, [v0, .float .f32 a0]⟩ := (bb1 _ (by first | omega | (simp only [new_n, put_n]; omega))).trans (by simp (disch := first | assumption | omega | rfl | (refine id ?_; simp only [gxD, ne_eq, reduceCtorEq, not_false_eq_true, Nat.reduceAdd, *]; done) | (refine id ?_; simp only [gxD]; omega)) only [↓gxPre, gxPost, ↓reduceIte, Nat.reduceEqDiff, reduceCtorEq, Nat.reduceAdd])
  simp only [new_n] at n1
  cases h0 : schemeF xs0 a0
  · simp (disch := first | assumption | omega | rfl | (refine id ?_; simp only [gxD, ne_eq, reduceCtorEq, not_false_eq_true, Nat.reduceAdd, *]; done) | (refine id ?_; simp only [gxD]; omega)) only [↓gxPre, gxPost, ↓reduceIte, Nat.reduceEqDiff, reduceCtorEq, Nat.reduceAdd]
    exact .no (by simp only [deepOk, h0, Bool.false_and, Bool.true_and, Bool.and_true, Bool.and_false, Bool.or_true, Bool.true_or, Bool.false_or, Bool.or_false, Bool.and_self, Bool.or_self]) e1
  simp (disch := first | assumption | omega | rfl | (refine id ?_; simp only [gxD, ne_eq, reduceCtorEq, not_false_eq_true, Nat.reduceAdd, *]; done) | (refine id ?_; simp only [gxD]; omega)) only [↓gxPre, gxPost, ↓reduceIte, Nat.reduceEqDiff, reduceCtorEq, Nat.reduceAdd]
  refine callR_ext (i_IsList_ok (A1.rd.ext e1) A1.le) ?_
  intro K n2 bb2
  have eK := e1.trans ⟨n2, bb2⟩
  have hsK : K.blk H.n = some ⟨true, t_Scheme, [v0, .float .f32 a0]⟩ := (bb2 _ (by omega)).trans hs1
  cases h1 : isLongF xs1
  · simp (disch := first | assumption | omega | rfl | (refine id ?_; simp only [gxD, ne_eq, reduceCtorEq, not_false_eq_true, Nat.reduceAdd, *]; done) | (refine id ?_; simp only [gxD]; omega)) only [↓gxPre, gxPost, ↓reduceIte, Nat.reduceEqDiff, reduceCtorEq, Nat.reduceAdd]
    exact .no (by simp only [deepOk, h1, Bool.false_and, Bool.true_and, Bool.and_true, Bool.and_false, Bool.or_true, Bool.true_or, Bool.false_or, Bool.or_false, Bool.and_self, Bool.or_self]) eK
  obtain ⟨hl, hl1⟩ := isLong_len h1
  simp (disch := first | assumption | omega | rfl | (refine id ?_; simp only [gxD, ne_eq, reduceCtorEq, not_false_eq_true, Nat.reduceAdd, *]; done) | (refine id ?_; simp only [gxD]; omega)) only [↓gxPre, gxPost, ↓reduceIte, Nat.reduceEqDiff, reduceCtorEq, Nat.reduceAdd]
  refine callR_pure i_within_ok (.inl rfl) ?_
  cases h2 : within a2 1 6
  · simp (disch := first | assumption | omega | rfl | (refine id ?_; simp only [gxD, ne_eq, reduceCtorEq, not_false_eq_true, Nat.reduceAdd, *]; done) | (refine id ?_; simp only [gxD]; omega)) only [↓gxPre, gxPost, ↓reduceIte, Nat.reduceEqDiff, reduceCtorEq, Nat.reduceAdd]
    exact .no (by simp only [deepOk, h2, Bool.false_and, Bool.true_and, Bool.and_true, Bool.and_false, Bool.or_true, Bool.true_or, Bool.false_or, Bool.or_false, Bool.and_self, Bool.or_self]) eK
  have hw2 := within_true.1 h2
  simp (disch := first | assumption | omega | rfl | (refine id ?_; simp only [gxD, ne_eq, reduceCtorEq, not_false_eq_true, Nat.reduceAdd, *]; done) | (refine id ?_; simp only [gxD]; omega)) only [↓gxPre, gxPost, ↓reduceIte, Nat.reduceEqDiff, reduceCtorEq, Nat.reduceAdd]
  refine callR_new ?_
  intro N eN hbN nN
  refine callR_of (i_copyOf_ex (A1.rd.ext (eK.trans eN)) A1.le) ?_
  rintro _ P ⟨eP, rfl, nP, hcP⟩
  have hKn := eK.n
  simp (disch := first | assumption | omega | rfl | (refine id ?_; simp only [gxD, ne_eq, reduceCtorEq, not_false_eq_true, Nat.reduceAdd, *]; done) | (refine id ?_; simp only [gxD]; omega)) only [↓gxPre, gxPost, ↓reduceIte, Nat.reduceEqDiff, reduceCtorEq, Nat.reduceAdd]
  refine loop_st (σ := Nat × Value) (fun s => [.int .i64 a2, .pointer (some ⟨H.n, 0, some 2⟩), .slice (some ⟨K.n, 0, none⟩) s.1 s.1, s.2, .int .i64 s.1])
    (fun s G => s.1 ≤ a2.toNat ∧ (∀ k, k < s.1 → moreD xs0 a0 xs1 k = true) ∧ (∀ k, k < s.1 → liftOkF xs0 a0 (nowD xs0 a0 xs1 k) = true) ∧ K.n + 1 ≤ G.n ∧ Ext K G ∧ ∃ vs, G.blk K.n = some ⟨true, t_sfloat32, vs⟩ ∧ OwN K.n G.n G t_float32 (vs ++ [s.2]) ((outD xs0 a0 xs1 s.1 ++ [nowD xs0 a0 xs1 s.1]).map (List.map fv)))
    (fun s => a2.toNat - s.1) (0, .slice (some ⟨N.n, 0, none⟩) xs1.length xs1.length) rfl
    ⟨by omega, by intros; omega, by intros; omega, by omega, eN.trans eP, [], (eP.blk _ (by omega)).trans hbN, ?_⟩ ?_
  · refine OwN.nil.snoc (ls := []) (vs := []) (.mk hcP (by simp [nowD, foldI_zero]) (by omega) (by omega) (by omega)) fun i h hi' => by simp at hi'
  · rintro ⟨t, v⟩ G ⟨ht, hmore, hok, hG, hE, vs, hb, ho⟩
    simp only [List.map_append, List.map_cons, List.map_nil] at ho
    simp only at ht hmore hok ho ⊢
    have hlv : vs.length = t := by have := ho.1; simpa [outD_len] using this
    have hv := OwN_last ho
    have hvis := hv.fs
    have hlen := nowD_le xs0 a0 xs1 hl1 t
    have eHG := eK.trans hE
    have hsG : G.blk H.n = some ⟨true, t_Scheme, [v0, .float .f32 a0]⟩ := (hE.blk _ (by omega)).trans hsK
    by_cases c1 : (t : Int) < a2
    · by_cases c2 : (1 : Int) < (nowD xs0 a0 xs1 t).length
      · simp (disch := first | assumption | omega | rfl | (refine id ?_; simp only [gxD, ne_eq, reduceCtorEq, not_false_eq_true, Nat.reduceAdd, *]; done) | (refine id ?_; simp only [gxD]; omega)) only [↓gxPre, gxPost, ↓reduceIte, Nat.reduceEqDiff, reduceCtorEq, Nat.reduceAdd, hvis.len, c1, c2, hsG]
        refine callR_of (i_LiftOnce_core ⟨A0.rd.ext eHG, A0.le⟩ b0 ⟨hvis, by omega⟩) ?_
        rintro _ G1 ⟨e1, x, y, rfl, p, _, _⟩
        have hlng : isLongF (nowD xs0 a0 xs1 t) = true := nowD_long h1 t hok
        have hmt : ∀ k, k ≤ t → moreD xs0 a0 xs1 k = true := fun k hk => by
          by_cases hkt : k = t
          · subst hkt; exact decide_eq_true (by omega)
          · exact hmore k (by omega)
        cases hlo : liftOkF xs0 a0 (nowD xs0 a0 xs1 t)
        · simp only [h0, hlng, Bool.false_and, Bool.true_and, Bool.and_true, Bool.and_false, Bool.or_true, Bool.true_or, Bool.false_or, Bool.or_false, Bool.and_self, Bool.or_self]
          simp (disch := first | assumption | omega | rfl | (refine id ?_; simp only [gxD, ne_eq, reduceCtorEq, not_false_eq_true, Nat.reduceAdd, *]; done) | (refine id ?_; simp only [gxD]; omega)) only [↓gxPre, gxPost, ↓reduceIte, Nat.reduceEqDiff, reduceCtorEq, Nat.reduceAdd]
          exact .no (deepOk_no (stopN_gt hmt (by omega)) hlo) (eHG.trans e1)
        simp only [h0, hlng, hlo, Bool.false_and, Bool.true_and, Bool.and_true, Bool.and_false, Bool.or_true, Bool.true_or, Bool.false_or, Bool.or_false, Bool.and_self, Bool.or_self, selL, if_true] at p ⊢
        have hb1 := (e1.blk K.n (by omega)).trans hb
        have n1 := e1.n
        have q := OwN_two (OwN_init ho) e1 (by omega) p
        obtain ⟨f1, f2, f3, f4⟩ := push_at (x := y) (hE.trans e1) hb1 (Nat.le_refl _) (by omega) rfl
        have q2 : OwN K.n (G1.n + 1) ((G1.new ⟨true, t_sfloat32, [y]⟩).put K.n ⟨true, t_sfloat32, vs ++ [y]⟩) t_float32 _ _ :=
          OwN_put ((q.ext (.new _ ⟨true, t_sfloat32, [y]⟩)).wide (Nat.le_refl _) (by omega)) ((new_old _ _ _ (by omega)).trans hb1) (by decide)
        have oy := p.snd.one
        simp (disch := first | assumption | omega | rfl | (refine id ?_; simp only [gxD, ne_eq, reduceCtorEq, not_false_eq_true, Nat.reduceAdd, *]; done) | (refine id ?_; simp only [gxD]; omega)) only [↓gxPre, gxPost, ↓reduceIte, Nat.reduceEqDiff, reduceCtorEq, Nat.reduceAdd, hb1]
        refine ⟨(t + 1, x), by simp only; omega, by simp, by simp only; omega, fun k hk => hmt k (by simp only at hk; omega), fun k hk => ?_, by omega, f1, _, rfl, ?_⟩
        · by_cases hkt : k = t
          · subst hkt; exact hlo
          · exact hok k (by simp only at hk; omega)
        · simp only [outD_succ, nowD_succ, List.map_append, List.map_cons, List.map_nil]
          exact q2
      · have hst : stopN (moreD xs0 a0 xs1) a2.toNat = t := stopN_eq hmore _ ht fun _ => decide_eq_false (by omega)
        obtain ⟨f1, f2, f3, f4⟩ := push_at (x := v) hE hb (Nat.le_refl _) (by omega) rfl
        have ov := hv.one
        simp (disch := first | assumption | omega | rfl | (refine id ?_; simp only [gxD, ne_eq, reduceCtorEq, not_false_eq_true, Nat.reduceAdd, *]; done) | (refine id ?_; simp only [gxD]; omega)) only [↓gxPre, gxPost, ↓reduceIte, Nat.reduceEqDiff, reduceCtorEq, Nat.reduceAdd, hvis.len, c1, c2, hb]
        have hres : levelsD xs0 a0 xs1 a2.toNat = outD xs0 a0 xs1 t ++ [nowD xs0 a0 xs1 t] := by unfold levelsD; rw [hst]
        refine .yes (deepOk_yes h0 h1 h2 fun k hk => hok k (by omega)) (eK.trans f1) ⟨vs ++ [v], .mk f2 (by simp [hlv]) (by first | omega | (simp only [new_n, put_n]; omega)) (by first | omega | (simp only [new_n, put_n]; omega)) (by first | omega | (simp only [new_n, put_n]; omega)), ?_⟩ (levelsD_tot xs0 a0 xs1 hl1 hl _ (by omega))
        rw [hres]
        simp only [List.map_append, List.map_cons, List.map_nil]
        exact (OwN_put ((ho.ext (.new _ ⟨true, t_sfloat32, [v]⟩)).wide (Nat.le_refl _) (by first | omega | (simp only [new_n, put_n]; omega))) ((new_old _ _ _ (by omega)).trans hb) (by decide)).wide hKn (Nat.le_refl _)
    · have hst : stopN (moreD xs0 a0 xs1) a2.toNat = t := stopN_eq hmore _ ht fun h => by omega
      obtain ⟨f1, f2, f3, f4⟩ := push_at (x := v) hE hb (Nat.le_refl _) (by omega) rfl
      have ov := hv.one
      simp (disch := first | assumption | omega | rfl | (refine id ?_; simp only [gxD, ne_eq, reduceCtorEq, not_false_eq_true, Nat.reduceAdd, *]; done) | (refine id ?_; simp only [gxD]; omega)) only [↓gxPre, gxPost, ↓reduceIte, Nat.reduceEqDiff, reduceCtorEq, Nat.reduceAdd, hvis.len, c1, hb]
      have hres : levelsD xs0 a0 xs1 a2.toNat = outD xs0 a0 xs1 t ++ [nowD xs0 a0 xs1 t] := by unfold levelsD; rw [hst]
      refine .yes (deepOk_yes h0 h1 h2 fun k hk => hok k (by omega)) (eK.trans f1) ⟨vs ++ [v], .mk f2 (by simp [hlv]) (by first | omega | (simp only [new_n, put_n]; omega)) (by first | omega | (simp only [new_n, put_n]; omega)) (by first | omega | (simp only [new_n, put_n]; omega)), ?_⟩ (levelsD_tot xs0 a0 xs1 hl1 hl _ (by omega))
      rw [hres]
      simp only [List.map_append, List.map_cons, List.map_nil]
      exact (OwN_put ((ho.ext (.new _ ⟨true, t_sfloat32, [v]⟩)).wide (Nat.le_refl _) (by first | omega | (simp only [new_n, put_n]; omega))) ((new_old _ _ _ (by omega)).trans hb) (by decide)).wide hKn (Nat.le_refl _)
end Go.Proofs.Ytddekdgggpifmaa

namespace Go.Proofs.Ytddekdgggpifmaa
open Go.Gx
set_option maxRecDepth 100000
set_option linter.unusedSimpArgs false
set_option linter.unusedVariables false

theorem wovL_len' {α : Type} {d : α} {ev od : List α} : ∀ i, (wovL d ev od i).length = i + min i od.length
  | 0 => by simp [wovL]
  | i + 1 => by
    have := wovL_len' (d := d) (ev := ev) (od := od) i
    by_cases h : i < od.length
    · rw [wovL_both h]; simp; omega
    · rw [wovL_one h]; simp; omega
theorem dropF_len' (ws : List Nat) (sc : Nat) {ev od : List Nat} (h : od.length ≤ ev.length) : (dropF ws sc ev od).length = ev.length + od.length := by
  unfold dropF
  split
  · omega
  · dsimp only
    have h1 := (weighDown_len ws (ev.map fun x => fbin .quo .f32 x sc, od.map fun x => fbin .mul .f32 x sc) ws.length).1
    have h2 := (weighDown_len ws (ev.map fun x => fbin .quo .f32 x sc, od.map fun x => fbin .mul .f32 x sc) ws.length).2
    simp only [List.length_map] at h1 h2
    rw [wovL_len', h1, h2]
    omega
theorem sizes_at {sz : List Nat} (h : sizesF sz = true) : 1 ≤ sz.length ∧ sz.length ≤ 7 ∧ 1 ≤ sz.getD (sz.length - 1) 0 ∧ ∀ j, j < sz.length - 1 → sizeAt sz j = true := by
  unfold sizesF at h
  simp only [Bool.and_eq_true, decide_eq_true_eq, List.all_eq_true, List.mem_range] at h
  have := within_true.1 h.1.1.1
  exact ⟨by omega, by omega, h.1.1.2, fun j hj => h.2 j hj⟩
theorem suf_pos {sz : List Nat} (h : sizesF sz = true) {k : Nat} (hk : k ≤ sz.length - 1) : 1 ≤ sufS sz k := by
  obtain ⟨h1, h2, h3, h4⟩ := sizes_at h
  have := sufS_le sz (i := k) (j := sz.length - 1) hk
  rw [sufS_last (by omega)] at this
  omega
theorem sizes_fit {sz : List Nat} (h : sizesF sz = true) {k : Nat} (hk : k < sz.length - 1) : fitF (sufS sz (k + 1)) (sz.getD k 0) = true := by
  obtain ⟨h1, h2, h3, h4⟩ := sizes_at h
  have h5 := size_fit (sz := sz) (k := k) (by omega) (suf_pos h (by omega))
  rw [h4 k hk, Bool.and_eq_true] at h5
  exact h5.2
theorem sizes_len (xss : List (List Nat)) (k : Nat) : (xss.map List.length).getD k 0 = (xss.getD k []).length := by
  by_cases h : k < xss.length <;> simp [List.getD_eq_getElem?_getD, h]
def dropD (ws : List Nat) (sc : Nat) (xss : List (List Nat)) : Nat → List Nat := foldI (fun t l => dropF ws sc l (xss.getD (xss.length - 2 - t) [])) (xss.getD (xss.length - 1) [])
theorem dropD_zero (ws : List Nat) (sc : Nat) (xss : List (List Nat)) : dropD ws sc xss 0 = xss.getD (xss.length - 1) [] := rfl
theorem dropD_succ (ws : List Nat) (sc : Nat) (xss : List (List Nat)) (t : Nat) : dropD ws sc xss (t + 1) = dropF ws sc (dropD ws sc xss t) (xss.getD (xss.length - 2 - t) []) := rfl
def unOk (ws : List Nat) (sc : Nat) (xss : List (List Nat)) : Bool := schemeF ws sc && bandsF xss && (List.range (xss.length - 1)).all fun t => (dropD ws sc xss (t + 1)).all finF
theorem dropD_len {ws : List Nat} {sc : Nat} {xss : List (List Nat)} (h : sizesF (xss.map List.length) = true) : ∀ t, t ≤ xss.length - 1 → (dropD ws sc xss t).length = sufS (xss.map List.length) (xss.length - 1 - t)
  | 0, _ => by
    have := sufS_last (sz := xss.map List.length) (by have := (sizes_at h).1; omega)
    rw [List.length_map] at this
    rw [Nat.sub_zero, this, sizes_len]; rfl
  | t + 1, ht => by
    have ih := dropD_len (ws := ws) (sc := sc) h t (by omega)
    have hf := fit_facts (sizes_fit h (k := xss.length - 2 - t) (by rw [List.length_map]; omega))
    rw [show xss.length - 2 - t + 1 = xss.length - 1 - t by omega, sizes_len] at hf
    have hs := sufS_succ (sz := xss.map List.length) (i := xss.length - 2 - t) (by rw [List.length_map]; omega)
    rw [show xss.length - 2 - t + 1 = xss.length - 1 - t by omega, sizes_len] at hs
    rw [dropD_succ, dropF_len' _ _ (by omega), ih, show xss.length - 1 - (t + 1) = xss.length - 2 - t by omega, hs]
    omega
theorem dropD_fit {ws : List Nat} {sc : Nat} {xss : List (List Nat)} (h : sizesF (xss.map List.length) = true) {t : Nat} (ht : t < xss.length - 1) : fitF (dropD ws sc xss t).length (xss.getD (xss.length - 2 - t) []).length = true := by
  have hf := sizes_fit h (k := xss.length - 2 - t) (by rw [List.length_map]; omega)
  rwa [show xss.length - 2 - t + 1 = xss.length - 1 - t by omega, sizes_len, ← dropD_len (ws := ws) (sc := sc) h t (by omega)] at hf
theorem bands_sizes {xss : List (List Nat)} (h : bandsF xss = true) : sizesF (xss.map List.length) = true := by
  unfold bandsF at h
  rw [Bool.and_eq_true] at h
  exact h.1
theorem dropD_fin {ws : List Nat} {sc : Nat} {xss : List (List Nat)} (h : bandsF xss = true) : ∀ t, (∀ k, k < t → (dropD ws sc xss (k + 1)).all finF = true) → (dropD ws sc xss t).all finF = true
  | 0, _ => bandsF_fin h _ (by have := (bandsF_len h).1; omega)
  | t + 1, hk => hk t (by omega)
theorem dropD_ok {ws : List Nat} {sc : Nat} {xss : List (List Nat)} (h0 : schemeF ws sc = true) (h : bandsF xss = true) {t : Nat} (ht : t < xss.length - 1) (hk : ∀ k, k < t → (dropD ws sc xss (k + 1)).all finF = true) : dropOk ws sc (dropD ws sc xss t) (xss.getD (xss.length - 2 - t) []) = (dropD ws sc xss (t + 1)).all finF := by
  unfold dropOk
  rw [h0, dropD_fit (bands_sizes h) ht, dropD_fin h t hk, bandsF_fin h _ (by omega), Bool.and_self, Bool.and_self, Bool.true_and, dropD_succ]
theorem unOk_no {ws : List Nat} {sc : Nat} {xss : List (List Nat)} {t : Nat} (ht : t < xss.length - 1) (h : (dropD ws sc xss (t + 1)).all finF = false) : unOk ws sc xss = false := by
  have : ((List.range (xss.length - 1)).all fun t => (dropD ws sc xss (t + 1)).all finF) = false := by
    rw [List.all_eq_false]
    exact ⟨t, List.mem_range.2 ht, by rw [h]; decide⟩
  unfold unOk
  rw [this, Bool.and_false]
theorem unOk_yes {ws : List Nat} {sc : Nat} {xss : List (List Nat)} (h0 : schemeF ws sc = true) (h1 : bandsF xss = true) (h : ∀ k, k < xss.length - 1 → (dropD ws sc xss (k + 1)).all finF = true) : unOk ws sc xss = true := by
  unfold unOk
  rw [h0, h1, Bool.and_self, Bool.true_and, List.all_eq_true]
  exact fun k hk => h k (List.mem_range.1 hk)
theorem dropD_le {ws : List Nat} {sc : Nat} {xss : List (List Nat)} (h : bandsF xss = true) {t : Nat} (ht : t ≤ xss.length - 1) : (dropD ws sc xss t).length ≤ 128 := by
  have hs := bands_sizes h
  by_cases hz : xss.length = 1
  · have h0 : t = 0 := by omega
    subst h0
    unfold bandsF sizesF at h
    simp only [Bool.and_eq_true, Bool.or_eq_true, decide_eq_true_eq, List.length_map, sizes_len] at h
    have := h.1.1.2
    rw [dropD_zero, show xss.length - 1 = 0 by omega]
    omega
  · have h1 := (sizes_at hs).1
    rw [List.length_map] at h1
    have h2 := (sizes_at hs).2.2.2 0 (by rw [List.length_map]; omega)
    simp only [sizeAt, Bool.and_eq_true, decide_eq_true_eq] at h2
    have h3 := sufS_le (xss.map List.length) (i := 0) (j := xss.length - 1 - t) (by omega)
    rw [dropD_len hs t ht]
    omega
structure RS (H : Heap) (v : Value) (xss : List (List Nat)) : Prop where
  rd : SS H v xss
  le : totL xss ≤ 2 ^ 40
theorem i_DropDeep_core {H : Heap} {v0 v1 : Value} {xs0 : List Nat} {xs1 : List (List Nat)} {a0 : Nat} (A0 : RF H v0 xs0) (b0 : a0 < 2 ^ 32) (A1 : RS H v1 xs1) :
    ACalls Try.prog n_i_DropDeep [.agg #[v0, .float .f32 a0], v1] H fun r H' => ListR fv t_float32 H (unOk xs0 a0 xs1) (dropD xs0 a0 xs1 (xs1.length - 1)) r H' := by
  have hm := A1.le
  refine k_i_DropDeep.run rfl ?_
  unfold c_i_DropDeep
  have o0 := A0.rd.one
  have e0 : Ext H (H.new ⟨true, t_Scheme, [v0, .float .f32 a0]⟩) := .new _ _
  simp (disch := first | assumption | omega | rfl | (refine id ?_; simp only [gxD, ne_eq, reduceCtorEq, not_false_eq_true, Nat.reduceAdd, *]; done) | (refine id ?_; simp only [gxD]; omega)) only [↓gxPre, gxPost, ↓reduceIte, Nat.reduceEqDiff, reduceCtorEq, Nat.reduceAdd]
  refine callR_ext (i_ValidScheme_ok (A0.rd.ext e0) A0.le) ?_
  intro H1 n1 bb1
  have e1 := e0.trans ⟨n1, bb1⟩
  have hs1 : H1.blk H.n = some ⟨true, t_Scheme, [v0, .float .f32 a0]⟩ := (bb1 _ (by first | omega | (simp only [new_n, put_n]; omega))).trans (by simp (disch := first | assumption | omega | rfl | (refine id ?_; simp only [gxD, ne_eq, reduceCtorEq, not_false_eq_true, Nat.reduceAdd, *]; done) | (refine id ?_; simp only [gxD]; omega)) only [↓gxPre, gxPost, ↓reduceIte, Nat.reduceEqDiff, reduceCtorEq, Nat.reduceAdd])
  simp only [new_n] at n1
  cases h0 : schemeF xs0 a0
  · simp (disch := first | assumption | omega | rfl | (refine id ?_; simp only [gxD, ne_eq, reduceCtorEq, not_false_eq_true, Nat.reduceAdd, *]; done) | (refine id ?_; simp only [gxD]; omega)) only [↓gxPre, gxPost, ↓reduceIte, Nat.reduceEqDiff, reduceCtorEq, Nat.reduceAdd]
    exact .no (by simp only [unOk, h0, Bool.false_and, Bool.true_and, Bool.and_true, Bool.and_false, Bool.or_true, Bool.true_or, Bool.false_or, Bool.or_false, Bool.and_self, Bool.or_self]) e1
  simp (disch := first | assumption | omega | rfl | (refine id ?_; simp only [gxD, ne_eq, reduceCtorEq, not_false_eq_true, Nat.reduceAdd, *]; done) | (refine id ?_; simp only [gxD]; omega)) only [↓gxPre, gxPost, ↓reduceIte, Nat.reduceEqDiff, reduceCtorEq, Nat.reduceAdd]
  refine callR_ext (i_AreBands_ok (A1.rd.ext e1) A1.le) ?_
  intro K n2 bb2
  have eK := e1.trans ⟨n2, bb2⟩
  have hsK : K.blk H.n = some ⟨true, t_Scheme, [v0, .float .f32 a0]⟩ := (bb2 _ (by omega)).trans hs1
  cases h1 : bandsF xs1
  · simp (disch := first | assumption | omega | rfl | (refine id ?_; simp only [gxD, ne_eq, reduceCtorEq, not_false_eq_true, Nat.reduceAdd, *]; done) | (refine id ?_; simp only [gxD]; omega)) only [↓gxPre, gxPost, ↓reduceIte, Nat.reduceEqDiff, reduceCtorEq, Nat.reduceAdd]
    exact .no (by simp only [unOk, h1, Bool.false_and, Bool.true_and, Bool.and_true, Bool.and_false, Bool.or_true, Bool.true_or, Bool.false_or, Bool.or_false, Bool.and_self, Bool.or_self]) eK
  obtain ⟨hn1, hn7⟩ := bandsF_len h1
  obtain ⟨us, hu, hul, hus⟩ := A1.rd
  have huK := hu.ext eK
  have e1t : ((xs1.length : Int) - 1).toNat = xs1.length - 1 := by omega
  simp (disch := first | assumption | omega | rfl | (refine id ?_; simp only [gxD, ne_eq, reduceCtorEq, not_false_eq_true, Nat.reduceAdd, *]; done) | (refine id ?_; simp only [gxD]; omega)) only [↓gxPre, gxPost, ↓reduceIte, Nat.reduceEqDiff, reduceCtorEq, Nat.reduceAdd, huK.len, huK.ia, huK.ldD, hul, e1t]
  refine callR_of (i_copyOf_ex ((hus (xs1.length - 1) (by omega)).ext eK) (totL_row hm _)) ?_
  rintro _ P ⟨eP, rfl, nP, hcP⟩
  have hKn := eK.n
  have huP := huK.ext eP
  simp (disch := first | assumption | omega | rfl | (refine id ?_; simp only [gxD, ne_eq, reduceCtorEq, not_false_eq_true, Nat.reduceAdd, *]; done) | (refine id ?_; simp only [gxD]; omega)) only [↓gxPre, gxPost, ↓reduceIte, Nat.reduceEqDiff, reduceCtorEq, Nat.reduceAdd, huP.len, hul]
  refine loop_st (σ := Nat × Value) (fun s => [v1, .pointer (some ⟨H.n, 0, some 2⟩), s.2, .int .i64 ((xs1.length : Int) - 2 - s.1)])
    (fun s G => s.1 ≤ xs1.length - 1 ∧ (∀ k, k < s.1 → (dropD xs0 a0 xs1 (k + 1)).all finF = true) ∧ Ext K G ∧ OwL K.n G.n G t_float32 s.2 ((dropD xs0 a0 xs1 s.1).map fv))
    (fun s => xs1.length - s.1) (0, .slice (some ⟨K.n, 0, none⟩) (xs1.getD (xs1.length - 1) []).length (xs1.getD (xs1.length - 1) []).length) (by simp)
    ⟨by omega, by intros; omega, eP, .mk hcP (by rw [lMapN, dropD_zero]) (by omega) (by omega) (by have := totL_row hm (xs1.length - 1); omega)⟩ ?_
  rintro ⟨t, v⟩ G ⟨ht, hok, hE, ho⟩
  simp only at ht hok ho ⊢
  have eHG := eK.trans hE
  have huG := hu.ext eHG
  have hsG : G.blk H.n = some ⟨true, t_Scheme, [v0, .float .f32 a0]⟩ := (hE.blk _ (by omega)).trans hsK
  have hle := dropD_le (ws := xs0) (sc := a0) h1 (t := t) ht
  by_cases c1 : t < xs1.length - 1
  · obtain ⟨k, hk⟩ : ∃ k, k = xs1.length - 2 - t := ⟨_, rfl⟩
    have hki : (xs1.length : Int) - 2 - (t : Int) = (k : Int) := by omega
    have hk0 : (0 : Int) ≤ (k : Int) := by omega
    rw [hki]
    simp (disch := first | assumption | omega | rfl | (refine id ?_; simp only [gxD, ne_eq, reduceCtorEq, not_false_eq_true, Nat.reduceAdd, *]; done) | (refine id ?_; simp only [gxD]; omega)) only [↓gxPre, gxPost, ↓reduceIte, Nat.reduceEqDiff, reduceCtorEq, Nat.reduceAdd, hk0, hsG, huG.ia, huG.ldD, hul]
    refine callR_of (i_DropOnce_core ⟨A0.rd.ext eHG, A0.le⟩ b0 ⟨ho.fs, by omega⟩ ⟨(hus k (by omega)).ext eHG, totL_row hm k⟩) ?_
    rintro _ G1 ⟨e1, x, rfl, p, _⟩
    rw [hk, dropD_ok h0 h1 c1 hok, ← hk] at *
    have hEn := hE.n
    cases hf : (dropD xs0 a0 xs1 (t + 1)).all finF
    · simp (disch := first | assumption | omega | rfl | (refine id ?_; simp only [gxD, ne_eq, reduceCtorEq, not_false_eq_true, Nat.reduceAdd, *]; done) | (refine id ?_; simp only [gxD]; omega)) only [↓gxPre, gxPost, ↓reduceIte, Nat.reduceEqDiff, reduceCtorEq, Nat.reduceAdd]
      exact .no (unOk_no c1 hf) (eHG.trans e1)
    simp (disch := first | assumption | omega | rfl | (refine id ?_; simp only [gxD, ne_eq, reduceCtorEq, not_false_eq_true, Nat.reduceAdd, *]; done) | (refine id ?_; simp only [gxD]; omega)) only [↓gxPre, gxPost, ↓reduceIte, Nat.reduceEqDiff, reduceCtorEq, Nat.reduceAdd]
    refine ⟨(t + 1, x), by simp only; omega, by simp; omega, by simp only; omega, fun j hj => ?_, hE.trans e1, ?_⟩
    · by_cases hjt : j = t
      · subst hjt; exact hf
      · exact hok j (by simp only at hj; omega)
    · simp only [hf, selL, if_true] at p
      rw [hk] at p
      exact p.wide hEn (Nat.le_refl _)
  · have hte : t = xs1.length - 1 := by omega
    have hneg : ¬ (0 : Int) ≤ (xs1.length : Int) - 2 - (t : Int) := by omega
    simp (disch := first | assumption | omega | rfl | (refine id ?_; simp only [gxD, ne_eq, reduceCtorEq, not_false_eq_true, Nat.reduceAdd, *]; done) | (refine id ?_; simp only [gxD]; omega)) only [↓gxPre, gxPost, ↓reduceIte, Nat.reduceEqDiff, reduceCtorEq, Nat.reduceAdd, hneg]
    rw [← hte]
    exact .yes (unOk_yes h0 h1 fun k hk => hok k (by omega)) eHG (ho.wide hKn (Nat.le_refl _)) (by omega)
theorem i_DropDeep_law {H : Heap} {v0 v1 : Value} {xs0 : List Nat} {xs1 : List (List Nat)} {a0 : Nat} (A0 : AF H v0 xs0) (b0 : a0 < 2 ^ 32) (A1 : AS H v1 xs1) :
    ACalls Try.prog n_i_DropDeep [.agg #[v0, .float .f32 a0], v1] H fun r H' => ListR fv t_float32 H (unOk xs0 a0 xs1) (dropD xs0 a0 xs1 (xs1.length - 1)) r H' :=
  i_DropDeep_core ⟨A0.rd, A0.le⟩ b0 ⟨A1.rd, A1.le⟩
end Go.Proofs.Ytddekdgggpifmaa

namespace Go.Proofs.Ytddekdgggpifmaa
open Go.Gx
set_option maxRecDepth 100000
set_option linter.unusedSimpArgs false
set_option linter.unusedVariables false

def sizeJ (xss : List (List Int)) (i : Nat) : List Nat := (List.range i).map fun j => (xss.getD j []).length
theorem sizeJ_length (xss : List (List Int)) (i : Nat) : (sizeJ xss i).length = i := by simp [sizeJ]
theorem sizeJ_succ (xss : List (List Int)) (i : Nat) : sizeJ xss (i + 1) = sizeJ xss i ++ [(xss.getD i []).length] := by simp [sizeJ, List.range_succ]
theorem sizesJ_len (xss : List (List Int)) (k : Nat) : (xss.map List.length).getD k 0 = (xss.getD k []).length := by
  by_cases h : k < xss.length <;> simp [List.getD_eq_getElem?_getD, h]
theorem sizeJ_all (xss : List (List Int)) : sizeJ xss xss.length = xss.map List.length := by
  refine list_ext_getD 0 (by simp [sizeJ]) fun j hj => ?_
  have hj' : j < xss.length := by simpa [sizeJ] using hj
  rw [sizesJ_len, sizeJ, getD_range_map hj']
theorem sizesJ_le {xss : List (List Int)} (hm : totL xss ≤ 2 ^ 40) (j : Nat) : (xss.map List.length).getD j 0 ≤ 2 ^ 40 := by
  rw [sizesJ_len]; exact totL_row hm j
theorem sizesJ_sum (xss : List (List Int)) (hm : totL xss ≤ 2 ^ 40) : sufS (xss.map List.length) 0 ≤ 2 ^ 40 := by
  have : sufS (xss.map List.length) 0 = offN xss xss.length := by simp [sufS, offN]
  rw [this]
  unfold totL at hm
  omega
theorem sizesJ_n {sz : List Nat} (h : sizesF sz = true) : 1 ≤ sz.length ∧ sz.length ≤ 7 := by
  unfold sizesF at h
  simp only [Bool.and_eq_true] at h
  have := within_true.1 h.1.1.1
  omega
def dropV (kind : Int) (xss : List (List Int)) : Nat → List Int := foldI (fun t l => dropI kind l (xss.getD (xss.length - 2 - t) [])) (xss.getD (xss.length - 1) [])
theorem dropV_zero (kind : Int) (xss : List (List Int)) : dropV kind xss 0 = xss.getD (xss.length - 1) [] := rfl
theorem dropV_succ (kind : Int) (xss : List (List Int)) (t : Nat) : dropV kind xss (t + 1) = dropI kind (dropV kind xss t) (xss.getD (xss.length - 2 - t) []) := rfl
def levOk (kind : Int) (xss : List (List Int)) : Bool := within kind 0 2 && sizesF (xss.map List.length) && ((List.range (xss.length - 1)).all fun t => dropOkI kind (dropV kind xss t) (xss.getD (xss.length - 2 - t) [])) && integersF (dropV kind xss (xss.length - 1))
theorem levOk_no {kind : Int} {xss : List (List Int)} {t : Nat} (ht : t < xss.length - 1) (h : dropOkI kind (dropV kind xss t) (xss.getD (xss.length - 2 - t) []) = false) : levOk kind xss = false := by
  have : ((List.range (xss.length - 1)).all fun t => dropOkI kind (dropV kind xss t) (xss.getD (xss.length - 2 - t) [])) = false := by
    rw [List.all_eq_false]
    exact ⟨t, List.mem_range.2 ht, by rw [h]; decide⟩
  unfold levOk
  rw [this, Bool.and_false, Bool.false_and]
theorem levOk_yes {kind : Int} {xss : List (List Int)} (h0 : within kind 0 2 = true) (h1 : sizesF (xss.map List.length) = true) (h : ∀ k, k < xss.length - 1 → dropOkI kind (dropV kind xss k) (xss.getD (xss.length - 2 - k) []) = true) : levOk kind xss = integersF (dropV kind xss (xss.length - 1)) := by
  have : ((List.range (xss.length - 1)).all fun t => dropOkI kind (dropV kind xss t) (xss.getD (xss.length - 2 - t) [])) = true := by
    rw [List.all_eq_true]
    exact fun k hk => h k (List.mem_range.1 hk)
  unfold levOk
  rw [h0, h1, this, Bool.and_self, Bool.and_self, Bool.true_and]
theorem levOk_int {kind : Int} {xss : List (List Int)} {t : Nat} (h : dropOkI kind (dropV kind xss t) (xss.getD (xss.length - 2 - t) []) = true) : integersF (dropV kind xss (t + 1)) = true := by
  unfold dropOkI at h
  rw [Bool.and_eq_true] at h
  rw [dropV_succ]
  exact h.2
theorem int_le {xs : List Int} (h : integersF xs = true) : xs.length ≤ 128 := by
  simp only [integersF, Bool.and_eq_true] at h
  have := within_true.1 h.1
  omega
theorem dropV_le {kind : Int} {xss : List (List Int)} (hm : totL xss ≤ 2 ^ 40) : ∀ t, (∀ k, k < t → dropOkI kind (dropV kind xss k) (xss.getD (xss.length - 2 - k) []) = true) → (dropV kind xss t).length ≤ 2 ^ 40
  | 0, _ => totL_row hm _
  | t + 1, h => by
    have := int_le (levOk_int (h t (by omega)))
    omega
end Go.Proofs.Ytddekdgggpifmaa

namespace Go.Proofs.Ytddekdgggpifmaa
open Go.Gx
set_option maxRecDepth 100000
set_option linter.unusedSimpArgs false
set_option linter.unusedVariables false

theorem part_nat {a c x y w h : Int} {xs : List Nat} (p : partOk a c xs x y w h = true) : ∃ m n i j k l : Nat, a = m ∧ c = n ∧ x = i ∧ y = j ∧ w = k ∧ h = l ∧ 1 ≤ k ∧ 1 ≤ l ∧ i + k ≤ m ∧ j + l ≤ n ∧ m ≤ 16 ∧ n ≤ 16 ∧ xs.length = m * n ∧ xs.all finF = true := by
  unfold partOk at p
  simp only [Bool.and_eq_true] at p
  obtain ⟨⟨⟨⟨p0, p1⟩, p2⟩, p3⟩, p4⟩ := p
  obtain ⟨m, n, rfl, rfl, h1, h2, h3, h4, h5, h6⟩ := valid_sides p0
  have q1 := within_true.1 p1
  have q2 := within_true.1 p2
  have q3 := within_true.1 p3
  have q4 := within_true.1 p4
  exact ⟨m, n, x.toNat, y.toNat, w.toNat, h.toNat, rfl, rfl, by omega, by omega, by omega, by omega, by omega, by omega, by omega, by omega, h2, h4, h5, h6⟩
theorem crop_ix {m n x y a b : Nat} (hx : x + a < m) (hy : y + b < n) : (y + b) * m + x + a < m * n := by
  have h1 : (y + b + 1) * m ≤ n * m := Nat.mul_le_mul_right m hy
  rw [Nat.add_mul, Nat.one_mul, Nat.mul_comm n m] at h1
  omega
theorem crop_fin {m n i j k l : Nat} {xs : List Nat} (hk : 1 ≤ k) (h1 : i + k ≤ m) (h2 : j + l ≤ n) (hl : xs.length = m * n) (hf : xs.all finF = true) : (tabL (k * l) (cropF m xs i j k)).all finF = true := tabL_fin fun t ht => by
  have ha : t % k < k := Nat.mod_lt _ hk
  have hb : t / k < l := Nat.div_lt_of_lt_mul ht
  exact all_getD.1 hf _ (by rw [hl]; exact crop_ix (by omega) (by omega))
end Go.Proofs.Ytddekdgggpifmaa

namespace Go.Proofs.Ytddekdgggpifmaa
open Go.Gx
set_option maxRecDepth 100000
set_option linter.unusedSimpArgs false
set_option linter.unusedVariables false

theorem region_facts {a c l b : Int} (hk : regionOk a c l b = true) : 0 ≤ (regionF a c l b).1 ∧ 0 ≤ (regionF a c l b).2.1 ∧ 0 ≤ (regionF a c l b).2.2.1 ∧ 0 ≤ (regionF a c l b).2.2.2 ∧ (regionF a c l b).1 + (regionF a c l b).2.2.1 ≤ a ∧ (regionF a c l b).2.1 + (regionF a c l b).2.2.2 ≤ c ∧ a ≤ 16 ∧ c ≤ 16 := by
  unfold regionOk at hk
  simp only [Bool.and_eq_true] at hk
  have h1 := within_true.1 hk.1.1.1
  have h2 := within_true.1 hk.1.1.2
  have g1 := halfN_le' h1.1 (l - 1).toNat
  have g2 := halfN_le' h2.1 (l - 1).toNat
  have g3 := halfN_le' g1.1 1
  have g4 := halfN_le' g2.1 1
  unfold regionF
  dsimp only
  generalize halfN (halfN a (l - 1).toNat) 1 = U at *
  generalize halfN (halfN c (l - 1).toNat) 1 = V at *
  repeat' split
  all_goals (dsimp only; omega)
def bandOk (a c : Int) (xs : List Nat) (l b : Int) : Bool := regionOk a c l b && partOk a c xs (regionF a c l b).1 (regionF a c l b).2.1 (regionF a c l b).2.2.1 (regionF a c l b).2.2.2
def bandL (a c : Int) (xs : List Nat) (l b : Int) : List Nat := tabL ((regionF a c l b).2.2.1.toNat * (regionF a c l b).2.2.2.toNat) (cropF a.toNat xs (regionF a c l b).1.toNat (regionF a c l b).2.1.toNat (regionF a c l b).2.2.1.toNat)
theorem band_part {a c : Int} {xs : List Nat} {l b : Int} (hv : validPicF a c xs = true) (hk : regionOk a c l b = true) (h1 : ¬ (regionF a c l b).2.2.1 = 0) (h2 : ¬ (regionF a c l b).2.2.2 = 0) : partOk a c xs (regionF a c l b).1 (regionF a c l b).2.1 (regionF a c l b).2.2.1 (regionF a c l b).2.2.2 = true := by
  have h := region_facts hk
  unfold partOk
  rw [hv, within_true.2 (by omega), within_true.2 (by omega), within_true.2 (by omega), within_true.2 (by omega)]
  rfl
theorem band_none {a c : Int} {xs : List Nat} {l b : Int} (h1 : (regionF a c l b).2.2.1 = 0 ∨ (regionF a c l b).2.2.2 = 0) : bandOk a c xs l b = false := by
  unfold bandOk partOk
  rcases h1 with h | h
  · rw [h]
    simp [within]
  · rw [h]
    simp [within]
end Go.Proofs.Ytddekdgggpifmaa

namespace Go.Proofs.Ytddekdgggpifmaa
open Go.Gx
set_option maxRecDepth 100000
set_option linter.unusedSimpArgs false
set_option linter.unusedVariables false

theorem coarse_eq (m n i : Nat) (l : Int) : coarseF m n l i = (decide (((i % m : Nat) : Int) < halfN m l.toNat) && decide (((i / m : Nat) : Int) < halfN n l.toNat)) := by
  unfold coarseF
  push_cast
  rfl
def sizeX (xs : List Nat) (b : Int) : Nat := sizeF (xs.getD b.toNat 0)
def bestI (m n : Nat) (l : Int) (xs : List Nat) : Nat → Int := foldI (fun i b => if (!coarseF m n l i && (decide (b < 0) || fcB .gtr .f32 (sizeF (xs.getD i 0)) (sizeX xs b))) = true then (i : Int) else b) (-1)
theorem bestI_zero (m n : Nat) (l : Int) (xs : List Nat) : bestI m n l xs 0 = -1 := rfl
theorem bestI_succ (m n : Nat) (l : Int) (xs : List Nat) (i : Nat) : bestI m n l xs (i + 1) = if (!coarseF m n l i && (decide (bestI m n l xs i < 0) || fcB .gtr .f32 (sizeF (xs.getD i 0)) (sizeX xs (bestI m n l xs i)))) = true then (i : Int) else bestI m n l xs i := rfl
theorem bestI_lt (m n : Nat) (l : Int) (xs : List Nat) : ∀ i, -1 ≤ bestI m n l xs i ∧ bestI m n l xs i < i
  | 0 => by rw [bestI_zero]; omega
  | i + 1 => by
    have := bestI_lt m n l xs i
    rw [bestI_succ]
    split <;> omega
def roughV (a c : Int) (xs : List Nat) (l : Int) : Value :=
  if (validPicF a c xs && within l 1 4 && decide (0 ≤ bestI a.toNat c.toNat l xs xs.length)) = true then
    .tuple #[.int .i64 (((bestI a.toNat c.toNat l xs xs.length).toNat % a.toNat : Nat) : Int), .int .i64 (((bestI a.toNat c.toNat l xs xs.length).toNat / a.toNat : Nat) : Int), .float .f32 (sizeX xs (bestI a.toNat c.toNat l xs xs.length)), .bool true]
  else .tuple #[.int .i64 0, .int .i64 0, .float .f32 0, .bool false]
theorem roughV_no {a c : Int} {xs : List Nat} {l : Int} (h : (validPicF a c xs && within l 1 4 && decide (0 ≤ bestI a.toNat c.toNat l xs xs.length)) = false) : roughV a c xs l = .tuple #[.int .i64 0, .int .i64 0, .float .f32 0, .bool false] := by
  unfold roughV
  rw [h]; rfl
theorem roughV_yes {m n : Nat} {xs : List Nat} {l : Int} {k : Nat} (h1 : validPicF m n xs = true) (h2 : within l 1 4 = true) (hk : bestI m n l xs xs.length = k) : roughV m n xs l = .tuple #[.int .i64 ((k % m : Nat) : Int), .int .i64 ((k / m : Nat) : Int), .float .f32 (sizeF (xs.getD k 0)), .bool true] := by
  unfold roughV
  simp only [Int.toNat_natCast]
  rw [if_pos (by rw [h1, h2, Bool.and_self, Bool.true_and]; exact decide_eq_true (by omega)), hk]
  rfl
def roughO (a c : Int) (xs : List Nat) (l : Int) : Bool := validPicF a c xs && within l 1 4 && decide (0 ≤ bestI a.toNat c.toNat l xs xs.length)
def roughX (a c : Int) (xs : List Nat) (l : Int) : Int := if roughO a c xs l = true then (((bestI a.toNat c.toNat l xs xs.length).toNat % a.toNat : Nat) : Int) else 0
def roughY (a c : Int) (xs : List Nat) (l : Int) : Int := if roughO a c xs l = true then (((bestI a.toNat c.toNat l xs xs.length).toNat / a.toNat : Nat) : Int) else 0
def roughS (a c : Int) (xs : List Nat) (l : Int) : Nat := if roughO a c xs l = true then sizeX xs (bestI a.toNat c.toNat l xs xs.length) else 0
theorem roughV_eq (a c : Int) (xs : List Nat) (l : Int) : roughV a c xs l = .tuple #[.int .i64 (roughX a c xs l), .int .i64 (roughY a c xs l), .float .f32 (roughS a c xs l), .bool (roughO a c xs l)] := by
  unfold roughX roughY roughS
  cases h : roughO a c xs l
  · exact (roughV_no h).trans rfl
  · exact (if_pos h).trans rfl
end Go.Proofs.Ytddekdgggpifmaa

namespace Go.Proofs.Ytddekdgggpifmaa
open Go.Gx
set_option maxRecDepth 100000
set_option linter.unusedSimpArgs false
set_option linter.unusedVariables false

def outQ (b : Bool) (t x : Nat) : Bool := b && fcB .leq .f32 (sizeF x) t
def outX (b : Bool) (t x : Nat) : Nat := if outQ b t x = true then 0 else x
def cntK (b : Bool) (t : Nat) (xs : List Nat) : Nat → Nat := foldI (fun k c => if outQ b t (xs.getD k 0) = true then c + 1 else c) 0
theorem cntK_succ (b : Bool) (t : Nat) (xs : List Nat) (i : Nat) : cntK b t xs (i + 1) = if outQ b t (xs.getD i 0) = true then cntK b t xs i + 1 else cntK b t xs i := rfl
theorem cntK_le (b : Bool) (t : Nat) (xs : List Nat) : ∀ i, cntK b t xs i ≤ i
  | 0 => Nat.le_refl _
  | i + 1 => by
    have := cntK_le b t xs i
    rw [cntK_succ]
    split <;> omega
theorem cntK_no (t : Nat) (xs : List Nat) : ∀ i, cntK false t xs i = 0
  | 0 => rfl
  | i + 1 => by rw [cntK_succ, cntK_no t xs i]; rfl
def bandS (t : Nat) (xss : List (List Nat)) (k : Nat) : List Nat := (xss.getD k []).map (outX (decide (k + 1 < xss.length)) t)
def outS (t : Nat) (xss : List (List Nat)) (j : Nat) : List (List Nat) := (List.range j).map (bandS t xss)
def cntS (t : Nat) (xss : List (List Nat)) : Nat → Nat := foldI (fun k c => c + cntK (decide (k + 1 < xss.length)) t (xss.getD k []) (xss.getD k []).length) 0
theorem cntS_succ (t : Nat) (xss : List (List Nat)) (j : Nat) : cntS t xss (j + 1) = cntS t xss j + cntK (decide (j + 1 < xss.length)) t (xss.getD j []) (xss.getD j []).length := rfl
theorem outS_succ (t : Nat) (xss : List (List Nat)) (j : Nat) : outS t xss (j + 1) = outS t xss j ++ [bandS t xss j] := by simp [outS, List.range_succ]
theorem outS_len (t : Nat) (xss : List (List Nat)) (j : Nat) : (outS t xss j).length = j := by simp [outS]
theorem bandS_len (t : Nat) (xss : List (List Nat)) (k : Nat) : (bandS t xss k).length = (xss.getD k []).length := by simp [bandS]
theorem cntS_le (t : Nat) (xss : List (List Nat)) : ∀ j, j ≤ xss.length → cntS t xss j ≤ offN xss j
  | 0, _ => Nat.zero_le _
  | j + 1, h => by
    have h1 := cntS_le t xss j (by omega)
    have h2 := cntK_le (decide (j + 1 < xss.length)) t (xss.getD j []) (xss.getD j []).length
    rw [cntS_succ, offN_succ (by omega)]
    omega
theorem outS_tot (t : Nat) (xss : List (List Nat)) : totL (outS t xss xss.length) = totL xss := by
  have h : (outS t xss xss.length).map List.length = xss.map List.length := by
    refine list_ext_getD 0 (by simp [outS_len]) fun j hj => ?_
    have hj' : j < xss.length := by simpa [outS_len] using hj
    simp [outS, bandS, List.getD_eq_getElem?_getD, hj']
  unfold totL offN
  rw [outS_len, List.take_of_length_le (by rw [outS_len]; exact Nat.le_refl _), List.take_of_length_le (Nat.le_refl _), h]
theorem set_getD_self {xs : List Nat} {i : Nat} (h : i < xs.length) : xs.set i (xs.getD i 0) = xs := by
  have e : xs.getD i 0 = xs[i] := by simp [List.getD_eq_getElem?_getD, h]
  rw [e, List.set_getElem_self]
def SmallR (H : Heap) (ok : Bool) (c : Nat) (xss : List (List Nat)) (sty ty : TypeId) (r : Value) (H' : Heap) : Prop :=
  Ext H H' ∧ ∃ v, r = .tuple #[v, .int .i64 (selI ok c), .bool ok] ∧ OwS H.n H'.n H' sty ty v ((selL ok xss).map (List.map fv)) ∧ totL (selL ok xss) ≤ 2 ^ 40
theorem SmallR.no {H H' : Heap} {ok : Bool} {c : Nat} {xss : List (List Nat)} {sty ty : TypeId} (hk : ok = false) (e : Ext H H') : SmallR H ok c xss sty ty (.tuple #[.slice none 0 0, .int .i64 0, .bool false]) H' := by
  subst hk; exact ⟨e, _, rfl, .nil, by simp [selL, totL, offN]⟩
theorem SmallR.yes {H H' : Heap} {ok : Bool} {c : Nat} {xss : List (List Nat)} {sty ty : TypeId} {v : Value} (hk : ok = true) (e : Ext H H') (o : OwS H.n H'.n H' sty ty v (xss.map (List.map fv))) (hl : totL xss ≤ 2 ^ 40) : SmallR H ok c xss sty ty (.tuple #[v, .int .i64 c, .bool true]) H' := by
  subst hk; exact ⟨e, v, rfl, o, hl⟩
theorem i_SmallOut_law {H : Heap} {v0 : Value} {xs0 : List (List Nat)} {a1 : Nat} (A0 : AS H v0 xs0) (b1 : a1 < 2 ^ 32) :
    ACalls Try.prog n_i_SmallOut [v0, .float .f32 a1] H fun r H' => SmallR H (bandsF xs0 && leastF a1) (cntS a1 xs0 xs0.length) (outS a1 xs0 xs0.length) t_sfloat32 t_float32 r H' := by
  have hm := A0.le
  refine k_i_SmallOut.run rfl ?_
  unfold c_i_SmallOut
  simp (disch := first | assumption | omega | rfl | (refine id ?_; simp only [gxD, ne_eq, reduceCtorEq, not_false_eq_true, Nat.reduceAdd, *]; done) | (refine id ?_; simp only [gxD]; omega)) only [↓gxPre, gxPost, ↓reduceIte, Nat.reduceEqDiff, reduceCtorEq, Nat.reduceAdd]
  refine callR_ext (i_AreBands_ok A0.rd A0.le) ?_
  intro K n1 bb1
  have eK : Ext H K := ⟨n1, bb1⟩
  cases h1 : bandsF xs0
  · simp (disch := first | assumption | omega | rfl | (refine id ?_; simp only [gxD, ne_eq, reduceCtorEq, not_false_eq_true, Nat.reduceAdd, *]; done) | (refine id ?_; simp only [gxD]; omega)) only [↓gxPre, gxPost, ↓reduceIte, Nat.reduceEqDiff, reduceCtorEq, Nat.reduceAdd]
    exact .no (by simp only [Bool.false_and, Bool.true_and, Bool.and_true, Bool.and_false, Bool.or_true, Bool.true_or, Bool.false_or, Bool.or_false, Bool.and_self, Bool.or_self]) eK
  simp (disch := first | assumption | omega | rfl | (refine id ?_; simp only [gxD, ne_eq, reduceCtorEq, not_false_eq_true, Nat.reduceAdd, *]; done) | (refine id ?_; simp only [gxD]; omega)) only [↓gxPre, gxPost, ↓reduceIte, Nat.reduceEqDiff, reduceCtorEq, Nat.reduceAdd]
  refine callR_pure i_isLeast_ok (.inl rfl) ?_
  cases h2 : leastF a1
  · simp (disch := first | assumption | omega | rfl | (refine id ?_; simp only [gxD, ne_eq, reduceCtorEq, not_false_eq_true, Nat.reduceAdd, *]; done) | (refine id ?_; simp only [gxD]; omega)) only [↓gxPre, gxPost, ↓reduceIte, Nat.reduceEqDiff, reduceCtorEq, Nat.reduceAdd]
    exact .no (by simp only [Bool.false_and, Bool.true_and, Bool.and_true, Bool.and_false, Bool.or_true, Bool.true_or, Bool.false_or, Bool.or_false, Bool.and_self, Bool.or_self]) eK
  obtain ⟨hn1, hn7⟩ := bandsF_len h1
  obtain ⟨us, hu, hul, hus⟩ := A0.rd
  have huK := hu.ext eK
  have huN := huK.ext (.new K ⟨true, t_sfloat32, []⟩)
  have hto : offN xs0 xs0.length ≤ 2 ^ 40 := by unfold totL at hm; omega
  simp (disch := first | assumption | omega | rfl | (refine id ?_; simp only [gxD, ne_eq, reduceCtorEq, not_false_eq_true, Nat.reduceAdd, *]; done) | (refine id ?_; simp only [gxD]; omega)) only [↓gxPre, gxPost, ↓reduceIte, Nat.reduceEqDiff, reduceCtorEq, Nat.reduceAdd, huN.len, hul]
  refine loop_forH xs0.length (fun j => [v0, .float .f32 a1, .slice (some ⟨K.n, 0, none⟩) j j, .int .i64 (cntS a1 xs0 j : Nat), v0, .int .i64 xs0.length, .int .i64 j])
    (fun j G => K.n + 1 ≤ G.n ∧ Ext K G ∧ ∃ vs, G.blk K.n = some ⟨true, t_sfloat32, vs⟩ ∧ OwN K.n G.n G t_float32 vs ((outS a1 xs0 j).map (List.map fv))) rfl
    ⟨by simp only [new_n]; omega, .new _ _, [], new_self _ _, .nil⟩ ?_ ?_
  · rintro G ⟨hG, hE, vs, hb, ho⟩
    simp (disch := first | assumption | omega | rfl | (refine id ?_; simp only [gxD, ne_eq, reduceCtorEq, not_false_eq_true, Nat.reduceAdd, *]; done) | (refine id ?_; simp only [gxD]; omega)) only [↓gxPre, gxPost, ↓reduceIte, Nat.reduceEqDiff, reduceCtorEq, Nat.reduceAdd, Int.lt_irrefl]
    have hlv : vs.length = xs0.length := by have := ho.1; simpa [outS_len] using this
    refine .yes rfl (eK.trans hE) ⟨vs, .mk hb hlv (by first | omega | (simp only [new_n, put_n]; omega)) (by first | omega | (simp only [new_n, put_n]; omega)) (by first | omega | (simp only [new_n, put_n]; omega)), ho.wide eK.n (Nat.le_refl _)⟩ (by rw [outS_tot]; exact hm)
  · rintro j G hj ⟨hG, hE, vs, hb, ho⟩
    have hlv : vs.length = j := by have := ho.1; simpa [outS_len] using this
    have huG := huK.ext hE
    obtain ⟨xs, hxs⟩ : ∃ xs, xs = xs0.getD j [] := ⟨_, rfl⟩
    have hlx : xs.length ≤ 2 ^ 40 := by rw [hxs]; exact totL_row hm j
    have hfs : FS G (us.getD j undef) xs := by rw [hxs]; exact ((hus j hj).ext eK).ext hE
    have hcl := cntS_le a1 xs0 j (by omega)
    have hoj : offN xs0 j ≤ 2 ^ 40 := by
      have h3 := offN_row hj
      omega
    simp (disch := first | assumption | omega | rfl | (refine id ?_; simp only [gxD, ne_eq, reduceCtorEq, not_false_eq_true, Nat.reduceAdd, *]; done) | (refine id ?_; simp only [gxD]; omega)) only [↓gxPre, gxPost, ↓reduceIte, Nat.reduceEqDiff, reduceCtorEq, Nat.reduceAdd, huG.ia, huG.ldD, hul]
    refine callR_of (i_copyOf_ex hfs hlx) ?_
    rintro _ P ⟨eP, rfl, nP, hcP⟩
    have eKP := hE.trans eP
    have hbP := (eP.blk _ (by omega)).trans hb
    have huP := huK.ext eKP
    obtain ⟨b, hbb⟩ : ∃ b, b = decide (j + 1 < xs0.length) := ⟨_, rfl⟩
    simp (disch := first | assumption | omega | rfl | (refine id ?_; simp only [gxD, ne_eq, reduceCtorEq, not_false_eq_true, Nat.reduceAdd, *]; done) | (refine id ?_; simp only [gxD]; omega)) only [↓gxPre, gxPost, ↓reduceIte, Nat.reduceEqDiff, reduceCtorEq, Nat.reduceAdd]
    refine loop_forH xs.length (fun i => [v0, .float .f32 a1, .slice (some ⟨K.n, 0, none⟩) j j, .int .i64 ((cntS a1 xs0 j + cntK b a1 xs i : Nat) : Int), .int .i64 j, .slice (some ⟨G.n, 0, none⟩) xs.length xs.length, v0, .int .i64 xs0.length, .int .i64 j, .slice (some ⟨G.n, 0, none⟩) xs.length xs.length, .int .i64 xs.length, .int .i64 i])
      (fun i F => F.n = P.n ∧ Ext G F ∧ F.blk G.n = some ⟨true, t_float32, (updF (fun k => outX b a1 (xs.getD k 0)) xs i).map fv⟩) (by simp [cntK, foldI_zero])
      ⟨rfl, eP, by rw [updF_zero]; exact hcP⟩ ?_ ?_
    · rintro F ⟨hF, eF, hc⟩
      have hbF := (eF.blk _ (by omega)).trans hb
      have hall : updF (fun k => outX b a1 (xs.getD k 0)) xs xs.length = bandS a1 xs0 j := by
        rw [updF_all, range_getD_map, bandS, hbb, hxs]
      rw [hall] at hc
      obtain ⟨f1, f2, f3, f4⟩ := push_at (x := .slice (some ⟨G.n, 0, none⟩) xs.length xs.length) (hE.trans eF) hbF (Nat.le_refl _) (by omega) rfl
      have p : OwL G.n F.n F t_float32 (.slice (some ⟨G.n, 0, none⟩) xs.length xs.length) ((bandS a1 xs0 j).map fv) := .mk hc (by rw [lMapN, bandS_len, hxs]) (by omega) (by omega) (by omega)
      have q := ((ho.ext eF).wide (Nat.le_refl _) eF.n).snoc (p.wide (by omega) (Nat.le_refl _)) fun i h hi' hh hk => by
        have h1 := (ho.lt hi' hh).2.1
        have h2 := (p.hdl hk).1
        omega
      have q2 : OwN K.n (F.n + 1) ((F.new ⟨true, t_sfloat32, [.slice (some ⟨G.n, 0, none⟩) xs.length xs.length]⟩).put K.n ⟨true, t_sfloat32, vs ++ [.slice (some ⟨G.n, 0, none⟩) xs.length xs.length]⟩) t_float32 _ _ :=
        OwN_put ((q.ext (.new _ ⟨true, t_sfloat32, [.slice (some ⟨G.n, 0, none⟩) xs.length xs.length]⟩)).wide (Nat.le_refl _) (by omega)) ((new_old _ _ _ (by omega)).trans hbF) (by decide)
      simp (disch := first | assumption | omega | rfl | (refine id ?_; simp only [gxD, ne_eq, reduceCtorEq, not_false_eq_true, Nat.reduceAdd, *]; done) | (refine id ?_; simp only [gxD]; omega)) only [↓gxPre, gxPost, ↓reduceIte, Nat.reduceEqDiff, reduceCtorEq, Nat.reduceAdd, Int.lt_irrefl, hbF]
      refine ⟨by rw [cntS_succ, ← hbb, ← hxs]; simp, by omega, f1, _, rfl, ?_⟩
      simp only [outS_succ, List.map_append, List.map_cons, List.map_nil]
      exact q2
    · rintro i F hi ⟨hF, eF, hc⟩
      have huF := huK.ext (hE.trans eF)
      have hck := cntK_le b a1 xs i
      have hat := updF_at (g := fun k => outX b a1 (xs.getD k 0)) hi
      have lo : ((updF (fun k => outX b a1 (xs.getD k 0)) xs i).map fv).length = xs.length := by rw [lMapN, updF_length]
      have hset : ((updF (fun k => outX b a1 (xs.getD k 0)) xs i).map fv).set i (.float .f32 (outX b a1 (xs.getD i 0))) = (updF (fun k => outX b a1 (xs.getD k 0)) xs (i + 1)).map fv := by
        rw [fv_set']; exact congrArg (List.map fv) (updF_set (g := fun k => outX b a1 (xs.getD k 0)))
      have hsame : outQ b a1 (xs.getD i 0) = false → updF (fun k => outX b a1 (xs.getD k 0)) xs (i + 1) = updF (fun k => outX b a1 (xs.getD k 0)) xs i := fun h => by
        rw [← updF_set]
        have : outX b a1 (xs.getD i 0) = (updF (fun k => outX b a1 (xs.getD k 0)) xs i).getD i 0 := by
          rw [updF, getD_range_map hi, if_neg (by omega)]
          unfold outX
          rw [h]; rfl
        try dsimp only
        rw [this]
        exact set_getD_self (by rw [updF_length]; exact hi)
      by_cases hb1 : (j : Int) < (xs0.length : Int) - 1
      · have hbt : b = true := by rw [hbb]; exact decide_eq_true (by omega)
        simp (disch := first | assumption | omega | rfl | (refine id ?_; simp only [gxD, ne_eq, reduceCtorEq, not_false_eq_true, Nat.reduceAdd, *]; done) | (refine id ?_; simp only [gxD]; omega)) only [↓gxPre, gxPost, ↓reduceIte, Nat.reduceEqDiff, reduceCtorEq, Nat.reduceAdd, hc, hat, huF.len, hul, hb1]
        refine callR_pure i_size_ok (by first | exact .inl rfl | (simp (disch := first | assumption | omega | rfl | (refine id ?_; simp only [gxD, ne_eq, reduceCtorEq, not_false_eq_true, Nat.reduceAdd, *]; done) | (refine id ?_; simp only [gxD]; omega)) only [↓gxPre, gxPost, ↓reduceIte, Nat.reduceEqDiff, reduceCtorEq, Nat.reduceAdd, *]; done)) ?_
        cases hq : fcB .leq .f32 (sizeF (xs.getD i 0)) a1
        · have hQ : outQ b a1 (xs.getD i 0) = false := by unfold outQ; rw [hbt, hq]; rfl
          simp (disch := first | assumption | omega | rfl | (refine id ?_; simp only [gxD, ne_eq, reduceCtorEq, not_false_eq_true, Nat.reduceAdd, *]; done) | (refine id ?_; simp only [gxD]; omega)) only [↓gxPre, gxPost, ↓reduceIte, Nat.reduceEqDiff, reduceCtorEq, Nat.reduceAdd, hq]
          refine ⟨by rw [cntK_succ, hQ]; simp, hF, eF, ?_⟩
          rw [hsame hQ]; exact hc
        · have hQ : outQ b a1 (xs.getD i 0) = true := by unfold outQ; rw [hbt, hq]; rfl
          have hz : outX b a1 (xs.getD i 0) = 0 := by unfold outX; rw [hQ]; rfl
          rw [hz] at hset
          simp (disch := first | assumption | omega | rfl | (refine id ?_; simp only [gxD, ne_eq, reduceCtorEq, not_false_eq_true, Nat.reduceAdd, *]; done) | (refine id ?_; simp only [gxD]; omega)) only [↓gxPre, gxPost, ↓reduceIte, Nat.reduceEqDiff, reduceCtorEq, Nat.reduceAdd, hq, hc]
          refine ⟨by (rw [cntK_succ, hQ]; simp; try omega), by simpa using hF, eF.put (Nat.le_refl _) _, ?_⟩
          first | exact congrArg (fun l => some (Blk.mk true t_float32 l)) hset | (rw [hput_self]; exact congrArg (fun l => some (Blk.mk true t_float32 l)) hset)
      · have hbt : b = false := by rw [hbb]; exact decide_eq_false (by omega)
        have hQ : outQ b a1 (xs.getD i 0) = false := by unfold outQ; rw [hbt]; rfl
        simp (disch := first | assumption | omega | rfl | (refine id ?_; simp only [gxD, ne_eq, reduceCtorEq, not_false_eq_true, Nat.reduceAdd, *]; done) | (refine id ?_; simp only [gxD]; omega)) only [↓gxPre, gxPost, ↓reduceIte, Nat.reduceEqDiff, reduceCtorEq, Nat.reduceAdd, hc, hat, huF.len, hul, hb1]
        refine ⟨by rw [cntK_succ, hQ]; simp, hF, eF, ?_⟩
        first | (rw [hsame hQ]; exact hc) | rw [hsame hQ]
end Go.Proofs.Ytddekdgggpifmaa

namespace Go.Proofs.Ytddekdgggpifmaa
open Go.Gx
set_option maxRecDepth 100000
set_option linter.unusedSimpArgs false
set_option linter.unusedVariables false

theorem stopN_all {p : Nat → Bool} : ∀ n k, k < stopN p n → p k = true
  | 0, k, h => absurd h (Nat.not_lt_zero _)
  | n + 1, k, h => by
    have hle := stopN_le p n
    unfold stopN at h
    split at h
    · rename_i hc
      by_cases hk : k = n
      · rw [hk]; exact hc.2
      · exact stopN_all n k (by omega)
    · exact stopN_all n k h
theorem stopN_stop {p : Nat → Bool} {n : Nat} (h : stopN p n < n) : p (stopN p n) = false := by
  cases hp : p (stopN p n)
  · rfl
  · have := stopN_gt (p := p) (t := stopN p n) (n := n) (fun k hk => by
      by_cases hk' : k = stopN p n
      · rw [hk']; exact hp
      · exact stopN_all n k (by omega)) h
    omega
theorem levelsD_len (ws : List Nat) (sc : Nat) (xs : List Nat) (n : Nat) : (levelsD ws sc xs n).length = stopN (moreD ws sc xs) n + 1 := by simp [levelsD, outD_len]
theorem levelsD_at {ws : List Nat} {sc : Nat} {xs : List Nat} {n k : Nat} (hk : k < stopN (moreD ws sc xs) n) : (levelsD ws sc xs n).getD k [] = (liftF ws sc (nowD ws sc xs k)).2 := by
  unfold levelsD
  rw [getD_app_lt (by rw [outD_len]; exact hk), outD]
  exact getD_range_map hk
theorem levelsD_last (ws : List Nat) (sc : Nat) (xs : List Nat) (n : Nat) : (levelsD ws sc xs n).getD (stopN (moreD ws sc xs) n) [] = nowD ws sc xs (stopN (moreD ws sc xs) n) := by
  unfold levelsD
  have := @getD_app_at _ (outD ws sc xs (stopN (moreD ws sc xs) n)) (nowD ws sc xs (stopN (moreD ws sc xs) n)) []
  rwa [outD_len] at this
/-- The sizes from 'k' on make up the list that is lifted at 'k'. -/
theorem levels_suf (ws : List Nat) (sc : Nat) (xs : List Nat) (n : Nat) : ∀ d k, k + d = stopN (moreD ws sc xs) n → sufS ((levelsD ws sc xs n).map List.length) k = (nowD ws sc xs k).length
  | 0, k, h => by
    have hk : k = stopN (moreD ws sc xs) n := by omega
    have hl := levelsD_len ws sc xs n
    have h1 := sufS_last (sz := (levelsD ws sc xs n).map List.length) (by rw [List.length_map]; omega)
    rw [List.length_map, hl, Nat.add_sub_cancel, ← hk, sizes_len] at h1
    rw [h1, hk, levelsD_last]
  | d + 1, k, h => by
    have ih := levels_suf ws sc xs n d (k + 1) (by omega)
    have hl := levelsD_len ws sc xs n
    rw [sufS_succ (by rw [List.length_map]; omega), ih, sizes_len, levelsD_at (by omega), nowD_succ, liftF_len1, liftF_len2]
    omega
theorem levels_sizes {ws : List Nat} {sc : Nat} {xs : List Nat} {n : Nat} (h1 : 1 ≤ xs.length) (hx : xs.length ≤ 128) (hn : 1 ≤ n) (hn6 : n ≤ 6) : sizesF ((levelsD ws sc xs n).map List.length) = true := by
  have hs := stopN_le (moreD ws sc xs) n
  have hl := levelsD_len ws sc xs n
  obtain ⟨L, hL⟩ : ∃ L, L = stopN (moreD ws sc xs) n := ⟨_, rfl⟩
  have hlast := nowD_le ws sc xs h1 L
  refine (sizesF_yes (within_true.2 ?_) ?_ ?_ ?_).1
  · rw [List.length_map, hl]; omega
  · rw [List.length_map, hl, Nat.add_sub_cancel, sizes_len, levelsD_last, ← hL]; omega
  · rw [List.length_map, hl, sizes_len]
    by_cases hz : L = 0
    · refine .inr ?_
      have h2 := stopN_stop (p := moreD ws sc xs) (n := n) (by omega)
      have h3 := levelsD_last ws sc xs n
      rw [← hL, hz] at h2 h3
      rw [h3]
      have h4 := of_decide_eq_false h2
      rw [hz] at hlast
      omega
    · exact .inl (by omega)
  · intro j hj
    rw [List.length_map, hl, Nat.add_sub_cancel] at hj
    have h2 := of_decide_eq_true (stopN_all (p := moreD ws sc xs) n j hj)
    have h3 := levels_suf ws sc xs n (stopN (moreD ws sc xs) n - j) j (by omega)
    have h4 := levels_suf ws sc xs n (stopN (moreD ws sc xs) n - (j + 1)) (j + 1) (by omega)
    have h5 := nowD_le ws sc xs h1 j
    rw [nowD_succ, liftF_len1] at h4
    unfold sizeAt
    rw [sizes_len, levelsD_at hj, liftF_len2, h3, h4]
    simp only [Bool.and_eq_true, Bool.or_eq_true, decide_eq_true_eq]
    omega
def coarseL (xss : List (List Nat)) (keep i : Nat) : List Nat := if i + 1 + keep < xss.length then zerosF (xss.getD i []).length else xss.getD i []
def coarseU (xss : List (List Nat)) (keep t : Nat) : List (List Nat) := (List.range xss.length).map fun i => if i < t then coarseL xss keep i else xss.getD i []
theorem coarseU_len (xss : List (List Nat)) (keep t : Nat) : (coarseU xss keep t).length = xss.length := by simp [coarseU]
theorem coarseU_at {xss : List (List Nat)} {keep t i : Nat} (h : i < xss.length) : (coarseU xss keep t).getD i [] = if i < t then coarseL xss keep i else xss.getD i [] := by
  rw [coarseU, getD_range_map h]
theorem coarseL_len (xss : List (List Nat)) (keep i : Nat) : (coarseL xss keep i).length = (xss.getD i []).length := by
  unfold coarseL
  split
  · exact zerosF_length _
  · rfl
theorem coarseU_row {xss : List (List Nat)} {keep t i : Nat} (h : i < xss.length) : ((coarseU xss keep t).getD i []).length = (xss.getD i []).length := by
  rw [coarseU_at h]
  split
  · exact coarseL_len _ _ _
  · rfl
theorem coarseU_zero (xss : List (List Nat)) (keep : Nat) : coarseU xss keep 0 = xss := by
  refine list_ext_getD [] (coarseU_len _ _ _) fun j hj => ?_
  rw [coarseU_len] at hj
  rw [coarseU_at hj]; rfl
theorem coarseU_succ {xss : List (List Nat)} {keep t : Nat} (h : t < xss.length) : coarseU xss keep (t + 1) = (coarseU xss keep t).set t (coarseL xss keep t) := by
  refine list_ext_getD [] (by simp [coarseU_len]) fun j hj => ?_
  rw [coarseU_len] at hj
  rw [coarseU_at hj]
  by_cases hjt : j = t
  · subst hjt
    rw [getD_set_self (by rw [coarseU_len]; exact hj), if_pos (by omega)]
  · rw [Go.Gx.getD_set_ne (Ne.symm hjt), coarseU_at hj]
    by_cases h2 : j < t
    · rw [if_pos h2, if_pos (by omega)]
    · rw [if_neg h2, if_neg (by omega)]
theorem coarseU_sizes (xss : List (List Nat)) (keep t : Nat) : (coarseU xss keep t).map List.length = xss.map List.length := by
  refine list_ext_getD 0 (by simp [coarseU_len]) fun j hj => ?_
  have hj' : j < xss.length := by simpa [coarseU_len] using hj
  rw [sizes_len, sizes_len, coarseU_row hj']
theorem coarseU_tot (xss : List (List Nat)) (keep t : Nat) : totL (coarseU xss keep t) = totL xss := by
  unfold totL offN
  rw [List.take_of_length_le (Nat.le_refl _), List.take_of_length_le (Nat.le_refl _), coarseU_len, coarseU_sizes]
theorem levels_fin {ws : List Nat} {sc : Nat} {xs : List Nat} {n : Nat} (hx : isLongF xs = true) (h : ∀ k, k < stopN (moreD ws sc xs) n → liftOkF ws sc (nowD ws sc xs k) = true) (i : Nat) (hi : i < (levelsD ws sc xs n).length) : ((levelsD ws sc xs n).getD i []).all finF = true := by
  rw [levelsD_len] at hi
  by_cases hk : i < stopN (moreD ws sc xs) n
  · rw [levelsD_at hk]
    have h1 := h i hk
    have h2 := of_decide_eq_true (stopN_all (p := moreD ws sc xs) n i hk)
    unfold liftOkF at h1
    rw [Bool.or_eq_true, Bool.and_eq_true, decide_eq_true_eq] at h1
    rcases h1 with h1 | h1
    · omega
    · exact h1.2
  · have hk' : i = stopN (moreD ws sc xs) n := by omega
    rw [hk', levelsD_last]
    exact isLong_fin (nowD_long hx _ h)
theorem coarse_bands {ws : List Nat} {sc : Nat} {xs : List Nat} {n keep t : Nat} (hx : isLongF xs = true) (hn : 1 ≤ n) (hn6 : n ≤ 6) (h : ∀ k, k < stopN (moreD ws sc xs) n → liftOkF ws sc (nowD ws sc xs k) = true) : bandsF (coarseU (levelsD ws sc xs n) keep t) = true := by
  obtain ⟨hl, hl1⟩ := isLong_len hx
  unfold bandsF
  rw [coarseU_sizes, levels_sizes hl1 hl hn hn6, Bool.true_and]
  refine (allD []).2 fun j hj => ?_
  rw [coarseU_len] at hj
  rw [coarseU_at hj]
  have hf := levels_fin hx h j hj
  split
  · unfold coarseL
    split
    · exact zerosF_fin _
    · exact hf
  · exact hf
theorem deepOk_parts {ws : List Nat} {sc : Nat} {xs : List Nat} {n : Int} (h : deepOk ws sc xs n = true) : schemeF ws sc = true ∧ isLongF xs = true ∧ within n 1 6 = true ∧ ∀ k, k < stopN (moreD ws sc xs) n.toNat → liftOkF ws sc (nowD ws sc xs k) = true := by
  unfold deepOk at h
  rw [Bool.and_eq_true, Bool.and_eq_true, Bool.and_eq_true, List.all_eq_true] at h
  exact ⟨h.1.1.1, h.1.1.2, h.1.2, fun k hk => h.2 k (List.mem_range.2 hk)⟩
theorem OwN_at {lo hi i : Nat} {H : Heap} {ty : TypeId} {vs : List Value} {ls : List (List Value)} {v : Value} {l : List Value} (o : OwN lo hi H ty vs ls) (hi' : i < ls.length) (p : OwL lo hi H ty v l) (hd : ∀ j h, j < ls.length → hdl (vs.getD j undef) = some h → hdl v ≠ some h) : OwN lo hi H ty (vs.set i v) (ls.set i l) := by
  obtain ⟨h1, h2, h3⟩ := o
  have es : (vs.set i v).getD i undef = v := getD_set_self (by omega)
  have en : ∀ j, j ≠ i → (vs.set i v).getD j undef = vs.getD j undef := fun j hj => Go.Gx.getD_set_ne (Ne.symm hj)
  refine ⟨by simp [h1], fun j hj => ?_, fun j k h hj hk hh hk' => ?_⟩
  · rw [List.length_set] at hj
    by_cases hji : j = i
    · rw [hji, es, getD_set_self hi']; exact p
    · rw [en j hji, Go.Gx.getD_set_ne (Ne.symm hji)]; exact h2 j hj
  · rw [List.length_set] at hj hk
    by_cases hji : j = i
    · by_cases hki : k = i
      · rw [hji, hki]
      · rw [hji, es] at hh
        rw [en k hki] at hk'
        exact absurd hh (hd k h hk hk')
    · by_cases hki : k = i
      · rw [hki, es] at hk'
        rw [en j hji] at hh
        exact absurd hk' (hd j h hj hh)
      · rw [en j hji] at hh
        rw [en k hki] at hk'
        exact h3 j k h hj hk hh hk'
def coarseOk (ws : List Nat) (sc : Nat) (xs : List Nat) (n keep : Int) : Bool := decide (0 ≤ keep) && (deepOk ws sc xs n && unOk ws sc (coarseU (levelsD ws sc xs n.toNat) keep.toNat ((levelsD ws sc xs n.toNat).length - 1 - keep.toNat)))
def coarseD (ws : List Nat) (sc : Nat) (xs : List Nat) (n keep : Int) : List Nat := dropD ws sc (coarseU (levelsD ws sc xs n.toNat) keep.toNat ((levelsD ws sc xs n.toNat).length - 1 - keep.toNat)) ((levelsD ws sc xs n.toNat).length - 1)
theorem i_CoarseOf_law {H : Heap} {v0 v1 : Value} {xs0 xs1 : List Nat} {a0 : Nat} {a2 a3 : Int} (A0 : AF H v0 xs0) (b0 : a0 < 2 ^ 32) (A1 : AF H v1 xs1) (b2 : -9223372036854775808 ≤ a2 ∧ a2 ≤ 9223372036854775807) (b3 : -9223372036854775808 ≤ a3 ∧ a3 ≤ 9223372036854775807) :
    ACalls Try.prog n_i_CoarseOf [.agg #[v0, .float .f32 a0], v1, .int .i64 a2, .int .i64 a3] H fun r H' => ListR fv t_float32 H (coarseOk xs0 a0 xs1 a2 a3) (coarseD xs0 a0 xs1 a2 a3) r H' := by
  refine k_i_CoarseOf.run rfl ?_
  unfold c_i_CoarseOf
  have o0 := A0.rd.one
  simp (disch := first | assumption | omega | rfl | (refine id ?_; simp only [gxD, ne_eq, reduceCtorEq, not_false_eq_true, Nat.reduceAdd, *]; done) | (refine id ?_; simp only [gxD]; omega)) only [↓gxPre, gxPost, ↓reduceIte, Nat.reduceEqDiff, reduceCtorEq, Nat.reduceAdd]
  refine callR_new ?_
  intro K eK hsK nK
  refine callR_of (i_LiftDeep_law ⟨A0.rd.ext eK, A0.le, A0.w⟩ b0 ⟨A1.rd.ext eK, A1.le, A1.w⟩ b2) ?_
  rintro _ M ⟨eM, v, rfl, o, q⟩
  have eHM := eK.trans eM
  have nM := eM.n
  cases h1 : deepOk xs0 a0 xs1 a2
  · simp (disch := first | assumption | omega | rfl | (refine id ?_; simp only [gxD, ne_eq, reduceCtorEq, not_false_eq_true, Nat.reduceAdd, *]; done) | (refine id ?_; simp only [gxD]; omega)) only [↓gxPre, gxPost, ↓reduceIte, Nat.reduceEqDiff, reduceCtorEq, Nat.reduceAdd]
    exact .no (by simp only [coarseOk, h1, Bool.false_and, Bool.true_and, Bool.and_true, Bool.and_false, Bool.or_true, Bool.true_or, Bool.false_or, Bool.or_false, Bool.and_self, Bool.or_self]) eHM
  rw [h1] at o q
  simp only [selL, if_true] at o q
  by_cases h2 : a3 < 0
  · simp (disch := first | assumption | omega | rfl | (refine id ?_; simp only [gxD, ne_eq, reduceCtorEq, not_false_eq_true, Nat.reduceAdd, *]; done) | (refine id ?_; simp only [gxD]; omega)) only [↓gxPre, gxPost, ↓reduceIte, Nat.reduceEqDiff, reduceCtorEq, Nat.reduceAdd, h2]
    exact .no (by simp only [coarseOk, decide_eq_false (by omega : ¬ (0 : Int) ≤ a3), Bool.false_and, Bool.true_and, Bool.and_true, Bool.and_false, Bool.or_true, Bool.true_or, Bool.false_or, Bool.or_false, Bool.and_self, Bool.or_self]) eHM
  obtain ⟨k, rfl⟩ : ∃ k : Nat, a3 = k := ⟨a3.toNat, by omega⟩
  obtain ⟨d1, d2, d3, d4⟩ := deepOk_parts h1
  have hw2 := within_true.1 d3
  obtain ⟨xss, hxs⟩ : ∃ xss, xss = levelsD xs0 a0 xs1 a2.toNat := ⟨_, rfl⟩
  have hbands : ∀ t, bandsF (coarseU xss k t) = true := fun t => by rw [hxs]; exact coarse_bands d2 (by omega) (by omega) d4
  have hln : xss.length = stopN (moreD xs0 a0 xs1) a2.toNat + 1 := by rw [hxs]; exact levelsD_len _ _ _ _
  have hO : coarseOk xs0 a0 xs1 a2 k = unOk xs0 a0 (coarseU xss k (xss.length - 1 - k)) := by
    simp only [coarseOk, h1, decide_eq_true (by omega : (0 : Int) ≤ (k : Int)), Bool.false_and, Bool.true_and, Bool.and_true, Bool.and_false, Bool.or_true, Bool.true_or, Bool.false_or, Bool.or_false, Bool.and_self, Bool.or_self, Int.toNat_natCast, ← hxs]
  have hL : coarseD xs0 a0 xs1 a2 k = dropD xs0 a0 (coarseU xss k (xss.length - 1 - k)) ((coarseU xss k (xss.length - 1 - k)).length - 1) := by
    simp only [coarseD, Int.toNat_natCast, ← hxs, coarseU_len]
  rw [hO, hL]
  rw [← hxs] at o q
  obtain ⟨vs, ow, on⟩ := o
  have hvl : vs.length = xss.length := by have := on.1; simpa using this
  have hown : ∃ h, v = .slice (some ⟨h, 0, none⟩) xss.length xss.length ∧ K.n ≤ h ∧ h < M.n ∧ M.blk h = some ⟨true, t_sfloat32, vs⟩ := by
    rcases ow with ⟨_, hnil⟩ | ⟨h, hv, g1, g2, g3, g4⟩
    · rw [hnil] at hvl
      simp at hvl
      omega
    · exact ⟨h, by rw [hv, hvl], g1, g3, g4⟩
  obtain ⟨h, rfl, g1, g2, g3⟩ := hown
  have hsM := (eM.blk _ (by omega)).trans hsK
  have hn7 : xss.length ≤ 7 := by
    have := stopN_le (moreD xs0 a0 xs1) a2.toNat
    omega
  have hk0 : ¬ (k : Int) < 0 := by omega
  simp (disch := first | assumption | omega | rfl | (refine id ?_; simp only [gxD, ne_eq, reduceCtorEq, not_false_eq_true, Nat.reduceAdd, *]; done) | (refine id ?_; simp only [gxD]; omega)) only [↓gxPre, gxPost, ↓reduceIte, Nat.reduceEqDiff, reduceCtorEq, Nat.reduceAdd, hk0]
  refine loop_forH (xss.length - 1 - k) (fun i => [.int .i64 k, .pointer (some ⟨H.n, 0, some 2⟩), .slice (some ⟨h, 0, none⟩) xss.length xss.length, .int .i64 i])
    (fun i F => M.n ≤ F.n ∧ Ext K F ∧ ∃ us, F.blk h = some ⟨true, t_sfloat32, us⟩ ∧ OwN K.n F.n F t_float32 us ((coarseU xss k i).map (List.map fv))) rfl
    ⟨Nat.le_refl _, eM, vs, g3, by rw [coarseU_zero]; exact on⟩ ?_ ?_
  · rintro F ⟨nF, eF, us, hb, ho⟩
    have hul : us.length = xss.length := by have := ho.1; simpa [coarseU_len] using this
    have hsF := (eF.blk _ (by omega)).trans hsK
    have eHF := eK.trans eF
    have hlt : ¬ (((xss.length - 1 - k : Nat) : Int) < (xss.length : Int) - 1 - (k : Int)) := by omega
    have hss : SS F (.slice (some ⟨h, 0, none⟩) xss.length xss.length) (coarseU xss k (xss.length - 1 - k)) :=
      OwS.ss (lo := K.n) (hi := F.n) (sty := t_sfloat32) (ty := t_float32) ⟨us, .mk hb hul g1 (by omega) (by omega), ho⟩
    simp (disch := first | assumption | omega | rfl | (refine id ?_; simp only [gxD, ne_eq, reduceCtorEq, not_false_eq_true, Nat.reduceAdd, *]; done) | (refine id ?_; simp only [gxD]; omega)) only [↓gxPre, gxPost, ↓reduceIte, Nat.reduceEqDiff, reduceCtorEq, Nat.reduceAdd, hlt, hsF]
    refine callR_of (i_DropDeep_core ⟨A0.rd.ext eHF, A0.le⟩ b0 ⟨hss, by rw [coarseU_tot]; exact q⟩) ?_
    rintro _ W ⟨eW, w, rfl, ow, qw⟩
    have hn := eHF.n
    simp (disch := first | assumption | omega | rfl | (refine id ?_; simp only [gxD, ne_eq, reduceCtorEq, not_false_eq_true, Nat.reduceAdd, *]; done) | (refine id ?_; simp only [gxD]; omega)) only [↓gxPre, gxPost, ↓reduceIte, Nat.reduceEqDiff, reduceCtorEq, Nat.reduceAdd]
    exact ⟨eHF.trans eW, _, rfl, ow.wide hn (Nat.le_refl _), qw⟩
  · rintro i F hi ⟨nF, eF, us, hb, ho⟩
    have hul : us.length = xss.length := by have := ho.1; simpa [coarseU_len] using this
    have hlt : (i : Int) < (xss.length : Int) - 1 - (k : Int) := by omega
    have hat : us[i]? = some (us.getD i undef) := by
      have : i < us.length := by omega
      simp [List.getD_eq_getElem?_getD, this]
    have hrow : ((coarseU xss k i).map (List.map fv)).getD i [] = (xss.getD i []).map fv := by
      have h1 : (coarseU xss k i).getD i [] = xss.getD i [] := by rw [coarseU_at (by omega), if_neg (by omega)]
      rw [← h1]
      have : i < (coarseU xss k i).length := by rw [coarseU_len]; omega
      simp [List.getD_eq_getElem?_getD, this]
    have hoi : OwL K.n F.n F t_float32 (us.getD i undef) ((xss.getD i []).map fv) := by
      have := ho.2.1 i (by rw [List.length_map, coarseU_len]; omega)
      rwa [hrow] at this
    have hlen := hoi.fs.len
    obtain ⟨L, hLn⟩ : ∃ L, L = (xss.getD i []).length := ⟨_, rfl⟩
    have hLb : L ≤ 2 ^ 40 := by rw [hLn]; exact totL_row q i
    rw [← hLn] at hlen
    have hmk : ∀ G, eMks t_float32 4 (.float .f32 0) (.int .i64 (L : Int)) (.int .i64 (L : Int)) G = some (.slice (some ⟨G.n, 0, none⟩) L L, G.new ⟨true, t_float32, (zerosF L).map fv⟩) := fun G => by
      rw [← zerosF_map]
      exact eMks_i (by omega)
    simp (disch := first | assumption | omega | rfl | (refine id ?_; simp only [gxD, ne_eq, reduceCtorEq, not_false_eq_true, Nat.reduceAdd, *]; done) | (refine id ?_; simp only [gxD]; omega)) only [↓gxPre, gxPost, ↓reduceIte, Nat.reduceEqDiff, reduceCtorEq, Nat.reduceAdd, hlt, hb, hat, hlen, hmk]
    have eZ : Ext F (F.new ⟨true, t_float32, (zerosF L).map fv⟩) := .new _ _
    have hbZ := (eZ.blk _ (by omega)).trans hb
    have pz : OwL K.n (F.n + 1) (F.new ⟨true, t_float32, (zerosF L).map fv⟩) t_float32 (.slice (some ⟨F.n, 0, none⟩) L L) ((zerosF L).map fv) := .mk (new_self _ _) (by rw [lMapN, zerosF_length]) (by omega) (by omega) (by first | omega | (simp only [new_n, put_n]; omega))
    have q1 := OwN_at ((ho.ext eZ).wide (Nat.le_refl _) (Nat.le_succ _)) (i := i) (by rw [List.length_map, coarseU_len]; omega) pz fun j x hj hx hz => by
      have h1 := (ho.lt hj hx).2.1
      simp only [hdl, Option.some.injEq] at hz
      omega
    have q2 := OwN_put (b := ⟨true, t_sfloat32, us.set i (.slice (some ⟨F.n, 0, none⟩) L L)⟩) q1 hbZ (by decide)
    refine ⟨by simp, (by first | omega | (simp only [new_n, put_n]; omega)), (eF.trans eZ).put g1 _, _, rfl, ?_⟩
    rw [coarseU_succ (by omega), List.map_set]
    have hc : coarseL xss k i = zerosF L := by unfold coarseL; rw [if_pos (by omega), hLn]
    rw [hc]
    exact q2
end Go.Proofs.Ytddekdgggpifmaa
