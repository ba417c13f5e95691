/- What the functions of the program do: contracts that are proved. -/
import Derived.Test.YtddekdgggpifmaaFnLiftsBToXA
namespace Go.Proofs.Ytddekdgggpifmaa
open Go.Gx
set_option maxRecDepth 100000
set_option linter.unusedSimpArgs false
set_option linter.unusedVariables false

theorem weighDown_zero (ws : List Nat) (p : List Nat × List Nat) : weighDown ws p 0 = p := rfl
theorem weighDown_succ (ws : List Nat) (p : List Nat × List Nat) (i : Nat) : weighDown ws p (i + 1) = weighF (ws.length - 1 - i) (fneg .f32 (ws.getD (ws.length - 1 - i) 0)) (weighDown ws p i) := rfl
def dropOk (ws : List Nat) (sc : Nat) (ev od : List Nat) : Bool := schemeF ws sc && fitF ev.length od.length && (ev.all finF && od.all finF) && (dropF ws sc ev od).all finF
theorem dropF_len (ws : List Nat) (sc : Nat) (ev od : List Nat) : (dropF ws sc ev od).length ≤ 2 * ev.length := by
  unfold dropF
  split
  · omega
  · have h := wovL_len (d := 0) (ev := (weighDown ws (ev.map fun x => fbin .quo .f32 x sc, od.map fun x => fbin .mul .f32 x sc) ws.length).1) (od := (weighDown ws (ev.map fun x => fbin .quo .f32 x sc, od.map fun x => fbin .mul .f32 x sc) ws.length).2) ((weighDown ws (ev.map fun x => fbin .quo .f32 x sc, od.map fun x => fbin .mul .f32 x sc) ws.length).1.length)
    have h2 := (weighDown_len ws (ev.map fun x => fbin .quo .f32 x sc, od.map fun x => fbin .mul .f32 x sc) ws.length).1
    simp only [List.length_map] at h2
    dsimp only
    rw [h2] at h ⊢
    exact h
theorem fit_facts {a b : Nat} (h : fitF a b = true) : 1 ≤ a ∧ (b = a ∨ b + 1 = a) ∧ a + b ≤ 128 := by
  simp only [fitF, Bool.and_eq_true, Bool.or_eq_true, decide_eq_true_eq] at h
  exact ⟨h.1.1, h.1.2, h.2⟩
theorem i_copyOf_ex {H : Heap} {v : Value} {xs : List Nat} (hv : FS H v xs) (hn : xs.length ≤ 2 ^ 40) :
    ACalls Try.prog n_i_copyOf [v] H fun r H' => Ext H H' ∧ r = .slice (some ⟨H.n, 0, none⟩) xs.length xs.length ∧ H'.n = H.n + 1 ∧ H'.blk H.n = some ⟨true, t_float32, xs.map fv⟩ := by
  refine (i_copyOf_ok hv hn).mono ?_
  rintro _ _ ⟨rfl, rfl⟩
  exact ⟨.new _ _, rfl, rfl, new_self _ _⟩
theorem i_woven_f_ok {H : Heap} {v u : Value} {ev od : List Nat} (hv : FS H v ev) (hu : FS H u od) (hn : ev.length ≤ 2 ^ 30) (hm : od.length ≤ 2 ^ 30) :
    ACalls Try.prog n_i_woven_float32_ [v, u] H fun r H' => Ext H H' ∧ H.n + 1 ≤ H'.n ∧ r = .slice (some ⟨H.n, 0, none⟩) (wovL 0 ev od ev.length).length (wovL 0 ev od ev.length).length ∧ H'.blk H.n = some ⟨true, t_float32, (wovL 0 ev od ev.length).map fv⟩ := by
  refine k_i_woven_float32_.run rfl ?_
  unfold c_i_woven_float32_
  simp (disch := first | assumption | omega | rfl | (refine id ?_; simp only [gxD, ne_eq, reduceCtorEq, not_false_eq_true, Nat.reduceAdd, *]; done) | (refine id ?_; simp only [gxD]; omega)) only [↓gxPre, gxPost, ↓reduceIte, Nat.reduceEqDiff, reduceCtorEq, Nat.reduceAdd, hv.len]
  refine loop_forH ev.length (fun i => [u, .slice (some ⟨H.n, 0, none⟩) (wovL 0 ev od i).length (wovL 0 ev od i).length, v, .int .i64 ev.length, .int .i64 i])
    (fun i G => H.n + 1 ≤ G.n ∧ Ext H G ∧ G.blk H.n = some ⟨true, t_float32, (wovL 0 ev od i).map fv⟩) rfl ⟨by simp only [new_n]; omega, ⟨by first | omega | (simp only [new_n, put_n]; omega) | (simp only [new_n, put_n] at *; omega), fun i hi => by simp (disch := first | assumption | omega | rfl | (refine id ?_; simp only [gxD, ne_eq, reduceCtorEq, not_false_eq_true, Nat.reduceAdd, *]; done) | (refine id ?_; simp only [gxD]; omega)) only [↓gxPre, gxPost, ↓reduceIte, Nat.reduceEqDiff, reduceCtorEq, Nat.reduceAdd, *]⟩, by simp (disch := first | assumption | omega | rfl | (refine id ?_; simp only [gxD, ne_eq, reduceCtorEq, not_false_eq_true, Nat.reduceAdd, *]; done) | (refine id ?_; simp only [gxD]; omega)) only [↓gxPre, gxPost, ↓reduceIte, Nat.reduceEqDiff, reduceCtorEq, Nat.reduceAdd]; rfl⟩ ?_ ?_
  · rintro G ⟨hG, hE, hc⟩
    simp (disch := first | assumption | omega | rfl | (refine id ?_; simp only [gxD, ne_eq, reduceCtorEq, not_false_eq_true, Nat.reduceAdd, *]; done) | (refine id ?_; simp only [gxD]; omega)) only [↓gxPre, gxPost, ↓reduceIte, Nat.reduceEqDiff, reduceCtorEq, Nat.reduceAdd, Int.lt_irrefl]
    exact ⟨hE, hG, hc⟩
  · rintro i G hi ⟨hG, hE, hc⟩
    have hv' := hv.ext hE
    have hu' := hu.ext hE
    have hw := wovL_len (d := 0) (ev := ev) (od := od) i
    have l1 : ((wovL 0 ev od i).map fv).length = (wovL 0 ev od i).length := by rw [lMapN]
    have l2 : ((wovL 0 ev od i).map fv ++ [Value.float .f32 (ev.getD i 0)]).length = (wovL 0 ev od i).length + 1 := by simp
    obtain ⟨f1, f2, f3, f4⟩ := push_at (x := .float .f32 (ev.getD i 0)) hE hc (Nat.le_refl _) (by omega) rfl
    by_cases h2 : i < od.length
    · have hc2 : ((i : Nat) : Int) < od.length := by omega
      obtain ⟨g1, g2, g3, g4⟩ := push_at (x := .float .f32 (od.getD i 0)) f1 f2 (Nat.le_refl _) (by rw [f3]; omega) rfl
      have hm5 : (wovL 0 ev od i).map fv ++ [Value.float .f32 (ev.getD i 0)] ++ [Value.float .f32 (od.getD i 0)] = (wovL 0 ev od (i + 1)).map fv := by rw [wovL_both h2, fv_snoc', fv_snoc']
      have hl5 : (wovL 0 ev od (i + 1)).length = (wovL 0 ev od i).length + 1 + 1 := by rw [wovL_both h2]; simp
      simp (disch := first | assumption | omega | rfl | (refine id ?_; simp only [gxD, ne_eq, reduceCtorEq, not_false_eq_true, Nat.reduceAdd, *]; done) | (refine id ?_; simp only [gxD]; omega)) only [↓gxPre, gxPost, ↓reduceIte, Nat.reduceEqDiff, reduceCtorEq, Nat.reduceAdd, hv'.ia, hv'.ld, hu'.len, hc, (hu.ext f1).ia, (hu.ext f1).ld, (hu.ext f1).len, hc2, rd1_at]
      refine ⟨by rw [hl5]; simp, by omega, g1, ?_⟩
      rw [← hm5]
    · have hc2 : ¬ ((i : Nat) : Int) < od.length := by omega
      have hm5 : (wovL 0 ev od i).map fv ++ [Value.float .f32 (ev.getD i 0)] = (wovL 0 ev od (i + 1)).map fv := by rw [wovL_one h2, fv_snoc']
      have hl5 : (wovL 0 ev od (i + 1)).length = (wovL 0 ev od i).length + 1 := by rw [wovL_one h2]; simp
      simp (disch := first | assumption | omega | rfl | (refine id ?_; simp only [gxD, ne_eq, reduceCtorEq, not_false_eq_true, Nat.reduceAdd, *]; done) | (refine id ?_; simp only [gxD]; omega)) only [↓gxPre, gxPost, ↓reduceIte, Nat.reduceEqDiff, reduceCtorEq, Nat.reduceAdd, hv'.ia, hv'.ld, hu'.len, hc, (hu.ext f1).len, hc2]
      refine ⟨by rw [hl5]; simp, by omega, f1, ?_⟩
      rw [← hm5]
theorem i_DropOnce_core {H : Heap} {v0 v1 v2 : Value} {xs0 xs1 xs2 : List Nat} {a0 : Nat} (A0 : RF H v0 xs0) (b0 : a0 < 2 ^ 32) (A1 : RF H v1 xs1) (A2 : RF H v2 xs2) :
    ACalls Try.prog n_i_DropOnce [.agg #[v0, .float .f32 a0], v1, v2] H fun r H' => ListR fv t_float32 H (dropOk xs0 a0 xs1 xs2) (dropF xs0 a0 xs1 xs2) r H' := by
  refine k_i_DropOnce.run rfl ?_
  unfold c_i_DropOnce
  have o0 := A0.rd.one
  have e0 : Ext H (H.new ⟨true, t_Scheme, [v0, .float .f32 a0]⟩) := .new _ _
  have hA1 := A1.le
  have hA2 := A2.le
  simp (disch := first | assumption | omega | rfl | (refine id ?_; simp only [gxD, ne_eq, reduceCtorEq, not_false_eq_true, Nat.reduceAdd, *]; done) | (refine id ?_; simp only [gxD]; omega)) only [↓gxPre, gxPost, ↓reduceIte, Nat.reduceEqDiff, reduceCtorEq, Nat.reduceAdd, A1.rd.len]
  refine callR_ext (i_ValidScheme_ok (A0.rd.ext e0) A0.le) ?_
  intro H1 n1 bb1
  have e1 := e0.trans ⟨n1, bb1⟩
  have hs1 : H1.blk H.n = some ⟨true, t_Scheme, [v0, .float .f32 a0]⟩ := (bb1 _ (by first | omega | (simp only [new_n, put_n]; omega))).trans (by simp (disch := first | assumption | omega | rfl | (refine id ?_; simp only [gxD, ne_eq, reduceCtorEq, not_false_eq_true, Nat.reduceAdd, *]; done) | (refine id ?_; simp only [gxD]; omega)) only [↓gxPre, gxPost, ↓reduceIte, Nat.reduceEqDiff, reduceCtorEq, Nat.reduceAdd])
  simp only [new_n] at n1
  cases h0 : schemeF xs0 a0
  · simp (disch := first | assumption | omega | rfl | (refine id ?_; simp only [gxD, ne_eq, reduceCtorEq, not_false_eq_true, Nat.reduceAdd, *]; done) | (refine id ?_; simp only [gxD]; omega)) only [↓gxPre, gxPost, ↓reduceIte, Nat.reduceEqDiff, reduceCtorEq, Nat.reduceAdd]
    exact .no (by simp only [dropOk, h0, Bool.false_and, Bool.true_and, Bool.and_true, Bool.and_false, Bool.or_true, Bool.true_or, Bool.false_or, Bool.or_false, Bool.and_self, Bool.or_self]) e1
  have h01 : xs0.all finF = true ∧ (1 : Int) ≤ xs0.length ∧ (xs0.length : Int) ≤ 8 := by
    unfold schemeF at h0
    simp only [Bool.and_eq_true] at h0
    exact ⟨h0.1.2, within_true.1 h0.1.1⟩
  obtain ⟨hf0, hs8, hs9⟩ := h01
  cases h1 : fitF xs1.length xs2.length
  · by_cases d1 : (xs1.length : Int) < 1
    · simp (disch := first | assumption | omega | rfl | (refine id ?_; simp only [gxD, ne_eq, reduceCtorEq, not_false_eq_true, Nat.reduceAdd, *]; done) | (refine id ?_; simp only [gxD]; omega)) only [↓gxPre, gxPost, ↓reduceIte, Nat.reduceEqDiff, reduceCtorEq, Nat.reduceAdd, A1.rd.len, A2.rd.len, d1]
      exact .no (by simp only [dropOk, h1, Bool.false_and, Bool.true_and, Bool.and_true, Bool.and_false, Bool.or_true, Bool.true_or, Bool.false_or, Bool.or_false, Bool.and_self, Bool.or_self]) e1
    by_cases d2 : (xs2.length : Int) = xs1.length
    · have d3 : (128 : Int) < xs1.length + xs2.length := by
        simp only [fitF, Bool.and_eq_false_iff, Bool.or_eq_false_iff, decide_eq_false_iff_not] at h1
        omega
      simp (disch := first | assumption | omega | rfl | (refine id ?_; simp only [gxD, ne_eq, reduceCtorEq, not_false_eq_true, Nat.reduceAdd, *]; done) | (refine id ?_; simp only [gxD]; omega)) only [↓gxPre, gxPost, ↓reduceIte, Nat.reduceEqDiff, reduceCtorEq, Nat.reduceAdd, A1.rd.len, A2.rd.len, d1, d2, ne_eq, not_true, not_false_eq_true, Bool.false_and, Bool.true_and, Bool.and_true, Bool.and_false, Bool.or_true, Bool.true_or, Bool.false_or, Bool.or_false, Bool.and_self, Bool.or_self, d3]
      exact .no (by simp only [dropOk, h1, Bool.false_and, Bool.true_and, Bool.and_true, Bool.and_false, Bool.or_true, Bool.true_or, Bool.false_or, Bool.or_false, Bool.and_self, Bool.or_self]) e1
    by_cases d4 : (xs2.length : Int) = xs1.length - 1
    · have d3 : (128 : Int) < xs1.length + xs2.length := by
        simp only [fitF, Bool.and_eq_false_iff, Bool.or_eq_false_iff, decide_eq_false_iff_not] at h1
        omega
      simp (disch := first | assumption | omega | rfl | (refine id ?_; simp only [gxD, ne_eq, reduceCtorEq, not_false_eq_true, Nat.reduceAdd, *]; done) | (refine id ?_; simp only [gxD]; omega)) only [↓gxPre, gxPost, ↓reduceIte, Nat.reduceEqDiff, reduceCtorEq, Nat.reduceAdd, A1.rd.len, A2.rd.len, d1, d2, d4, ne_eq, not_true, not_false_eq_true, Bool.false_and, Bool.true_and, Bool.and_true, Bool.and_false, Bool.or_true, Bool.true_or, Bool.false_or, Bool.or_false, Bool.and_self, Bool.or_self, d3]
      exact .no (by simp only [dropOk, h1, Bool.false_and, Bool.true_and, Bool.and_true, Bool.and_false, Bool.or_true, Bool.true_or, Bool.false_or, Bool.or_false, Bool.and_self, Bool.or_self]) e1
    · simp (disch := first | assumption | omega | rfl | (refine id ?_; simp only [gxD, ne_eq, reduceCtorEq, not_false_eq_true, Nat.reduceAdd, *]; done) | (refine id ?_; simp only [gxD]; omega)) only [↓gxPre, gxPost, ↓reduceIte, Nat.reduceEqDiff, reduceCtorEq, Nat.reduceAdd, A1.rd.len, A2.rd.len, d1, d2, d4, ne_eq, not_true, not_false_eq_true, Bool.false_and, Bool.true_and, Bool.and_true, Bool.and_false, Bool.or_true, Bool.true_or, Bool.false_or, Bool.or_false, Bool.and_self, Bool.or_self]
      exact .no (by simp only [dropOk, h1, Bool.false_and, Bool.true_and, Bool.and_true, Bool.and_false, Bool.or_true, Bool.true_or, Bool.false_or, Bool.or_false, Bool.and_self, Bool.or_self]) e1
  obtain ⟨p1, p2, p3⟩ := fit_facts h1
  have d1 : ¬ (xs1.length : Int) < 1 := by omega
  have d3 : ¬ (128 : Int) < xs1.length + xs2.length := by omega
  have o1 := A1.rd.one
  have o2 := A2.rd.one
  have d2 : ((xs2.length : Int) = xs1.length ∨ (¬ (xs2.length : Int) = xs1.length ∧ (xs2.length : Int) = xs1.length - 1)) := by omega
  have key : ∀ (P : Prop), ((xs2.length : Int) = xs1.length → P) → ((¬ (xs2.length : Int) = xs1.length) → ((xs2.length : Int) = xs1.length - 1) → P) → P := fun P f g => d2.elim f fun h => g h.1 h.2
  refine key _ (fun d2 => ?_) (fun d2 d4 => ?_)
  all_goals first | simp (disch := first | assumption | omega | rfl | (refine id ?_; simp only [gxD, ne_eq, reduceCtorEq, not_false_eq_true, Nat.reduceAdd, *]; done) | (refine id ?_; simp only [gxD]; omega)) only [↓gxPre, gxPost, ↓reduceIte, Nat.reduceEqDiff, reduceCtorEq, Nat.reduceAdd, A1.rd.len, A2.rd.len, d1, d2, d4, d3, ne_eq, not_true, not_false_eq_true, Bool.false_and, Bool.true_and, Bool.and_true, Bool.and_false, Bool.or_true, Bool.true_or, Bool.false_or, Bool.or_false, Bool.and_self, Bool.or_self] | simp (disch := first | assumption | omega | rfl | (refine id ?_; simp only [gxD, ne_eq, reduceCtorEq, not_false_eq_true, Nat.reduceAdd, *]; done) | (refine id ?_; simp only [gxD]; omega)) only [↓gxPre, gxPost, ↓reduceIte, Nat.reduceEqDiff, reduceCtorEq, Nat.reduceAdd, A1.rd.len, A2.rd.len, d1, d2, d3, ne_eq, not_true, not_false_eq_true, Bool.false_and, Bool.true_and, Bool.and_true, Bool.and_false, Bool.or_true, Bool.true_or, Bool.false_or, Bool.or_false, Bool.and_self, Bool.or_self]
  all_goals clear d2
  all_goals try clear d4
  all_goals refine callR_new ?_
  all_goals intro N eN hbN nN
  all_goals (
    have eF := e1.trans eN
    have hsN := (eN.blk _ (by omega)).trans hs1
    have nN1 : H1.n < N.n := by omega
    refine callR_pure (i_areFinite2_ok hbN nN1 (A1.rd.ext eF) (A2.rd.ext eF) A1.le A2.le) (.inl rfl) ?_
    clear hbN nN
    cases h3 : (xs1.all finF && xs2.all finF)
    · simp (disch := first | assumption | omega | rfl | (refine id ?_; simp only [gxD, ne_eq, reduceCtorEq, not_false_eq_true, Nat.reduceAdd, *]; done) | (refine id ?_; simp only [gxD]; omega)) only [↓gxPre, gxPost, ↓reduceIte, Nat.reduceEqDiff, reduceCtorEq, Nat.reduceAdd]
      exact .no (by simp only [dropOk, h3, Bool.false_and, Bool.true_and, Bool.and_true, Bool.and_false, Bool.or_true, Bool.true_or, Bool.false_or, Bool.or_false, Bool.and_self, Bool.or_self]) eF
    simp (disch := first | assumption | omega | rfl | (refine id ?_; simp only [gxD, ne_eq, reduceCtorEq, not_false_eq_true, Nat.reduceAdd, *]; done) | (refine id ?_; simp only [gxD]; omega)) only [↓gxPre, gxPost, ↓reduceIte, Nat.reduceEqDiff, reduceCtorEq, Nat.reduceAdd]
    refine callR_of (i_copyOf_ex (A1.rd.ext eF) A1.le) ?_
    rintro _ P ⟨eP, rfl, nP, hcP⟩
    have eFP := eF.trans eP
    simp (disch := first | assumption | omega | rfl | (refine id ?_; simp only [gxD, ne_eq, reduceCtorEq, not_false_eq_true, Nat.reduceAdd, *]; done) | (refine id ?_; simp only [gxD]; omega)) only [↓gxPre, gxPost, ↓reduceIte, Nat.reduceEqDiff, reduceCtorEq, Nat.reduceAdd]
    refine callR_of (i_copyOf_ex (A2.rd.ext eFP) A2.le) ?_
    rintro _ K ⟨eK', rfl, nK, hd⟩
    have eK := eFP.trans eK'
    have hc := (eK'.blk _ (by omega)).trans hcP
    have hsK := (eK'.blk _ (by omega)).trans ((eP.blk _ (by omega)).trans hsN)
    simp (disch := first | assumption | omega | rfl | (refine id ?_; simp only [gxD, ne_eq, reduceCtorEq, not_false_eq_true, Nat.reduceAdd, *]; done) | (refine id ?_; simp only [gxD]; omega)) only [↓gxPre, gxPost, ↓reduceIte, Nat.reduceEqDiff, reduceCtorEq, Nat.reduceAdd]
    by_cases hz : xs2.length = 0
    · have hz' : ((xs2.length : Nat) : Int) = 0 := by omega
      have hL : dropF xs0 a0 xs1 xs2 = xs1 := by unfold dropF; rw [if_pos hz]
      have h3' : xs1.all finF = true ∧ xs2.all finF = true := by rwa [Bool.and_eq_true] at h3
      have hO : dropOk xs0 a0 xs1 xs2 = true := by simp only [dropOk, hL, h0, h1, h3'.1, h3'.2, Bool.false_and, Bool.true_and, Bool.and_true, Bool.and_false, Bool.or_true, Bool.true_or, Bool.false_or, Bool.or_false, Bool.and_self, Bool.or_self]
      rw [hL, hO]
      simp (disch := first | assumption | omega | rfl | (refine id ?_; simp only [gxD, ne_eq, reduceCtorEq, not_false_eq_true, Nat.reduceAdd, *]; done) | (refine id ?_; simp only [gxD]; omega)) only [↓gxPre, gxPost, ↓reduceIte, Nat.reduceEqDiff, reduceCtorEq, Nat.reduceAdd, hz']
      exact .yes rfl eK (.mk hc (by simp) (by omega) (by omega) (by omega)) (by omega)
    have hz' : ¬ ((xs2.length : Nat) : Int) = 0 := by omega
    simp (disch := first | assumption | omega | rfl | (refine id ?_; simp only [gxD, ne_eq, reduceCtorEq, not_false_eq_true, Nat.reduceAdd, *]; done) | (refine id ?_; simp only [gxD]; omega)) only [↓gxPre, gxPost, ↓reduceIte, Nat.reduceEqDiff, reduceCtorEq, Nat.reduceAdd, hz']
    refine loop_forH xs1.length (fun i => [.pointer (some ⟨H.n, 0, some 2⟩), .slice (some ⟨N.n, 0, none⟩) xs1.length xs1.length, .slice (some ⟨P.n, 0, none⟩) xs2.length xs2.length, .int .i64 xs1.length, .int .i64 i])
      (fun i F => K.n ≤ F.n ∧ F.blk N.n = some ⟨true, t_float32, (quoL a0 xs1 i).map fv⟩ ∧ F.blk P.n = some ⟨true, t_float32, xs2.map fv⟩ ∧ F.blk H.n = some ⟨true, t_Scheme, [v0, .float .f32 a0]⟩ ∧ ∀ j, j < K.n → j ≠ N.n → j ≠ P.n → F.blk j = K.blk j) rfl
      ⟨Nat.le_refl _, by rw [quoL_zero]; exact hc, hd, hsK, fun _ _ _ _ => rfl⟩ ?_ ?_
    rotate_left
    · rintro i F hi ⟨hFn, hfa, hfb, hfs, hFF⟩
      have ht := quoL_at (sc := a0) (xs := xs1) (i := i) (by omega)
      have lm : ((quoL a0 xs1 i).map fv).length = xs1.length := by rw [lMapN, quoL_length]
      simp (disch := first | assumption | omega | rfl | (refine id ?_; simp only [gxD, ne_eq, reduceCtorEq, not_false_eq_true, Nat.reduceAdd, *]; done) | (refine id ?_; simp only [gxD]; omega)) only [↓gxPre, gxPost, ↓reduceIte, Nat.reduceEqDiff, reduceCtorEq, Nat.reduceAdd, hfa, ht, hfs]
      refine ⟨by simp, by simpa using hFn, ?_, hfb, fun j h1 h2 h3 => ?_⟩
      · first | (rw [quoL_set]; done) | (rw [hput_self, quoL_set])
      · first | exact hFF j h1 h2 h3 | rw [hput_other _ _ _ _ h2, hFF j h1 h2 h3]
    rintro F ⟨hFn, hfa, hfb, hfs, hFF⟩
    rw [quoL_all] at hfa
    simp (disch := first | assumption | omega | rfl | (refine id ?_; simp only [gxD, ne_eq, reduceCtorEq, not_false_eq_true, Nat.reduceAdd, *]; done) | (refine id ?_; simp only [gxD]; omega)) only [↓gxPre, gxPost, ↓reduceIte, Nat.reduceEqDiff, reduceCtorEq, Nat.reduceAdd, Int.lt_irrefl]
    refine loop_forH xs2.length (fun i => [.pointer (some ⟨H.n, 0, some 2⟩), .slice (some ⟨N.n, 0, none⟩) xs1.length xs1.length, .slice (some ⟨P.n, 0, none⟩) xs2.length xs2.length, .int .i64 xs2.length, .int .i64 i])
      (fun i F => K.n ≤ F.n ∧ F.blk N.n = some ⟨true, t_float32, (xs1.map fun x => fbin .quo .f32 x a0).map fv⟩ ∧ F.blk P.n = some ⟨true, t_float32, (mulL a0 xs2 i).map fv⟩ ∧ F.blk H.n = some ⟨true, t_Scheme, [v0, .float .f32 a0]⟩ ∧ ∀ j, j < K.n → j ≠ N.n → j ≠ P.n → F.blk j = K.blk j) rfl
      ⟨hFn, hfa, by rw [mulL_zero]; exact hfb, hfs, hFF⟩ ?_ ?_
    rotate_left
    · rintro i F hi ⟨hFn, hfa, hfb, hfs, hFF⟩
      have ht := mulL_at (sc := a0) (xs := xs2) (i := i) (by omega)
      have lm : ((mulL a0 xs2 i).map fv).length = xs2.length := by rw [lMapN, mulL_length]
      simp (disch := first | assumption | omega | rfl | (refine id ?_; simp only [gxD, ne_eq, reduceCtorEq, not_false_eq_true, Nat.reduceAdd, *]; done) | (refine id ?_; simp only [gxD]; omega)) only [↓gxPre, gxPost, ↓reduceIte, Nat.reduceEqDiff, reduceCtorEq, Nat.reduceAdd, hfb, ht, hfs]
      refine ⟨by simp, by simpa using hFn, hfa, ?_, fun j h1 h2 h3 => ?_⟩
      · first | (rw [mulL_set]; done) | (rw [hput_self, mulL_set])
      · first | exact hFF j h1 h2 h3 | rw [hput_other _ _ _ _ h3, hFF j h1 h2 h3]
    clear hFn hfa hfb hfs hFF F
    rintro G ⟨hGn, hga, hgb, hsG, hGF⟩
    rw [mulL_all] at hgb
    have eG : Ext H G := ⟨by have := eK.n; omega, fun j hj => (hGF j (by omega) (by omega) (by omega)).trans (eK.blk j hj)⟩
    have hvG := A0.rd.ext eG
    obtain ⟨p, hp⟩ : ∃ p, p = (xs1.map fun x => fbin .quo .f32 x a0, xs2.map fun x => fbin .mul .f32 x a0) := ⟨_, rfl⟩
    have lp1 : p.1.length = xs1.length := by rw [hp]; simp
    have lp2 : p.2.length = xs2.length := by rw [hp]; simp
    have lw1 : ∀ i, (weighDown xs0 p i).1.length = xs1.length := fun i => (weighDown_len xs0 p i).1.trans lp1
    have lw2 : ∀ i, (weighDown xs0 p i).2.length = xs2.length := fun i => (weighDown_len xs0 p i).2.trans lp2
    simp (disch := first | assumption | omega | rfl | (refine id ?_; simp only [gxD, ne_eq, reduceCtorEq, not_false_eq_true, Nat.reduceAdd, *]; done) | (refine id ?_; simp only [gxD]; omega)) only [↓gxPre, gxPost, ↓reduceIte, Nat.reduceEqDiff, reduceCtorEq, Nat.reduceAdd, Int.lt_irrefl, hsG, hvG.len]
    refine loop_forH xs0.length (fun t => [.pointer (some ⟨H.n, 0, some 2⟩), .slice (some ⟨N.n, 0, none⟩) xs1.length xs1.length, .slice (some ⟨P.n, 0, none⟩) xs2.length xs2.length, .int .i64 ((xs0.length : Int) - 1 - (t : Int))])
      (fun t F => K.n ≤ F.n ∧ F.blk N.n = some ⟨true, t_float32, (weighDown xs0 p t).1.map fv⟩ ∧ F.blk P.n = some ⟨true, t_float32, (weighDown xs0 p t).2.map fv⟩ ∧ ∀ j, j < K.n → j ≠ N.n → j ≠ P.n → F.blk j = K.blk j) (by simp)
      ⟨hGn, by rw [weighDown_zero, hp]; exact hga, by rw [weighDown_zero, hp]; exact hgb, hGF⟩ ?_ ?_
    rotate_left
    · rintro t F ht ⟨hFn, hfa, hfb, hFF⟩
      obtain ⟨k, hk⟩ : ∃ k, k = xs0.length - 1 - t := ⟨_, rfl⟩
      have hki : (xs0.length : Int) - 1 - (t : Int) = (k : Int) := by omega
      have eX : Ext H F := ⟨by have := eK.n; omega, fun j hj => (hFF j (by omega) (by omega) (by omega)).trans (eK.blk j hj)⟩
      have hv := A0.rd.ext eX
      have hfs : F.blk H.n = some ⟨true, t_Scheme, [v0, .float .f32 a0]⟩ := (hFF _ (by omega) (by omega) (by omega)).trans hsK
      have hnan : nanB .f32 (xs0.getD k 0) = false := fin_nan (all_getD.1 hf0 k (by omega))
      have hk0 : (0 : Int) ≤ (k : Int) := by omega
      simp only [hki]
      simp (disch := first | assumption | omega | rfl | (refine id ?_; simp only [gxD, ne_eq, reduceCtorEq, not_false_eq_true, Nat.reduceAdd, *]; done) | (refine id ?_; simp only [gxD]; omega)) only [↓gxPre, gxPost, ↓reduceIte, Nat.reduceEqDiff, reduceCtorEq, Nat.reduceAdd, hfs, hv.ia, hv.ld, hk0]
      refine callR_of (i_weigh_at hfa hfb (lw1 t) (lw2 t) (by omega) (by omega) (by omega) (by omega) (by omega) (by omega) (by omega) hnan (by omega)) ?_
      rintro _ G' ⟨rfl, hn', ha', hb', hF'⟩
      simp (disch := first | assumption | omega | rfl | (refine id ?_; simp only [gxD, ne_eq, reduceCtorEq, not_false_eq_true, Nat.reduceAdd, *]; done) | (refine id ?_; simp only [gxD]; omega)) only [↓gxPre, gxPost, ↓reduceIte, Nat.reduceEqDiff, reduceCtorEq, Nat.reduceAdd]
      refine ⟨by simp; omega, by omega, ?_, ?_, fun j h1 h2 h3 => (hF' j (by omega) h2 h3).trans (hFF j h1 h2 h3)⟩
      · rw [weighDown_succ, ← hk]; simpa using ha'
      · rw [weighDown_succ, ← hk]; simpa using hb'
    rintro M ⟨hMn, hma, hmb, hMF⟩
    have hneg : ¬ (0 : Int) ≤ (xs0.length : Int) - 1 - (xs0.length : Int) := by omega
    have eM : Ext H M := ⟨by have := eK.n; omega, fun j hj => (hMF j (by omega) (by omega) (by omega)).trans (eK.blk j hj)⟩
    obtain ⟨q, hq⟩ : ∃ q, q = weighDown xs0 p xs0.length := ⟨_, rfl⟩
    have lq1 : q.1.length = xs1.length := by rw [hq]; exact lw1 _
    have lq2 : q.2.length = xs2.length := by rw [hq]; exact lw2 _
    rw [← hq] at hma hmb
    have hL : dropF xs0 a0 xs1 xs2 = wovL 0 q.1 q.2 q.1.length := by unfold dropF; rw [if_neg hz, ← hp, ← hq]
    have hwl := wovL_len (d := 0) (ev := q.1) (od := q.2) q.1.length
    have hO : dropOk xs0 a0 xs1 xs2 = (wovL 0 q.1 q.2 q.1.length).all finF := by simp only [dropOk, hL, h0, h1, h3, Bool.false_and, Bool.true_and, Bool.and_true, Bool.and_false, Bool.or_true, Bool.true_or, Bool.false_or, Bool.or_false, Bool.and_self, Bool.or_self]
    rw [hL, hO]
    simp (disch := first | assumption | omega | rfl | (refine id ?_; simp only [gxD, ne_eq, reduceCtorEq, not_false_eq_true, Nat.reduceAdd, *]; done) | (refine id ?_; simp only [gxD]; omega)) only [↓gxPre, gxPost, ↓reduceIte, Nat.reduceEqDiff, reduceCtorEq, Nat.reduceAdd, hneg]
    refine callR_of (i_woven_f_ok (FS.own hma (by omega) lq1) (FS.own hmb (by omega) lq2) (by omega) (by omega)) ?_
    rintro _ W ⟨eW, nW, rfl, hw⟩
    simp (disch := first | assumption | omega | rfl | (refine id ?_; simp only [gxD, ne_eq, reduceCtorEq, not_false_eq_true, Nat.reduceAdd, *]; done) | (refine id ?_; simp only [gxD]; omega)) only [↓gxPre, gxPost, ↓reduceIte, Nat.reduceEqDiff, reduceCtorEq, Nat.reduceAdd]
    refine callR_ext (i_finiteList_ok (FS.own hw (by omega) rfl) (by omega)) ?_
    intro X nX bX
    have eX : Ext W X := ⟨nX, bX⟩
    cases hf : (wovL 0 q.1 q.2 q.1.length).all finF
    · simp (disch := first | assumption | omega | rfl | (refine id ?_; simp only [gxD, ne_eq, reduceCtorEq, not_false_eq_true, Nat.reduceAdd, *]; done) | (refine id ?_; simp only [gxD]; omega)) only [↓gxPre, gxPost, ↓reduceIte, Nat.reduceEqDiff, reduceCtorEq, Nat.reduceAdd, listV]
      exact .no rfl ((eM.trans eW).trans eX)
    · simp (disch := first | assumption | omega | rfl | (refine id ?_; simp only [gxD, ne_eq, reduceCtorEq, not_false_eq_true, Nat.reduceAdd, *]; done) | (refine id ?_; simp only [gxD]; omega)) only [↓gxPre, gxPost, ↓reduceIte, Nat.reduceEqDiff, reduceCtorEq, Nat.reduceAdd, listV]
      have := eM.n
      exact .yes rfl ((eM.trans eW).trans eX) (.mk ((eX.blk _ (by omega)).trans hw) (by simp) (by omega) (by omega) (by omega)) (by omega))
theorem i_DropOnce_law {H : Heap} {v0 v1 v2 : Value} {xs0 xs1 xs2 : List Nat} {a0 : Nat} (A0 : AF H v0 xs0) (b0 : a0 < 2 ^ 32) (A1 : AF H v1 xs1) (A2 : AF H v2 xs2) :
    ACalls Try.prog n_i_DropOnce [.agg #[v0, .float .f32 a0], v1, v2] H fun r H' => ListR fv t_float32 H (dropOk xs0 a0 xs1 xs2) (dropF xs0 a0 xs1 xs2) r H' :=
  i_DropOnce_core ⟨A0.rd, A0.le⟩ b0 ⟨A1.rd, A1.le⟩ ⟨A2.rd, A2.le⟩
theorem wovL_nil (ev od : List Nat) (h : od.length = 0) : wovL 0 ev od ev.length = ev := by
  have h1 : ∀ j, ¬ j < od.length := fun j => by omega
  have h2 := range_getD_map (fun x => x) ev
  simp only [List.map_id'] at h2
  conv => rhs; rw [← h2]
  simp only [wovL, h1, if_false]
  exact List.map_eq_flatMap.symm
theorem new_put1 {H : Heap} {a b c : Blk} : ((H.new a).new b).put (H.n + 1) c = (H.new a).new c := new_put (H := H.new a) ..
end Go.Proofs.Ytddekdgggpifmaa

namespace Go.Proofs.Ytddekdgggpifmaa
open Go.Gx
set_option maxRecDepth 100000
set_option linter.unusedSimpArgs false
set_option linter.unusedVariables false

theorem new_put2 {H : Heap} {a b c : Blk} : ((H.new a).new b).put (H.n + 1) c = (H.new a).new c := new_put (H := H.new a) ..
theorem dropE_length (kind : Int) (ev od : List Int) : (dropE kind ev od).length = ev.length := by simp [dropE]
theorem dropO_length (kind : Int) (ev od : List Int) : (dropO kind ev od).length = od.length := by simp [dropO]
theorem i64_dropE (kind : Int) (ev od : List Int) : I64 (dropE kind ev od) := i64_range _ _ fun j => wr_range _
def dropOkI (kind : Int) (ev od : List Int) : Bool := within kind 0 2 && fitF ev.length od.length && boundF ev 10000000 && boundF od 10000000 && integersF (dropI kind ev od)
theorem fit_facts' {a b : Nat} (h : fitF a b = true) : 1 ≤ a ∧ (b = a ∨ b + 1 = a) ∧ a + b ≤ 128 := by
  simp only [fitF, Bool.and_eq_true, Bool.or_eq_true, decide_eq_true_eq] at h
  exact ⟨h.1.1, h.1.2, h.2⟩
structure RI (H : Heap) (v : Value) (xs : List Int) : Prop where
  rd : IS H v xs
  le : xs.length ≤ 2 ^ 40
end Go.Proofs.Ytddekdgggpifmaa

namespace Go.Proofs.Ytddekdgggpifmaa
open Go.Gx
set_option maxRecDepth 100000
set_option linter.unusedSimpArgs false
set_option linter.unusedVariables false

def zerosF (n : Nat) : List Nat := List.replicate n 0
theorem zerosF_length (n : Nat) : (zerosF n).length = n := by simp [zerosF]
theorem zerosF_map (n : Nat) : List.replicate n (Value.float .f32 0) = (zerosF n).map fv := rep_fv _
theorem zerosF_w (n : Nat) : W32 (zerosF n) := fun j => by
  unfold zerosF
  by_cases h : j < n <;> simp [List.getD_eq_getElem?_getD, h]
theorem zerosF_fin (n : Nat) : (zerosF n).all finF = true := by
  rw [List.all_eq_true]
  intro x hx
  rw [zerosF, List.mem_replicate] at hx
  rw [hx.2]
  decide
def growOk (ws : List Nat) (sc : Nat) (xs : List Nat) : Bool := isLongF xs && (decide (xs.length ≤ 64) && dropOk ws sc xs (zerosF xs.length))
theorem isLong_fin {xs : List Nat} (h : isLongF xs = true) : xs.all finF = true := by
  unfold isLongF at h
  rw [Bool.and_eq_true] at h
  exact h.2
theorem fit_same {n : Nat} (h : 1 ≤ n) (h' : n ≤ 64) : fitF n n = true := by
  unfold fitF
  rw [decide_eq_true h, decide_eq_true (show n = n from rfl), decide_eq_true (show n + n ≤ 128 by omega)]
  rfl
end Go.Proofs.Ytddekdgggpifmaa

namespace Go.Proofs.Ytddekdgggpifmaa
open Go.Gx
set_option maxRecDepth 100000
set_option linter.unusedSimpArgs false
set_option linter.unusedVariables false

theorem liftF_len1 (ws : List Nat) (sc : Nat) (xs : List Nat) : (liftF ws sc xs).1.length = (xs.length + 1) / 2 := by
  unfold liftF; split
  · exact evL_length _
  · rw [List.length_map, (weighUp_len _ _ _).1]; exact evL_length _
theorem liftF_len2 (ws : List Nat) (sc : Nat) (xs : List Nat) : (liftF ws sc xs).2.length = xs.length / 2 := by
  unfold liftF; split
  · exact odL_length _
  · rw [List.length_map, (weighUp_len _ _ _).2]; exact odL_length _
def nowD (ws : List Nat) (sc : Nat) (xs : List Nat) : Nat → List Nat := foldI (fun _ l => (liftF ws sc l).1) xs
def outD (ws : List Nat) (sc : Nat) (xs : List Nat) (t : Nat) : List (List Nat) := (List.range t).map fun k => (liftF ws sc (nowD ws sc xs k)).2
theorem outD_succ (ws : List Nat) (sc : Nat) (xs : List Nat) (t : Nat) : outD ws sc xs (t + 1) = outD ws sc xs t ++ [(liftF ws sc (nowD ws sc xs t)).2] := by simp [outD, List.range_succ]
theorem nowD_succ (ws : List Nat) (sc : Nat) (xs : List Nat) (t : Nat) : nowD ws sc xs (t + 1) = (liftF ws sc (nowD ws sc xs t)).1 := rfl
theorem nowD_le (ws : List Nat) (sc : Nat) (xs : List Nat) (hx : 1 ≤ xs.length) : ∀ t, 1 ≤ (nowD ws sc xs t).length ∧ (nowD ws sc xs t).length ≤ xs.length
  | 0 => by simp [nowD, foldI_zero, hx]
  | t + 1 => by have := nowD_le ws sc xs hx t; rw [nowD_succ, liftF_len1]; omega
def moreD (ws : List Nat) (sc : Nat) (xs : List Nat) (t : Nat) : Bool := decide (1 < (nowD ws sc xs t).length)
def levelsD (ws : List Nat) (sc : Nat) (xs : List Nat) (n : Nat) : List (List Nat) := outD ws sc xs (stopN (moreD ws sc xs) n) ++ [nowD ws sc xs (stopN (moreD ws sc xs) n)]
theorem outD_len (ws : List Nat) (sc : Nat) (xs : List Nat) (t : Nat) : (outD ws sc xs t).length = t := by simp [outD]
theorem outD_sum (ws : List Nat) (sc : Nat) (xs : List Nat) (h1 : 1 ≤ xs.length) (hx : xs.length ≤ 128) : ∀ t, offN (outD ws sc xs t) t ≤ 129 * t
  | 0 => by simp [offN_zero]
  | t + 1 => by
    have ih := outD_sum ws sc xs h1 hx t
    have h1 := nowD_le ws sc xs h1 t
    have h2 := liftF_len2 ws sc (nowD ws sc xs t)
    rw [outD_succ, offN_succ (by simp [outD_len])]
    have e1 : offN (outD ws sc xs t ++ [(liftF ws sc (nowD ws sc xs t)).2]) t = offN (outD ws sc xs t) t := by
      unfold offN
      rw [List.take_append_of_le_length (by rw [outD_len]; exact Nat.le_refl _)]
    have e2 : (outD ws sc xs t ++ [(liftF ws sc (nowD ws sc xs t)).2]).getD t [] = (liftF ws sc (nowD ws sc xs t)).2 := by
      have := @getD_app_at _ (outD ws sc xs t) ((liftF ws sc (nowD ws sc xs t)).2) []
      rwa [outD_len] at this
    rw [e1, e2]
    omega
theorem levelsD_tot (ws : List Nat) (sc : Nat) (xs : List Nat) (h1 : 1 ≤ xs.length) (hx : xs.length ≤ 128) (n : Nat) (hn : n ≤ 6) : totL (levelsD ws sc xs n) ≤ 2 ^ 40 := by
  have hs := stopN_le (moreD ws sc xs) n
  obtain ⟨t, ht⟩ : ∃ t, t = stopN (moreD ws sc xs) n := ⟨_, rfl⟩
  unfold levelsD
  rw [← ht] at hs ⊢
  have h3 := outD_sum ws sc xs h1 hx t
  have h2 := nowD_le ws sc xs h1 t
  have hl : (outD ws sc xs t ++ [nowD ws sc xs t]).length = t + 1 := by simp [outD_len]
  unfold totL
  rw [hl, offN_succ (by rw [hl]; omega)]
  have e1 : offN (outD ws sc xs t ++ [nowD ws sc xs t]) t = offN (outD ws sc xs t) t := by
    unfold offN
    rw [List.take_append_of_le_length (by rw [outD_len]; exact Nat.le_refl _)]
  have e2 : (outD ws sc xs t ++ [nowD ws sc xs t]).getD t [] = nowD ws sc xs t := by
    have := @getD_app_at _ (outD ws sc xs t) (nowD ws sc xs t) []
    rwa [outD_len] at this
  rw [e1, e2]
  omega
theorem stopN_mono (p : Nat → Bool) (m : Nat) : ∀ d, stopN p m ≤ stopN p (m + d)
  | 0 => Nat.le_refl _
  | d + 1 => by
    have h1 := stopN_mono p m d
    have h2 := stopN_le p (m + d)
    have : stopN p (m + d) ≤ stopN p (m + d + 1) := by
      conv => rhs; unfold stopN
      split <;> omega
    exact Nat.le_trans h1 this
theorem stopN_gt {p : Nat → Bool} {t n : Nat} (h : ∀ k, k ≤ t → p k = true) (hn : t < n) : t < stopN p n := by
  have h1 := stopN_full (p := p) (t + 1) fun s hs => h s (by omega)
  have h2 := stopN_mono p (t + 1) (n - (t + 1))
  rw [show t + 1 + (n - (t + 1)) = n by omega] at h2
  omega
def deepOk (ws : List Nat) (sc : Nat) (xs : List Nat) (n : Int) : Bool := schemeF ws sc && isLongF xs && within n 1 6 && (List.range (stopN (moreD ws sc xs) n.toNat)).all fun k => liftOkF ws sc (nowD ws sc xs k)
theorem deepOk_no {ws : List Nat} {sc : Nat} {xs : List Nat} {n : Int} {t : Nat} (h : t < stopN (moreD ws sc xs) n.toNat) (h' : liftOkF ws sc (nowD ws sc xs t) = false) : deepOk ws sc xs n = false := by
  have : ((List.range (stopN (moreD ws sc xs) n.toNat)).all fun k => liftOkF ws sc (nowD ws sc xs k)) = false := by
    rw [List.all_eq_false]
    exact ⟨t, List.mem_range.2 h, by rw [h']; decide⟩
  unfold deepOk
  rw [this, Bool.and_false]
theorem deepOk_yes {ws : List Nat} {sc : Nat} {xs : List Nat} {n : Int} (h0 : schemeF ws sc = true) (h1 : isLongF xs = true) (h2 : within n 1 6 = true) (h : ∀ k, k < stopN (moreD ws sc xs) n.toNat → liftOkF ws sc (nowD ws sc xs k) = true) : deepOk ws sc xs n = true := by
  unfold deepOk
  rw [h0, h1, h2, Bool.and_self, Bool.and_self, Bool.true_and, List.all_eq_true]
  exact fun k hk => h k (List.mem_range.1 hk)
theorem liftOk_fin {ws : List Nat} {sc : Nat} {xs : List Nat} (hx : isLongF xs = true) (h : liftOkF ws sc xs = true) : isLongF (liftF ws sc xs).1 = true := by
  obtain ⟨hl, hl1⟩ := isLong_len hx
  have hf := isLong_fin hx
  have h1 := liftF_len1 ws sc xs
  unfold isLongF
  rw [within_true.2 (by omega), Bool.true_and]
  unfold liftOkF at h
  rw [Bool.or_eq_true, Bool.and_eq_true, decide_eq_true_eq] at h
  rcases h with h | h
  · unfold liftF
    rw [if_pos h]
    rw [List.all_eq_true] at hf ⊢
    intro x hxm
    simp only [evL, List.mem_map, List.mem_range] at hxm
    obtain ⟨k, hk, rfl⟩ := hxm
    by_cases hk2 : 2 * k < xs.length
    · have : xs.getD (2 * k) 0 = xs[2 * k] := by simp [List.getD_eq_getElem?_getD, hk2]
      rw [this]
      exact hf _ (List.getElem_mem hk2)
    · omega
  · exact h.1
theorem nowD_long {ws : List Nat} {sc : Nat} {xs : List Nat} (hx : isLongF xs = true) : ∀ t, (∀ k, k < t → liftOkF ws sc (nowD ws sc xs k) = true) → isLongF (nowD ws sc xs t) = true
  | 0, _ => hx
  | t + 1, h => by
    rw [nowD_succ]
    exact liftOk_fin (nowD_long hx t fun k hk => h k (by omega)) (h t (by omega))
theorem i_LiftDeep_law {H : Heap} {v0 v1 : Value} {xs0 xs1 : List Nat} {a0 : Nat} {a2 : Int} (A0 : AF H v0 xs0) (b0 : a0 < 2 ^ 32) (A1 : AF H v1 xs1) (b2 : -9223372036854775808 ≤ a2 ∧ a2 ≤ 9223372036854775807) :
    ACalls Try.prog n_i_LiftDeep [.agg #[v0, .float .f32 a0], v1, .int .i64 a2] H fun r H' => GridR fv t_sfloat32 t_float32 H (deepOk xs0 a0 xs1 a2) (levelsD xs0 a0 xs1 a2.toNat) r H' := by
  refine k_i_LiftDeep.run rfl ?_
  unfold c_i_LiftDeep
  have o0 := A0.rd.one
  have e0 : Ext H (H.new ⟨true, t_Scheme, [v0, .float .f32 a0]⟩) := .new _ _
  simp (disch := first | assumption | omega | rfl | (refine id ?_; simp only [gxD, ne_eq, reduceCtorEq, not_false_eq_true, Nat.reduceAdd, *]; done) | (refine id ?_; simp only [gxD]; omega)) only [↓gxPre, gxPost, ↓reduceIte, Nat.reduceEqDiff, reduceCtorEq, Nat.reduceAdd]
  refine callR_ext (i_ValidScheme_ok (A0.rd.ext e0) A0.le) ?_
  intro H1 n1 bb1
  have e1 := e0.trans ⟨n1, bb1⟩
  have hs1 : H1.blk H.n = some ⟨true, t_Scheme, [v0, .float .f32 a0]⟩ := (bb1 _ (by first | omega | (simp only [new_n, put_n]; omega))).trans (by simp (disch := first | assumption | omega | rfl | (refine id ?_; simp only [gxD, ne_eq, reduceCtorEq, not_false_eq_true, Nat.reduceAdd, *]; done) | (refine id ?_; simp only [gxD]; omega)) only [↓gxPre, gxPost, ↓reduceIte, Nat.reduceEqDiff, reduceCtorEq, Nat.reduceAdd])
  simp only [new_n] at n1
  cases h0 : schemeF xs0 a0
  · simp (disch := first | assumption | omega | rfl | (refine id ?_; simp only [gxD, ne_eq, reduceCtorEq, not_false_eq_true, Nat.reduceAdd, *]; done) | (refine id ?_; simp only [gxD]; omega)) only [↓gxPre, gxPost, ↓reduceIte, Nat.reduceEqDiff, reduceCtorEq, Nat.reduceAdd]
    exact .no (by simp only [deepOk, h0, Bool.false_and, Bool.true_and, Bool.and_true, Bool.and_false, Bool.or_true, Bool.true_or, Bool.false_or, Bool.or_false, Bool.and_self, Bool.or_self]) e1
  simp (disch := first | assumption | omega | rfl | (refine id ?_; simp only [gxD, ne_eq, reduceCtorEq, not_false_eq_true, Nat.reduceAdd, *]; done) | (refine id ?_; simp only [gxD]; omega)) only [↓gxPre, gxPost, ↓reduceIte, Nat.reduceEqDiff, reduceCtorEq, Nat.reduceAdd]
  refine callR_ext (i_IsList_ok (A1.rd.ext e1) A1.le) ?_
  intro K n2 bb2
  have eK := e1.trans ⟨n2, bb2⟩
  have hsK : K.blk H.n = some ⟨true, t_Scheme, [v0, .float .f32 a0]⟩ := (bb2 _ (by omega)).trans hs1
  cases h1 : isLongF xs1
  · simp (disch := first | assumption | omega | rfl | (refine id ?_; simp only [gxD, ne_eq, reduceCtorEq, not_false_eq_true, Nat.reduceAdd, *]; done) | (refine id ?_; simp only [gxD]; omega)) only [↓gxPre, gxPost, ↓reduceIte, Nat.reduceEqDiff, reduceCtorEq, Nat.reduceAdd]
    exact .no (by simp only [deepOk, h1, Bool.false_and, Bool.true_and, Bool.and_true, Bool.and_false, Bool.or_true, Bool.true_or, Bool.false_or, Bool.or_false, Bool.and_self, Bool.or_self]) eK
  obtain ⟨hl, hl1⟩ := isLong_len h1
  simp (disch := first | assumption | omega | rfl | (refine id ?_; simp only [gxD, ne_eq, reduceCtorEq, not_false_eq_true, Nat.reduceAdd, *]; done) | (refine id ?_; simp only [gxD]; omega)) only [↓gxPre, gxPost, ↓reduceIte, Nat.reduceEqDiff, reduceCtorEq, Nat.reduceAdd]
  refine callR_pure i_within_ok (.inl rfl) ?_
  cases h2 : within a2 1 6
  · simp (disch := first | assumption | omega | rfl | (refine id ?_; simp only [gxD, ne_eq, reduceCtorEq, not_false_eq_true, Nat.reduceAdd, *]; done) | (refine id ?_; simp only [gxD]; omega)) only [↓gxPre, gxPost, ↓reduceIte, Nat.reduceEqDiff, reduceCtorEq, Nat.reduceAdd]
    exact .no (by simp only [deepOk, h2, Bool.false_and, Bool.true_and, Bool.and_true, Bool.and_false, Bool.or_true, Bool.true_or, Bool.false_or, Bool.or_false, Bool.and_self, Bool.or_self]) eK
  have hw2 := within_true.1 h2
  simp (disch := first | assumption | omega | rfl | (refine id ?_; simp only [gxD, ne_eq, reduceCtorEq, not_false_eq_true, Nat.reduceAdd, *]; done) | (refine id ?_; simp only [gxD]; omega)) only [↓gxPre, gxPost, ↓reduceIte, Nat.reduceEqDiff, reduceCtorEq, Nat.reduceAdd]
  refine callR_new ?_
  intro N eN hbN nN
  refine callR_of (i_copyOf_ex (A1.rd.ext (eK.trans eN)) A1.le) ?_
  rintro _ P ⟨eP, rfl, nP, hcP⟩
  have hKn := eK.n
  simp (disch := first | assumption | omega | rfl | (refine id ?_; simp only [gxD, ne_eq, reduceCtorEq, not_false_eq_true, Nat.reduceAdd, *]; done) | (refine id ?_; simp only [gxD]; omega)) only [↓gxPre, gxPost, ↓reduceIte, Nat.reduceEqDiff, reduceCtorEq, Nat.reduceAdd]
  refine loop_st (σ := Nat × Value) (fun s => [.int .i64 a2, .pointer (some ⟨H.n, 0, some 2⟩), .slice (some ⟨K.n, 0, none⟩) s.1 s.1, s.2, .int .i64 s.1])
    (fun s G => s.1 ≤ a2.toNat ∧ (∀ k, k < s.1 → moreD xs0 a0 xs1 k = true) ∧ (∀ k, k < s.1 → liftOkF xs0 a0 (nowD xs0 a0 xs1 k) = true) ∧ K.n + 1 ≤ G.n ∧ Ext K G ∧ ∃ vs, G.blk K.n = some ⟨true, t_sfloat32, vs⟩ ∧ OwN K.n G.n G t_float32 (vs ++ [s.2]) ((outD xs0 a0 xs1 s.1 ++ [nowD xs0 a0 xs1 s.1]).map (List.map fv)))
    (fun s => a2.toNat - s.1) (0, .slice (some ⟨N.n, 0, none⟩) xs1.length xs1.length) rfl
    ⟨by omega, by intros; omega, by intros; omega, by omega, eN.trans eP, [], (eP.blk _ (by omega)).trans hbN, ?_⟩ ?_
  · refine OwN.nil.snoc (ls := []) (vs := []) (.mk hcP (by simp [nowD, foldI_zero]) (by omega) (by omega) (by omega)) fun i h hi' => by simp at hi'
  · rintro ⟨t, v⟩ G ⟨ht, hmore, hok, hG, hE, vs, hb, ho⟩
    simp only [List.map_append, List.map_cons, List.map_nil] at ho
    simp only at ht hmore hok ho ⊢
    have hlv : vs.length = t := by have := ho.1; simpa [outD_len] using this
    have hv := OwN_last ho
    have hvis := hv.fs
    have hlen := nowD_le xs0 a0 xs1 hl1 t
    have eHG := eK.trans hE
    have hsG : G.blk H.n = some ⟨true, t_Scheme, [v0, .float .f32 a0]⟩ := (hE.blk _ (by omega)).trans hsK
    by_cases c1 : (t : Int) < a2
    · by_cases c2 : (1 : Int) < (nowD xs0 a0 xs1 t).length
      · simp (disch := first | assumption | omega | rfl | (refine id ?_; simp only [gxD, ne_eq, reduceCtorEq, not_false_eq_true, Nat.reduceAdd, *]; done) | (refine id ?_; simp only [gxD]; omega)) only [↓gxPre, gxPost, ↓reduceIte, Nat.reduceEqDiff, reduceCtorEq, Nat.reduceAdd, hvis.len, c1, c2, hsG]
        refine callR_of (i_LiftOnce_core ⟨A0.rd.ext eHG, A0.le⟩ b0 ⟨hvis, by omega⟩) ?_
        rintro _ G1 ⟨e1, x, y, rfl, p, _, _⟩
        have hlng : isLongF (nowD xs0 a0 xs1 t) = true := nowD_long h1 t hok
        have hmt : ∀ k, k ≤ t → moreD xs0 a0 xs1 k = true := fun k hk => by
          by_cases hkt : k = t
          · subst hkt; exact decide_eq_true (by omega)
          · exact hmore k (by omega)
        cases hlo : liftOkF xs0 a0 (nowD xs0 a0 xs1 t)
        · simp only [h0, hlng, Bool.false_and, Bool.true_and, Bool.and_true, Bool.and_false, Bool.or_true, Bool.true_or, Bool.false_or, Bool.or_false, Bool.and_self, Bool.or_self]
          simp (disch := first | assumption | omega | rfl | (refine id ?_; simp only [gxD, ne_eq, reduceCtorEq, not_false_eq_true, Nat.reduceAdd, *]; done) | (refine id ?_; simp only [gxD]; omega)) only [↓gxPre, gxPost, ↓reduceIte, Nat.reduceEqDiff, reduceCtorEq, Nat.reduceAdd]
          exact .no (deepOk_no (stopN_gt hmt (by omega)) hlo) (eHG.trans e1)
        simp only [h0, hlng, hlo, Bool.false_and, Bool.true_and, Bool.and_true, Bool.and_false, Bool.or_true, Bool.true_or, Bool.false_or, Bool.or_false, Bool.and_self, Bool.or_self, selL, if_true] at p ⊢
        have hb1 := (e1.blk K.n (by omega)).trans hb
        have n1 := e1.n
        have q := OwN_two (OwN_init ho) e1 (by omega) p
        obtain ⟨f1, f2, f3, f4⟩ := push_at (x := y) (hE.trans e1) hb1 (Nat.le_refl _) (by omega) rfl
        have q2 : OwN K.n (G1.n + 1) ((G1.new ⟨true, t_sfloat32, [y]⟩).put K.n ⟨true, t_sfloat32, vs ++ [y]⟩) t_float32 _ _ :=
          OwN_put ((q.ext (.new _ ⟨true, t_sfloat32, [y]⟩)).wide (Nat.le_refl _) (by omega)) ((new_old _ _ _ (by omega)).trans hb1) (by decide)
        have oy := p.snd.one
        simp (disch := first | assumption | omega | rfl | (refine id ?_; simp only [gxD, ne_eq, reduceCtorEq, not_false_eq_true, Nat.reduceAdd, *]; done) | (refine id ?_; simp only [gxD]; omega)) only [↓gxPre, gxPost, ↓reduceIte, Nat.reduceEqDiff, reduceCtorEq, Nat.reduceAdd, hb1]
        refine ⟨(t + 1, x), by simp only; omega, by simp, by simp only; omega, fun k hk => hmt k (by simp only at hk; omega), fun k hk => ?_, by omega, f1, _, rfl, ?_⟩
        · by_cases hkt : k = t
          · subst hkt; exact hlo
          · exact hok k (by simp only at hk; omega)
        · simp only [outD_succ, nowD_succ, List.map_append, List.map_cons, List.map_nil]
          exact q2
      · have hst : stopN (moreD xs0 a0 xs1) a2.toNat = t := stopN_eq hmore _ ht fun _ => decide_eq_false (by omega)
        obtain ⟨f1, f2, f3, f4⟩ := push_at (x := v) hE hb (Nat.le_refl _) (by omega) rfl
        have ov := hv.one
        simp (disch := first | assumption | omega | rfl | (refine id ?_; simp only [gxD, ne_eq, reduceCtorEq, not_false_eq_true, Nat.reduceAdd, *]; done) | (refine id ?_; simp only [gxD]; omega)) only [↓gxPre, gxPost, ↓reduceIte, Nat.reduceEqDiff, reduceCtorEq, Nat.reduceAdd, hvis.len, c1, c2, hb]
        have hres : levelsD xs0 a0 xs1 a2.toNat = outD xs0 a0 xs1 t ++ [nowD xs0 a0 xs1 t] := by unfold levelsD; rw [hst]
        refine .yes (deepOk_yes h0 h1 h2 fun k hk => hok k (by omega)) (eK.trans f1) ⟨vs ++ [v], .mk f2 (by simp [hlv]) (by first | omega | (simp only [new_n, put_n]; omega)) (by first | omega | (simp only [new_n, put_n]; omega)) (by first | omega | (simp only [new_n, put_n]; omega)), ?_⟩ (levelsD_tot xs0 a0 xs1 hl1 hl _ (by omega))
        rw [hres]
        simp only [List.map_append, List.map_cons, List.map_nil]
        exact (OwN_put ((ho.ext (.new _ ⟨true, t_sfloat32, [v]⟩)).wide (Nat.le_refl _) (by first | omega | (simp only [new_n, put_n]; omega))) ((new_old _ _ _ (by omega)).trans hb) (by decide)).wide hKn (Nat.le_refl _)
    · have hst : stopN (moreD xs0 a0 xs1) a2.toNat = t := stopN_eq hmore _ ht fun h => by omega
      obtain ⟨f1, f2, f3, f4⟩ := push_at (x := v) hE hb (Nat.le_refl _) (by omega) rfl
      have ov := hv.one
      simp (disch := first | assumption | omega | rfl | (refine id ?_; simp only [gxD, ne_eq, reduceCtorEq, not_false_eq_true, Nat.reduceAdd, *]; done) | (refine id ?_; simp only [gxD]; omega)) only [↓gxPre, gxPost, ↓reduceIte, Nat.reduceEqDiff, reduceCtorEq, Nat.reduceAdd, hvis.len, c1, hb]
      have hres : levelsD xs0 a0 xs1 a2.toNat = outD xs0 a0 xs1 t ++ [nowD xs0 a0 xs1 t] := by unfold levelsD; rw [hst]
      refine .yes (deepOk_yes h0 h1 h2 fun k hk => hok k (by omega)) (eK.trans f1) ⟨vs ++ [v], .mk f2 (by simp [hlv]) (by first | omega | (simp only [new_n, put_n]; omega)) (by first | omega | (simp only [new_n, put_n]; omega)) (by first | omega | (simp only [new_n, put_n]; omega)), ?_⟩ (levelsD_tot xs0 a0 xs1 hl1 hl _ (by omega))
      rw [hres]
      simp only [List.map_append, List.map_cons, List.map_nil]
      exact (OwN_put ((ho.ext (.new _ ⟨true, t_sfloat32, [v]⟩)).wide (Nat.le_refl _) (by first | omega | (simp only [new_n, put_n]; omega))) ((new_old _ _ _ (by omega)).trans hb) (by decide)).wide hKn (Nat.le_refl _)
end Go.Proofs.Ytddekdgggpifmaa

namespace Go.Proofs.Ytddekdgggpifmaa
open Go.Gx
set_option maxRecDepth 100000
set_option linter.unusedSimpArgs false
set_option linter.unusedVariables false

theorem wovL_len' {α : Type} {d : α} {ev od : List α} : ∀ i, (wovL d ev od i).length = i + min i od.length
  | 0 => by simp [wovL]
  | i + 1 => by
    have := wovL_len' (d := d) (ev := ev) (od := od) i
    by_cases h : i < od.length
    · rw [wovL_both h]; simp; omega
    · rw [wovL_one h]; simp; omega
theorem dropF_len' (ws : List Nat) (sc : Nat) {ev od : List Nat} (h : od.length ≤ ev.length) : (dropF ws sc ev od).length = ev.length + od.length := by
  unfold dropF
  split
  · omega
  · dsimp only
    have h1 := (weighDown_len ws (ev.map fun x => fbin .quo .f32 x sc, od.map fun x => fbin .mul .f32 x sc) ws.length).1
    have h2 := (weighDown_len ws (ev.map fun x => fbin .quo .f32 x sc, od.map fun x => fbin .mul .f32 x sc) ws.length).2
    simp only [List.length_map] at h1 h2
    rw [wovL_len', h1, h2]
    omega
theorem sizes_at {sz : List Nat} (h : sizesF sz = true) : 1 ≤ sz.length ∧ sz.length ≤ 7 ∧ 1 ≤ sz.getD (sz.length - 1) 0 ∧ ∀ j, j < sz.length - 1 → sizeAt sz j = true := by
  unfold sizesF at h
  simp only [Bool.and_eq_true, decide_eq_true_eq, List.all_eq_true, List.mem_range] at h
  have := within_true.1 h.1.1.1
  exact ⟨by omega, by omega, h.1.1.2, fun j hj => h.2 j hj⟩
theorem suf_pos {sz : List Nat} (h : sizesF sz = true) {k : Nat} (hk : k ≤ sz.length - 1) : 1 ≤ sufS sz k := by
  obtain ⟨h1, h2, h3, h4⟩ := sizes_at h
  have := sufS_le sz (i := k) (j := sz.length - 1) hk
  rw [sufS_last (by omega)] at this
  omega
theorem sizes_fit {sz : List Nat} (h : sizesF sz = true) {k : Nat} (hk : k < sz.length - 1) : fitF (sufS sz (k + 1)) (sz.getD k 0) = true := by
  obtain ⟨h1, h2, h3, h4⟩ := sizes_at h
  have h5 := size_fit (sz := sz) (k := k) (by omega) (suf_pos h (by omega))
  rw [h4 k hk, Bool.and_eq_true] at h5
  exact h5.2
theorem sizes_len (xss : List (List Nat)) (k : Nat) : (xss.map List.length).getD k 0 = (xss.getD k []).length := by
  by_cases h : k < xss.length <;> simp [List.getD_eq_getElem?_getD, h]
def dropD (ws : List Nat) (sc : Nat) (xss : List (List Nat)) : Nat → List Nat := foldI (fun t l => dropF ws sc l (xss.getD (xss.length - 2 - t) [])) (xss.getD (xss.length - 1) [])
theorem dropD_zero (ws : List Nat) (sc : Nat) (xss : List (List Nat)) : dropD ws sc xss 0 = xss.getD (xss.length - 1) [] := rfl
theorem dropD_succ (ws : List Nat) (sc : Nat) (xss : List (List Nat)) (t : Nat) : dropD ws sc xss (t + 1) = dropF ws sc (dropD ws sc xss t) (xss.getD (xss.length - 2 - t) []) := rfl
def unOk (ws : List Nat) (sc : Nat) (xss : List (List Nat)) : Bool := schemeF ws sc && bandsF xss && (List.range (xss.length - 1)).all fun t => (dropD ws sc xss (t + 1)).all finF
theorem dropD_len {ws : List Nat} {sc : Nat} {xss : List (List Nat)} (h : sizesF (xss.map List.length) = true) : ∀ t, t ≤ xss.length - 1 → (dropD ws sc xss t).length = sufS (xss.map List.length) (xss.length - 1 - t)
  | 0, _ => by
    have := sufS_last (sz := xss.map List.length) (by have := (sizes_at h).1; omega)
    rw [List.length_map] at this
    rw [Nat.sub_zero, this, sizes_len]; rfl
  | t + 1, ht => by
    have ih := dropD_len (ws := ws) (sc := sc) h t (by omega)
    have hf := fit_facts (sizes_fit h (k := xss.length - 2 - t) (by rw [List.length_map]; omega))
    rw [show xss.length - 2 - t + 1 = xss.length - 1 - t by omega, sizes_len] at hf
    have hs := sufS_succ (sz := xss.map List.length) (i := xss.length - 2 - t) (by rw [List.length_map]; omega)
    rw [show xss.length - 2 - t + 1 = xss.length - 1 - t by omega, sizes_len] at hs
    rw [dropD_succ, dropF_len' _ _ (by omega), ih, show xss.length - 1 - (t + 1) = xss.length - 2 - t by omega, hs]
    omega
theorem dropD_fit {ws : List Nat} {sc : Nat} {xss : List (List Nat)} (h : sizesF (xss.map List.length) = true) {t : Nat} (ht : t < xss.length - 1) : fitF (dropD ws sc xss t).length (xss.getD (xss.length - 2 - t) []).length = true := by
  have hf := sizes_fit h (k := xss.length - 2 - t) (by rw [List.length_map]; omega)
  rwa [show xss.length - 2 - t + 1 = xss.length - 1 - t by omega, sizes_len, ← dropD_len (ws := ws) (sc := sc) h t (by omega)] at hf
theorem bands_sizes {xss : List (List Nat)} (h : bandsF xss = true) : sizesF (xss.map List.length) = true := by
  unfold bandsF at h
  rw [Bool.and_eq_true] at h
  exact h.1
theorem dropD_fin {ws : List Nat} {sc : Nat} {xss : List (List Nat)} (h : bandsF xss = true) : ∀ t, (∀ k, k < t → (dropD ws sc xss (k + 1)).all finF = true) → (dropD ws sc xss t).all finF = true
  | 0, _ => bandsF_fin h _ (by have := (bandsF_len h).1; omega)
  | t + 1, hk => hk t (by omega)
theorem dropD_ok {ws : List Nat} {sc : Nat} {xss : List (List Nat)} (h0 : schemeF ws sc = true) (h : bandsF xss = true) {t : Nat} (ht : t < xss.length - 1) (hk : ∀ k, k < t → (dropD ws sc xss (k + 1)).all finF = true) : dropOk ws sc (dropD ws sc xss t) (xss.getD (xss.length - 2 - t) []) = (dropD ws sc xss (t + 1)).all finF := by
  unfold dropOk
  rw [h0, dropD_fit (bands_sizes h) ht, dropD_fin h t hk, bandsF_fin h _ (by omega), Bool.and_self, Bool.and_self, Bool.true_and, dropD_succ]
theorem unOk_no {ws : List Nat} {sc : Nat} {xss : List (List Nat)} {t : Nat} (ht : t < xss.length - 1) (h : (dropD ws sc xss (t + 1)).all finF = false) : unOk ws sc xss = false := by
  have : ((List.range (xss.length - 1)).all fun t => (dropD ws sc xss (t + 1)).all finF) = false := by
    rw [List.all_eq_false]
    exact ⟨t, List.mem_range.2 ht, by rw [h]; decide⟩
  unfold unOk
  rw [this, Bool.and_false]
theorem unOk_yes {ws : List Nat} {sc : Nat} {xss : List (List Nat)} (h0 : schemeF ws sc = true) (h1 : bandsF xss = true) (h : ∀ k, k < xss.length - 1 → (dropD ws sc xss (k + 1)).all finF = true) : unOk ws sc xss = true := by
  unfold unOk
  rw [h0, h1, Bool.and_self, Bool.true_and, List.all_eq_true]
  exact fun k hk => h k (List.mem_range.1 hk)
theorem dropD_le {ws : List Nat} {sc : Nat} {xss : List (List Nat)} (h : bandsF xss = true) {t : Nat} (ht : t ≤ xss.length - 1) : (dropD ws sc xss t).length ≤ 128 := by
  have hs := bands_sizes h
  by_cases hz : xss.length = 1
  · have h0 : t = 0 := by omega
    subst h0
    unfold bandsF sizesF at h
    simp only [Bool.and_eq_true, Bool.or_eq_true, decide_eq_true_eq, List.length_map, sizes_len] at h
    have := h.1.1.2
    rw [dropD_zero, show xss.length - 1 = 0 by omega]
    omega
  · have h1 := (sizes_at hs).1
    rw [List.length_map] at h1
    have h2 := (sizes_at hs).2.2.2 0 (by rw [List.length_map]; omega)
    simp only [sizeAt, Bool.and_eq_true, decide_eq_true_eq] at h2
    have h3 := sufS_le (xss.map List.length) (i := 0) (j := xss.length - 1 - t) (by omega)
    rw [dropD_len hs t ht]
    omega
structure RS (H : Heap) (v : Value) (xss : List (List Nat)) : Prop where
  rd : SS H v xss
  le : totL xss ≤ 2 ^ 40
theorem i_DropDeep_core {H : Heap} {v0 v1 : Value} {xs0 : List Nat} {xs1 : List (List Nat)} {a0 : Nat} (A0 : RF H v0 xs0) (b0 : a0 < 2 ^ 32) (A1 : RS H v1 xs1) :
    ACalls Try.prog n_i_DropDeep [.agg #[v0, .float .f32 a0], v1] H fun r H' => ListR fv t_float32 H (unOk xs0 a0 xs1) (dropD xs0 a0 xs1 (xs1.length - 1)) r H' := by
  have hm := A1.le
  refine k_i_DropDeep.run rfl ?_
  unfold c_i_DropDeep
  have o0 := A0.rd.one
  have e0 : Ext H (H.new ⟨true, t_Scheme, [v0, .float .f32 a0]⟩) := .new _ _
  simp (disch := first | assumption | omega | rfl | (refine id ?_; simp only [gxD, ne_eq, reduceCtorEq, not_false_eq_true, Nat.reduceAdd, *]; done) | (refine id ?_; simp only [gxD]; omega)) only [↓gxPre, gxPost, ↓reduceIte, Nat.reduceEqDiff, reduceCtorEq, Nat.reduceAdd]
  refine callR_ext (i_ValidScheme_ok (A0.rd.ext e0) A0.le) ?_
  intro H1 n1 bb1
  have e1 := e0.trans ⟨n1, bb1⟩
  have hs1 : H1.blk H.n = some ⟨true, t_Scheme, [v0, .float .f32 a0]⟩ := (bb1 _ (by first | omega | (simp only [new_n, put_n]; omega))).trans (by simp (disch := first | assumption | omega | rfl | (refine id ?_; simp only [gxD, ne_eq, reduceCtorEq, not_false_eq_true, Nat.reduceAdd, *]; done) | (refine id ?_; simp only [gxD]; omega)) only [↓gxPre, gxPost, ↓reduceIte, Nat.reduceEqDiff, reduceCtorEq, Nat.reduceAdd])
  simp only [new_n] at n1
  cases h0 : schemeF xs0 a0
  · simp (disch := first | assumption | omega | rfl | (refine id ?_; simp only [gxD, ne_eq, reduceCtorEq, not_false_eq_true, Nat.reduceAdd, *]; done) | (refine id ?_; simp only [gxD]; omega)) only [↓gxPre, gxPost, ↓reduceIte, Nat.reduceEqDiff, reduceCtorEq, Nat.reduceAdd]
    exact .no (by simp only [unOk, h0, Bool.false_and, Bool.true_and, Bool.and_true, Bool.and_false, Bool.or_true, Bool.true_or, Bool.false_or, Bool.or_false, Bool.and_self, Bool.or_self]) e1
  simp (disch := first | assumption | omega | rfl | (refine id ?_; simp only [gxD, ne_eq, reduceCtorEq, not_false_eq_true, Nat.reduceAdd, *]; done) | (refine id ?_; simp only [gxD]; omega)) only [↓gxPre, gxPost, ↓reduceIte, Nat.reduceEqDiff, reduceCtorEq, Nat.reduceAdd]
  refine callR_ext (i_AreBands_ok (A1.rd.ext e1) A1.le) ?_
  intro K n2 bb2
  have eK := e1.trans ⟨n2, bb2⟩
  have hsK : K.blk H.n = some ⟨true, t_Scheme, [v0, .float .f32 a0]⟩ := (bb2 _ (by omega)).trans hs1
  cases h1 : bandsF xs1
  · simp (disch := first | assumption | omega | rfl | (refine id ?_; simp only [gxD, ne_eq, reduceCtorEq, not_false_eq_true, Nat.reduceAdd, *]; done) | (refine id ?_; simp only [gxD]; omega)) only [↓gxPre, gxPost, ↓reduceIte, Nat.reduceEqDiff, reduceCtorEq, Nat.reduceAdd]
    exact .no (by simp only [unOk, h1, Bool.false_and, Bool.true_and, Bool.and_true, Bool.and_false, Bool.or_true, Bool.true_or, Bool.false_or, Bool.or_false, Bool.and_self, Bool.or_self]) eK
  obtain ⟨hn1, hn7⟩ := bandsF_len h1
  obtain ⟨us, hu, hul, hus⟩ := A1.rd
  have huK := hu.ext eK
  have e1t : ((xs1.length : Int) - 1).toNat = xs1.length - 1 := by omega
  simp (disch := first | assumption | omega | rfl | (refine id ?_; simp only [gxD, ne_eq, reduceCtorEq, not_false_eq_true, Nat.reduceAdd, *]; done) | (refine id ?_; simp only [gxD]; omega)) only [↓gxPre, gxPost, ↓reduceIte, Nat.reduceEqDiff, reduceCtorEq, Nat.reduceAdd, huK.len, huK.ia, huK.ldD, hul, e1t]
  refine callR_of (i_copyOf_ex ((hus (xs1.length - 1) (by omega)).ext eK) (totL_row hm _)) ?_
  rintro _ P ⟨eP, rfl, nP, hcP⟩
  have hKn := eK.n
  have huP := huK.ext eP
  simp (disch := first | assumption | omega | rfl | (refine id ?_; simp only [gxD, ne_eq, reduceCtorEq, not_false_eq_true, Nat.reduceAdd, *]; done) | (refine id ?_; simp only [gxD]; omega)) only [↓gxPre, gxPost, ↓reduceIte, Nat.reduceEqDiff, reduceCtorEq, Nat.reduceAdd, huP.len, hul]
  refine loop_st (σ := Nat × Value) (fun s => [v1, .pointer (some ⟨H.n, 0, some 2⟩), s.2, .int .i64 ((xs1.length : Int) - 2 - s.1)])
    (fun s G => s.1 ≤ xs1.length - 1 ∧ (∀ k, k < s.1 → (dropD xs0 a0 xs1 (k + 1)).all finF = true) ∧ Ext K G ∧ OwL K.n G.n G t_float32 s.2 ((dropD xs0 a0 xs1 s.1).map fv))
    (fun s => xs1.length - s.1) (0, .slice (some ⟨K.n, 0, none⟩) (xs1.getD (xs1.length - 1) []).length (xs1.getD (xs1.length - 1) []).length) (by simp)
    ⟨by omega, by intros; omega, eP, .mk hcP (by rw [lMapN, dropD_zero]) (by omega) (by omega) (by have := totL_row hm (xs1.length - 1); omega)⟩ ?_
  rintro ⟨t, v⟩ G ⟨ht, hok, hE, ho⟩
  simp only at ht hok ho ⊢
  have eHG := eK.trans hE
  have huG := hu.ext eHG
  have hsG : G.blk H.n = some ⟨true, t_Scheme, [v0, .float .f32 a0]⟩ := (hE.blk _ (by omega)).trans hsK
  have hle := dropD_le (ws := xs0) (sc := a0) h1 (t := t) ht
  by_cases c1 : t < xs1.length - 1
  · obtain ⟨k, hk⟩ : ∃ k, k = xs1.length - 2 - t := ⟨_, rfl⟩
    have hki : (xs1.length : Int) - 2 - (t : Int) = (k : Int) := by omega
    have hk0 : (0 : Int) ≤ (k : Int) := by omega
    rw [hki]
    simp (disch := first | assumption | omega | rfl | (refine id ?_; simp only [gxD, ne_eq, reduceCtorEq, not_false_eq_true, Nat.reduceAdd, *]; done) | (refine id ?_; simp only [gxD]; omega)) only [↓gxPre, gxPost, ↓reduceIte, Nat.reduceEqDiff, reduceCtorEq, Nat.reduceAdd, hk0, hsG, huG.ia, huG.ldD, hul]
    refine callR_of (i_DropOnce_core ⟨A0.rd.ext eHG, A0.le⟩ b0 ⟨ho.fs, by omega⟩ ⟨(hus k (by omega)).ext eHG, totL_row hm k⟩) ?_
    rintro _ G1 ⟨e1, x, rfl, p, _⟩
    rw [hk, dropD_ok h0 h1 c1 hok, ← hk] at *
    have hEn := hE.n
    cases hf : (dropD xs0 a0 xs1 (t + 1)).all finF
    · simp (disch := first | assumption | omega | rfl | (refine id ?_; simp only [gxD, ne_eq, reduceCtorEq, not_false_eq_true, Nat.reduceAdd, *]; done) | (refine id ?_; simp only [gxD]; omega)) only [↓gxPre, gxPost, ↓reduceIte, Nat.reduceEqDiff, reduceCtorEq, Nat.reduceAdd]
      exact .no (unOk_no c1 hf) (eHG.trans e1)
    simp (disch := first | assumption | omega | rfl | (refine id ?_; simp only [gxD, ne_eq, reduceCtorEq, not_false_eq_true, Nat.reduceAdd, *]; done) | (refine id ?_; simp only [gxD]; omega)) only [↓gxPre, gxPost, ↓reduceIte, Nat.reduceEqDiff, reduceCtorEq, Nat.reduceAdd]
    refine ⟨(t + 1, x), by simp only; omega, by simp; omega, by simp only; omega, fun j hj => ?_, hE.trans e1, ?_⟩
    · by_cases hjt : j = t
      · subst hjt; exact hf
      · exact hok j (by simp only at hj; omega)
    · simp only [hf, selL, if_true] at p
      rw [hk] at p
      exact p.wide hEn (Nat.le_refl _)
  · have hte : t = xs1.length - 1 := by omega
    have hneg : ¬ (0 : Int) ≤ (xs1.length : Int) - 2 - (t : Int) := by omega
    simp (disch := first | assumption | omega | rfl | (refine id ?_; simp only [gxD, ne_eq, reduceCtorEq, not_false_eq_true, Nat.reduceAdd, *]; done) | (refine id ?_; simp only [gxD]; omega)) only [↓gxPre, gxPost, ↓reduceIte, Nat.reduceEqDiff, reduceCtorEq, Nat.reduceAdd, hneg]
    rw [← hte]
    exact .yes (unOk_yes h0 h1 fun k hk => hok k (by omega)) eHG (ho.wide hKn (Nat.le_refl _)) (by omega)
theorem i_DropDeep_law {H : Heap} {v0 v1 : Value} {xs0 : List Nat} {xs1 : List (List Nat)} {a0 : Nat} (A0 : AF H v0 xs0) (b0 : a0 < 2 ^ 32) (A1 : AS H v1 xs1) :
    ACalls Try.prog n_i_DropDeep [.agg #[v0, .float .f32 a0], v1] H fun r H' => ListR fv t_float32 H (unOk xs0 a0 xs1) (dropD xs0 a0 xs1 (xs1.length - 1)) r H' :=
  i_DropDeep_core ⟨A0.rd, A0.le⟩ b0 ⟨A1.rd, A1.le⟩
end Go.Proofs.Ytddekdgggpifmaa

namespace Go.Proofs.Ytddekdgggpifmaa
open Go.Gx
set_option maxRecDepth 100000
set_option linter.unusedSimpArgs false
set_option linter.unusedVariables false

def sizeJ (xss : List (List Int)) (i : Nat) : List Nat := (List.range i).map fun j => (xss.getD j []).length
theorem sizeJ_length (xss : List (List Int)) (i : Nat) : (sizeJ xss i).length = i := by simp [sizeJ]
theorem sizeJ_succ (xss : List (List Int)) (i : Nat) : sizeJ xss (i + 1) = sizeJ xss i ++ [(xss.getD i []).length] := by simp [sizeJ, List.range_succ]
theorem sizesJ_len (xss : List (List Int)) (k : Nat) : (xss.map List.length).getD k 0 = (xss.getD k []).length := by
  by_cases h : k < xss.length <;> simp [List.getD_eq_getElem?_getD, h]
theorem sizeJ_all (xss : List (List Int)) : sizeJ xss xss.length = xss.map List.length := by
  refine list_ext_getD 0 (by simp [sizeJ]) fun j hj => ?_
  have hj' : j < xss.length := by simpa [sizeJ] using hj
  rw [sizesJ_len, sizeJ, getD_range_map hj']
theorem sizesJ_le {xss : List (List Int)} (hm : totL xss ≤ 2 ^ 40) (j : Nat) : (xss.map List.length).getD j 0 ≤ 2 ^ 40 := by
  rw [sizesJ_len]; exact totL_row hm j
theorem sizesJ_sum (xss : List (List Int)) (hm : totL xss ≤ 2 ^ 40) : sufS (xss.map List.length) 0 ≤ 2 ^ 40 := by
  have : sufS (xss.map List.length) 0 = offN xss xss.length := by simp [sufS, offN]
  rw [this]
  unfold totL at hm
  omega
theorem sizesJ_n {sz : List Nat} (h : sizesF sz = true) : 1 ≤ sz.length ∧ sz.length ≤ 7 := by
  unfold sizesF at h
  simp only [Bool.and_eq_true] at h
  have := within_true.1 h.1.1.1
  omega
def dropV (kind : Int) (xss : List (List Int)) : Nat → List Int := foldI (fun t l => dropI kind l (xss.getD (xss.length - 2 - t) [])) (xss.getD (xss.length - 1) [])
theorem dropV_zero (kind : Int) (xss : List (List Int)) : dropV kind xss 0 = xss.getD (xss.length - 1) [] := rfl
theorem dropV_succ (kind : Int) (xss : List (List Int)) (t : Nat) : dropV kind xss (t + 1) = dropI kind (dropV kind xss t) (xss.getD (xss.length - 2 - t) []) := rfl
def levOk (kind : Int) (xss : List (List Int)) : Bool := within kind 0 2 && sizesF (xss.map List.length) && ((List.range (xss.length - 1)).all fun t => dropOkI kind (dropV kind xss t) (xss.getD (xss.length - 2 - t) [])) && integersF (dropV kind xss (xss.length - 1))
theorem levOk_no {kind : Int} {xss : List (List Int)} {t : Nat} (ht : t < xss.length - 1) (h : dropOkI kind (dropV kind xss t) (xss.getD (xss.length - 2 - t) []) = false) : levOk kind xss = false := by
  have : ((List.range (xss.length - 1)).all fun t => dropOkI kind (dropV kind xss t) (xss.getD (xss.length - 2 - t) [])) = false := by
    rw [List.all_eq_false]
    exact ⟨t, List.mem_range.2 ht, by rw [h]; decide⟩
  unfold levOk
  rw [this, Bool.and_false, Bool.false_and]
theorem levOk_yes {kind : Int} {xss : List (List Int)} (h0 : within kind 0 2 = true) (h1 : sizesF (xss.map List.length) = true) (h : ∀ k, k < xss.length - 1 → dropOkI kind (dropV kind xss k) (xss.getD (xss.length - 2 - k) []) = true) : levOk kind xss = integersF (dropV kind xss (xss.length - 1)) := by
  have : ((List.range (xss.length - 1)).all fun t => dropOkI kind (dropV kind xss t) (xss.getD (xss.length - 2 - t) [])) = true := by
    rw [List.all_eq_true]
    exact fun k hk => h k (List.mem_range.1 hk)
  unfold levOk
  rw [h0, h1, this, Bool.and_self, Bool.and_self, Bool.true_and]
theorem levOk_int {kind : Int} {xss : List (List Int)} {t : Nat} (h : dropOkI kind (dropV kind xss t) (xss.getD (xss.length - 2 - t) []) = true) : integersF (dropV kind xss (t + 1)) = true := by
  unfold dropOkI at h
  rw [Bool.and_eq_true] at h
  rw [dropV_succ]
  exact h.2
theorem int_le {xs : List Int} (h : integersF xs = true) : xs.length ≤ 128 := by
  simp only [integersF, Bool.and_eq_true] at h
  have := within_true.1 h.1
  omega
theorem dropV_le {kind : Int} {xss : List (List Int)} (hm : totL xss ≤ 2 ^ 40) : ∀ t, (∀ k, k < t → dropOkI kind (dropV kind xss k) (xss.getD (xss.length - 2 - k) []) = true) → (dropV kind xss t).length ≤ 2 ^ 40
  | 0, _ => totL_row hm _
  | t + 1, h => by
    have := int_le (levOk_int (h t (by omega)))
    omega
end Go.Proofs.Ytddekdgggpifmaa

namespace Go.Proofs.Ytddekdgggpifmaa
open Go.Gx
set_option maxRecDepth 100000
set_option linter.unusedSimpArgs false
set_option linter.unusedVariables false

theorem part_nat {a c x y w h : Int} {xs : List Nat} (p : partOk a c xs x y w h = true) : ∃ m n i j k l : Nat, a = m ∧ c = n ∧ x = i ∧ y = j ∧ w = k ∧ h = l ∧ 1 ≤ k ∧ 1 ≤ l ∧ i + k ≤ m ∧ j + l ≤ n ∧ m ≤ 16 ∧ n ≤ 16 ∧ xs.length = m * n ∧ xs.all finF = true := by
  unfold partOk at p
  simp only [Bool.and_eq_true] at p
  obtain ⟨⟨⟨⟨p0, p1⟩, p2⟩, p3⟩, p4⟩ := p
  obtain ⟨m, n, rfl, rfl, h1, h2, h3, h4, h5, h6⟩ := valid_sides p0
  have q1 := within_true.1 p1
  have q2 := within_true.1 p2
  have q3 := within_true.1 p3
  have q4 := within_true.1 p4
  exact ⟨m, n, x.toNat, y.toNat, w.toNat, h.toNat, rfl, rfl, by omega, by omega, by omega, by omega, by omega, by omega, by omega, by omega, h2, h4, h5, h6⟩
theorem crop_ix {m n x y a b : Nat} (hx : x + a < m) (hy : y + b < n) : (y + b) * m + x + a < m * n := by
  have h1 : (y + b + 1) * m ≤ n * m := Nat.mul_le_mul_right m hy
  rw [Nat.add_mul, Nat.one_mul, Nat.mul_comm n m] at h1
  omega
theorem crop_fin {m n i j k l : Nat} {xs : List Nat} (hk : 1 ≤ k) (h1 : i + k ≤ m) (h2 : j + l ≤ n) (hl : xs.length = m * n) (hf : xs.all finF = true) : (tabL (k * l) (cropF m xs i j k)).all finF = true := tabL_fin fun t ht => by
  have ha : t % k < k := Nat.mod_lt _ hk
  have hb : t / k < l := Nat.div_lt_of_lt_mul ht
  exact all_getD.1 hf _ (by rw [hl]; exact crop_ix (by omega) (by omega))
end Go.Proofs.Ytddekdgggpifmaa

namespace Go.Proofs.Ytddekdgggpifmaa
open Go.Gx
set_option maxRecDepth 100000
set_option linter.unusedSimpArgs false
set_option linter.unusedVariables false

theorem region_facts {a c l b : Int} (hk : regionOk a c l b = true) : 0 ≤ (regionF a c l b).1 ∧ 0 ≤ (regionF a c l b).2.1 ∧ 0 ≤ (regionF a c l b).2.2.1 ∧ 0 ≤ (regionF a c l b).2.2.2 ∧ (regionF a c l b).1 + (regionF a c l b).2.2.1 ≤ a ∧ (regionF a c l b).2.1 + (regionF a c l b).2.2.2 ≤ c ∧ a ≤ 16 ∧ c ≤ 16 := by
  unfold regionOk at hk
  simp only [Bool.and_eq_true] at hk
  have h1 := within_true.1 hk.1.1.1
  have h2 := within_true.1 hk.1.1.2
  have g1 := halfN_le' h1.1 (l - 1).toNat
  have g2 := halfN_le' h2.1 (l - 1).toNat
  have g3 := halfN_le' g1.1 1
  have g4 := halfN_le' g2.1 1
  unfold regionF
  dsimp only
  generalize halfN (halfN a (l - 1).toNat) 1 = U at *
  generalize halfN (halfN c (l - 1).toNat) 1 = V at *
  repeat' split
  all_goals (dsimp only; omega)
def bandOk (a c : Int) (xs : List Nat) (l b : Int) : Bool := regionOk a c l b && partOk a c xs (regionF a c l b).1 (regionF a c l b).2.1 (regionF a c l b).2.2.1 (regionF a c l b).2.2.2
def bandL (a c : Int) (xs : List Nat) (l b : Int) : List Nat := tabL ((regionF a c l b).2.2.1.toNat * (regionF a c l b).2.2.2.toNat) (cropF a.toNat xs (regionF a c l b).1.toNat (regionF a c l b).2.1.toNat (regionF a c l b).2.2.1.toNat)
theorem band_part {a c : Int} {xs : List Nat} {l b : Int} (hv : validPicF a c xs = true) (hk : regionOk a c l b = true) (h1 : ¬ (regionF a c l b).2.2.1 = 0) (h2 : ¬ (regionF a c l b).2.2.2 = 0) : partOk a c xs (regionF a c l b).1 (regionF a c l b).2.1 (regionF a c l b).2.2.1 (regionF a c l b).2.2.2 = true := by
  have h := region_facts hk
  unfold partOk
  rw [hv, within_true.2 (by omega), within_true.2 (by omega), within_true.2 (by omega), within_true.2 (by omega)]
  rfl
theorem band_none {a c : Int} {xs : List Nat} {l b : Int} (h1 : (regionF a c l b).2.2.1 = 0 ∨ (regionF a c l b).2.2.2 = 0) : bandOk a c xs l b = false := by
  unfold bandOk partOk
  rcases h1 with h | h
  · rw [h]
    simp [within]
  · rw [h]
    simp [within]
end Go.Proofs.Ytddekdgggpifmaa

namespace Go.Proofs.Ytddekdgggpifmaa
open Go.Gx
set_option maxRecDepth 100000
set_option linter.unusedSimpArgs false
set_option linter.unusedVariables false

theorem coarse_eq (m n i : Nat) (l : Int) : coarseF m n l i = (decide (((i % m : Nat) : Int) < halfN m l.toNat) && decide (((i / m : Nat) : Int) < halfN n l.toNat)) := by
  unfold coarseF
  push_cast
  rfl
def sizeX (xs : List Nat) (b : Int) : Nat := sizeF (xs.getD b.toNat 0)
def bestI (m n : Nat) (l : Int) (xs : List Nat) : Nat → Int := foldI (fun i b => if (!coarseF m n l i && (decide (b < 0) || fcB .gtr .f32 (sizeF (xs.getD i 0)) (sizeX xs b))) = true then (i : Int) else b) (-1)
theorem bestI_zero (m n : Nat) (l : Int) (xs : List Nat) : bestI m n l xs 0 = -1 := rfl
theorem bestI_succ (m n : Nat) (l : Int) (xs : List Nat) (i : Nat) : bestI m n l xs (i + 1) = if (!coarseF m n l i && (decide (bestI m n l xs i < 0) || fcB .gtr .f32 (sizeF (xs.getD i 0)) (sizeX xs (bestI m n l xs i)))) = true then (i : Int) else bestI m n l xs i := rfl
theorem bestI_lt (m n : Nat) (l : Int) (xs : List Nat) : ∀ i, -1 ≤ bestI m n l xs i ∧ bestI m n l xs i < i
  | 0 => by rw [bestI_zero]; omega
  | i + 1 => by
    have := bestI_lt m n l xs i
    rw [bestI_succ]
    split <;> omega
def roughV (a c : Int) (xs : List Nat) (l : Int) : Value :=
  if (validPicF a c xs && within l 1 4 && decide (0 ≤ bestI a.toNat c.toNat l xs xs.length)) = true then
    .tuple #[.int .i64 (((bestI a.toNat c.toNat l xs xs.length).toNat % a.toNat : Nat) : Int), .int .i64 (((bestI a.toNat c.toNat l xs xs.length).toNat / a.toNat : Nat) : Int), .float .f32 (sizeX xs (bestI a.toNat c.toNat l xs xs.length)), .bool true]
  else .tuple #[.int .i64 0, .int .i64 0, .float .f32 0, .bool false]
theorem roughV_no {a c : Int} {xs : List Nat} {l : Int} (h : (validPicF a c xs && within l 1 4 && decide (0 ≤ bestI a.toNat c.toNat l xs xs.length)) = false) : roughV a c xs l = .tuple #[.int .i64 0, .int .i64 0, .float .f32 0, .bool false] := by
  unfold roughV
  rw [h]; rfl
theorem roughV_yes {m n : Nat} {xs : List Nat} {l : Int} {k : Nat} (h1 : validPicF m n xs = true) (h2 : within l 1 4 = true) (hk : bestI m n l xs xs.length = k) : roughV m n xs l = .tuple #[.int .i64 ((k % m : Nat) : Int), .int .i64 ((k / m : Nat) : Int), .float .f32 (sizeF (xs.getD k 0)), .bool true] := by
  unfold roughV
  simp only [Int.toNat_natCast]
  rw [if_pos (by rw [h1, h2, Bool.and_self, Bool.true_and]; exact decide_eq_true (by omega)), hk]
  rfl
def roughO (a c : Int) (xs : List Nat) (l : Int) : Bool := validPicF a c xs && within l 1 4 && decide (0 ≤ bestI a.toNat c.toNat l xs xs.length)
def roughX (a c : Int) (xs : List Nat) (l : Int) : Int := if roughO a c xs l = true then (((bestI a.toNat c.toNat l xs xs.length).toNat % a.toNat : Nat) : Int) else 0
def roughY (a c : Int) (xs : List Nat) (l : Int) : Int := if roughO a c xs l = true then (((bestI a.toNat c.toNat l xs xs.length).toNat / a.toNat : Nat) : Int) else 0
def roughS (a c : Int) (xs : List Nat) (l : Int) : Nat := if roughO a c xs l = true then sizeX xs (bestI a.toNat c.toNat l xs xs.length) else 0
theorem roughV_eq (a c : Int) (xs : List Nat) (l : Int) : roughV a c xs l = .tuple #[.int .i64 (roughX a c xs l), .int .i64 (roughY a c xs l), .float .f32 (roughS a c xs l), .bool (roughO a c xs l)] := by
  unfold roughX roughY roughS
  cases h : roughO a c xs l
  · exact (roughV_no h).trans rfl
  · exact (if_pos h).trans rfl
end Go.Proofs.Ytddekdgggpifmaa

namespace Go.Proofs.Ytddekdgggpifmaa
open Go.Gx
set_option maxRecDepth 100000
set_option linter.unusedSimpArgs false
set_option linter.unusedVariables false

def outQ (b : Bool) (t x : Nat) : Bool := b && fcB .leq .f32 (sizeF x) t
def outX (b : Bool) (t x : Nat) : Nat := if outQ b t x = true then 0 else x
def cntK (b : Bool) (t : Nat) (xs : List Nat) : Nat → Nat := foldI (fun k c => if outQ b t (xs.getD k 0) = true then c + 1 else c) 0
theorem cntK_succ (b : Bool) (t : Nat) (xs : List Nat) (i : Nat) : cntK b t xs (i + 1) = if outQ b t (xs.getD i 0) = true then cntK b t xs i + 1 else cntK b t xs i := rfl
theorem cntK_le (b : Bool) (t : Nat) (xs : List Nat) : ∀ i, cntK b t xs i ≤ i
  | 0 => Nat.le_refl _
  | i + 1 => by
    have := cntK_le b t xs i
    rw [cntK_succ]
    split <;> omega
theorem cntK_no (t : Nat) (xs : List Nat) : ∀ i, cntK false t xs i = 0
  | 0 => rfl
  | i + 1 => by rw [cntK_succ, cntK_no t xs i]; rfl
def bandS (t : Nat) (xss : List (List Nat)) (k : Nat) : List Nat := (xss.getD k []).map (outX (decide (k + 1 < xss.length)) t)
def outS (t : Nat) (xss : List (List Nat)) (j : Nat) : List (List Nat) := (List.range j).map (bandS t xss)
def cntS (t : Nat) (xss : List (List Nat)) : Nat → Nat := foldI (fun k c => c + cntK (decide (k + 1 < xss.length)) t (xss.getD k []) (xss.getD k []).length) 0
theorem cntS_succ (t : Nat) (xss : List (List Nat)) (j : Nat) : cntS t xss (j + 1) = cntS t xss j + cntK (decide (j + 1 < xss.length)) t (xss.getD j []) (xss.getD j []).length := rfl
theorem outS_succ (t : Nat) (xss : List (List Nat)) (j : Nat) : outS t xss (j + 1) = outS t xss j ++ [bandS t xss j] := by simp [outS, List.range_succ]
theorem outS_len (t : Nat) (xss : List (List Nat)) (j : Nat) : (outS t xss j).length = j := by simp [outS]
theorem bandS_len (t : Nat) (xss : List (List Nat)) (k : Nat) : (bandS t xss k).length = (xss.getD k []).length := by simp [bandS]
theorem cntS_le (t : Nat) (xss : List (List Nat)) : ∀ j, j ≤ xss.length → cntS t xss j ≤ offN xss j
  | 0, _ => Nat.zero_le _
  | j + 1, h => by
    have h1 := cntS_le t xss j (by omega)
    have h2 := cntK_le (decide (j + 1 < xss.length)) t (xss.getD j []) (xss.getD j []).length
    rw [cntS_succ, offN_succ (by omega)]
    omega
theorem outS_tot (t : Nat) (xss : List (List Nat)) : totL (outS t xss xss.length) = totL xss := by
  have h : (outS t xss xss.length).map List.length = xss.map List.length := by
    refine list_ext_getD 0 (by simp [outS_len]) fun j hj => ?_
    have hj' : j < xss.length := by simpa [outS_len] using hj
    simp [outS, bandS, List.getD_eq_getElem?_getD, hj']
  unfold totL offN
  rw [outS_len, List.take_of_length_le (by rw [outS_len]; exact Nat.le_refl _), List.take_of_length_le (Nat.le_refl _), h]
theorem set_getD_self {xs : List Nat} {i : Nat} (h : i < xs.length) : xs.set i (xs.getD i 0) = xs := by
  have e : xs.getD i 0 = xs[i] := by simp [List.getD_eq_getElem?_getD, h]
  rw [e, List.set_getElem_self]
def SmallR (H : Heap) (ok : Bool) (c : Nat) (xss : List (List Nat)) (sty ty : TypeId) (r : Value) (H' : Heap) : Prop :=
  Ext H H' ∧ ∃ v, r = .tuple #[v, .int .i64 (selI ok c), .bool ok] ∧ OwS H.n H'.n H' sty ty v ((selL ok xss).map (List.map fv)) ∧ totL (selL ok xss) ≤ 2 ^ 40
theorem SmallR.no {H H' : Heap} {ok : Bool} {c : Nat} {xss : List (List Nat)} {sty ty : TypeId} (hk : ok = false) (e : Ext H H') : SmallR H ok c xss sty ty (.tuple #[.slice none 0 0, .int .i64 0, .bool false]) H' := by
  subst hk; exact ⟨e, _, rfl, .nil, by simp [selL, totL, offN]⟩
theorem SmallR.yes {H H' : Heap} {ok : Bool} {c : Nat} {xss : List (List Nat)} {sty ty : TypeId} {v : Value} (hk : ok = true) (e : Ext H H') (o : OwS H.n H'.n H' sty ty v (xss.map (List.map fv))) (hl : totL xss ≤ 2 ^ 40) : SmallR H ok c xss sty ty (.tuple #[v, .int .i64 c, .bool true]) H' := by
  subst hk; exact ⟨e, v, rfl, o, hl⟩
end Go.Proofs.Ytddekdgggpifmaa

namespace Go.Proofs.Ytddekdgggpifmaa
open Go.Gx
set_option maxRecDepth 100000
set_option linter.unusedSimpArgs false
set_option linter.unusedVariables false

theorem stopN_all {p : Nat → Bool} : ∀ n k, k < stopN p n → p k = true
  | 0, k, h => absurd h (Nat.not_lt_zero _)
  | n + 1, k, h => by
    have hle := stopN_le p n
    unfold stopN at h
    split at h
    · rename_i hc
      by_cases hk : k = n
      · rw [hk]; exact hc.2
      · exact stopN_all n k (by omega)
    · exact stopN_all n k h
theorem stopN_stop {p : Nat → Bool} {n : Nat} (h : stopN p n < n) : p (stopN p n) = false := by
  cases hp : p (stopN p n)
  · rfl
  · have := stopN_gt (p := p) (t := stopN p n) (n := n) (fun k hk => by
      by_cases hk' : k = stopN p n
      · rw [hk']; exact hp
      · exact stopN_all n k (by omega)) h
    omega
theorem levelsD_len (ws : List Nat) (sc : Nat) (xs : List Nat) (n : Nat) : (levelsD ws sc xs n).length = stopN (moreD ws sc xs) n + 1 := by simp [levelsD, outD_len]
theorem levelsD_at {ws : List Nat} {sc : Nat} {xs : List Nat} {n k : Nat} (hk : k < stopN (moreD ws sc xs) n) : (levelsD ws sc xs n).getD k [] = (liftF ws sc (nowD ws sc xs k)).2 := by
  unfold levelsD
  rw [getD_app_lt (by rw [outD_len]; exact hk), outD]
  exact getD_range_map hk
theorem levelsD_last (ws : List Nat) (sc : Nat) (xs : List Nat) (n : Nat) : (levelsD ws sc xs n).getD (stopN (moreD ws sc xs) n) [] = nowD ws sc xs (stopN (moreD ws sc xs) n) := by
  unfold levelsD
  have := @getD_app_at _ (outD ws sc xs (stopN (moreD ws sc xs) n)) (nowD ws sc xs (stopN (moreD ws sc xs) n)) []
  rwa [outD_len] at this
/-- The sizes from 'k' on make up the list that is lifted at 'k'. -/
theorem levels_suf (ws : List Nat) (sc : Nat) (xs : List Nat) (n : Nat) : ∀ d k, k + d = stopN (moreD ws sc xs) n → sufS ((levelsD ws sc xs n).map List.length) k = (nowD ws sc xs k).length
  | 0, k, h => by
    have hk : k = stopN (moreD ws sc xs) n := by omega
    have hl := levelsD_len ws sc xs n
    have h1 := sufS_last (sz := (levelsD ws sc xs n).map List.length) (by rw [List.length_map]; omega)
    rw [List.length_map, hl, Nat.add_sub_cancel, ← hk, sizes_len] at h1
    rw [h1, hk, levelsD_last]
  | d + 1, k, h => by
    have ih := levels_suf ws sc xs n d (k + 1) (by omega)
    have hl := levelsD_len ws sc xs n
    rw [sufS_succ (by rw [List.length_map]; omega), ih, sizes_len, levelsD_at (by omega), nowD_succ, liftF_len1, liftF_len2]
    omega
theorem levels_sizes {ws : List Nat} {sc : Nat} {xs : List Nat} {n : Nat} (h1 : 1 ≤ xs.length) (hx : xs.length ≤ 128) (hn : 1 ≤ n) (hn6 : n ≤ 6) : sizesF ((levelsD ws sc xs n).map List.length) = true := by
  have hs := stopN_le (moreD ws sc xs) n
  have hl := levelsD_len ws sc xs n
  obtain ⟨L, hL⟩ : ∃ L, L = stopN (moreD ws sc xs) n := ⟨_, rfl⟩
  have hlast := nowD_le ws sc xs h1 L
  refine (sizesF_yes (within_true.2 ?_) ?_ ?_ ?_).1
  · rw [List.length_map, hl]; omega
  · rw [List.length_map, hl, Nat.add_sub_cancel, sizes_len, levelsD_last, ← hL]; omega
  · rw [List.length_map, hl, sizes_len]
    by_cases hz : L = 0
    · refine .inr ?_
      have h2 := stopN_stop (p := moreD ws sc xs) (n := n) (by omega)
      have h3 := levelsD_last ws sc xs n
      rw [← hL, hz] at h2 h3
      rw [h3]
      have h4 := of_decide_eq_false h2
      rw [hz] at hlast
      omega
    · exact .inl (by omega)
  · intro j hj
    rw [List.length_map, hl, Nat.add_sub_cancel] at hj
    have h2 := of_decide_eq_true (stopN_all (p := moreD ws sc xs) n j hj)
    have h3 := levels_suf ws sc xs n (stopN (moreD ws sc xs) n - j) j (by omega)
    have h4 := levels_suf ws sc xs n (stopN (moreD ws sc xs) n - (j + 1)) (j + 1) (by omega)
    have h5 := nowD_le ws sc xs h1 j
    rw [nowD_succ, liftF_len1] at h4
    unfold sizeAt
    rw [sizes_len, levelsD_at hj, liftF_len2, h3, h4]
    simp only [Bool.and_eq_true, Bool.or_eq_true, decide_eq_true_eq]
    omega
def coarseL (xss : List (List Nat)) (keep i : Nat) : List Nat := if i + 1 + keep < xss.length then zerosF (xss.getD i []).length else xss.getD i []
def coarseU (xss : List (List Nat)) (keep t : Nat) : List (List Nat) := (List.range xss.length).map fun i => if i < t then coarseL xss keep i else xss.getD i []
theorem coarseU_len (xss : List (List Nat)) (keep t : Nat) : (coarseU xss keep t).length = xss.length := by simp [coarseU]
theorem coarseU_at {xss : List (List Nat)} {keep t i : Nat} (h : i < xss.length) : (coarseU xss keep t).getD i [] = if i < t then coarseL xss keep i else xss.getD i [] := by
  rw [coarseU, getD_range_map h]
theorem coarseL_len (xss : List (List Nat)) (keep i : Nat) : (coarseL xss keep i).length = (xss.getD i []).length := by
  unfold coarseL
  split
  · exact zerosF_length _
  · rfl
theorem coarseU_row {xss : List (List Nat)} {keep t i : Nat} (h : i < xss.length) : ((coarseU xss keep t).getD i []).length = (xss.getD i []).length := by
  rw [coarseU_at h]
  split
  · exact coarseL_len _ _ _
  · rfl
theorem coarseU_zero (xss : List (List Nat)) (keep : Nat) : coarseU xss keep 0 = xss := by
  refine list_ext_getD [] (coarseU_len _ _ _) fun j hj => ?_
  rw [coarseU_len] at hj
  rw [coarseU_at hj]; rfl
theorem coarseU_succ {xss : List (List Nat)} {keep t : Nat} (h : t < xss.length) : coarseU xss keep (t + 1) = (coarseU xss keep t).set t (coarseL xss keep t) := by
  refine list_ext_getD [] (by simp [coarseU_len]) fun j hj => ?_
  rw [coarseU_len] at hj
  rw [coarseU_at hj]
  by_cases hjt : j = t
  · subst hjt
    rw [getD_set_self (by rw [coarseU_len]; exact hj), if_pos (by omega)]
  · rw [Go.Gx.getD_set_ne (Ne.symm hjt), coarseU_at hj]
    by_cases h2 : j < t
    · rw [if_pos h2, if_pos (by omega)]
    · rw [if_neg h2, if_neg (by omega)]
theorem coarseU_sizes (xss : List (List Nat)) (keep t : Nat) : (coarseU xss keep t).map List.length = xss.map List.length := by
  refine list_ext_getD 0 (by simp [coarseU_len]) fun j hj => ?_
  have hj' : j < xss.length := by simpa [coarseU_len] using hj
  rw [sizes_len, sizes_len, coarseU_row hj']
theorem coarseU_tot (xss : List (List Nat)) (keep t : Nat) : totL (coarseU xss keep t) = totL xss := by
  unfold totL offN
  rw [List.take_of_length_le (Nat.le_refl _), List.take_of_length_le (Nat.le_refl _), coarseU_len, coarseU_sizes]
theorem levels_fin {ws : List Nat} {sc : Nat} {xs : List Nat} {n : Nat} (hx : isLongF xs = true) (h : ∀ k, k < stopN (moreD ws sc xs) n → liftOkF ws sc (nowD ws sc xs k) = true) (i : Nat) (hi : i < (levelsD ws sc xs n).length) : ((levelsD ws sc xs n).getD i []).all finF = true := by
  rw [levelsD_len] at hi
  by_cases hk : i < stopN (moreD ws sc xs) n
  · rw [levelsD_at hk]
    have h1 := h i hk
    have h2 := of_decide_eq_true (stopN_all (p := moreD ws sc xs) n i hk)
    unfold liftOkF at h1
    rw [Bool.or_eq_true, Bool.and_eq_true, decide_eq_true_eq] at h1
    rcases h1 with h1 | h1
    · omega
    · exact h1.2
  · have hk' : i = stopN (moreD ws sc xs) n := by omega
    rw [hk', levelsD_last]
    exact isLong_fin (nowD_long hx _ h)
theorem coarse_bands {ws : List Nat} {sc : Nat} {xs : List Nat} {n keep t : Nat} (hx : isLongF xs = true) (hn : 1 ≤ n) (hn6 : n ≤ 6) (h : ∀ k, k < stopN (moreD ws sc xs) n → liftOkF ws sc (nowD ws sc xs k) = true) : bandsF (coarseU (levelsD ws sc xs n) keep t) = true := by
  obtain ⟨hl, hl1⟩ := isLong_len hx
  unfold bandsF
  rw [coarseU_sizes, levels_sizes hl1 hl hn hn6, Bool.true_and]
  refine (allD []).2 fun j hj => ?_
  rw [coarseU_len] at hj
  rw [coarseU_at hj]
  have hf := levels_fin hx h j hj
  split
  · unfold coarseL
    split
    · exact zerosF_fin _
    · exact hf
  · exact hf
theorem deepOk_parts {ws : List Nat} {sc : Nat} {xs : List Nat} {n : Int} (h : deepOk ws sc xs n = true) : schemeF ws sc = true ∧ isLongF xs = true ∧ within n 1 6 = true ∧ ∀ k, k < stopN (moreD ws sc xs) n.toNat → liftOkF ws sc (nowD ws sc xs k) = true := by
  unfold deepOk at h
  rw [Bool.and_eq_true, Bool.and_eq_true, Bool.and_eq_true, List.all_eq_true] at h
  exact ⟨h.1.1.1, h.1.1.2, h.1.2, fun k hk => h.2 k (List.mem_range.2 hk)⟩
theorem OwN_at {lo hi i : Nat} {H : Heap} {ty : TypeId} {vs : List Value} {ls : List (List Value)} {v : Value} {l : List Value} (o : OwN lo hi H ty vs ls) (hi' : i < ls.length) (p : OwL lo hi H ty v l) (hd : ∀ j h, j < ls.length → hdl (vs.getD j undef) = some h → hdl v ≠ some h) : OwN lo hi H ty (vs.set i v) (ls.set i l) := by
  obtain ⟨h1, h2, h3⟩ := o
  have es : (vs.set i v).getD i undef = v := getD_set_self (by omega)
  have en : ∀ j, j ≠ i → (vs.set i v).getD j undef = vs.getD j undef := fun j hj => Go.Gx.getD_set_ne (Ne.symm hj)
  refine ⟨by simp [h1], fun j hj => ?_, fun j k h hj hk hh hk' => ?_⟩
  · rw [List.length_set] at hj
    by_cases hji : j = i
    · rw [hji, es, getD_set_self hi']; exact p
    · rw [en j hji, Go.Gx.getD_set_ne (Ne.symm hji)]; exact h2 j hj
  · rw [List.length_set] at hj hk
    by_cases hji : j = i
    · by_cases hki : k = i
      · rw [hji, hki]
      · rw [hji, es] at hh
        rw [en k hki] at hk'
        exact absurd hh (hd k h hk hk')
    · by_cases hki : k = i
      · rw [hki, es] at hk'
        rw [en j hji] at hh
        exact absurd hk' (hd j h hj hh)
      · rw [en j hji] at hh
        rw [en k hki] at hk'
        exact h3 j k h hj hk hh hk'
def coarseOk (ws : List Nat) (sc : Nat) (xs : List Nat) (n keep : Int) : Bool := decide (0 ≤ keep) && (deepOk ws sc xs n && unOk ws sc (coarseU (levelsD ws sc xs n.toNat) keep.toNat ((levelsD ws sc xs n.toNat).length - 1 - keep.toNat)))
def coarseD (ws : List Nat) (sc : Nat) (xs : List Nat) (n keep : Int) : List Nat := dropD ws sc (coarseU (levelsD ws sc xs n.toNat) keep.toNat ((levelsD ws sc xs n.toNat).length - 1 - keep.toNat)) ((levelsD ws sc xs n.toNat).length - 1)
end Go.Proofs.Ytddekdgggpifmaa

namespace Go.Proofs.Ytddekdgggpifmaa
open Go.Gx
set_option maxRecDepth 100000
set_option linter.unusedSimpArgs false
set_option linter.unusedVariables false

def atF (xs : List Nat) (i : Int) : Nat := xs.getD (mirF xs.length i).toNat 0
def wK (k : Nat) : Nat := [1031798784, 1048576000, 1052770304, 1048576000, 1031798784].getD k 0
def smoothK (xs : List Nat) (d : Int) (j : Nat) : Nat → Nat := foldI (fun k s => fbin .add .f32 s (fbin .mul .f32 (atF xs ((j : Int) + ((k : Int) - 2) * d)) (wK k))) 0
def smoothL (d : Int) (xs : List Nat) : List Nat := (List.range xs.length).map fun j => smoothK xs d j 5
theorem smoothL_length (d : Int) (xs : List Nat) : (smoothL d xs).length = xs.length := by simp [smoothL]
theorem smooth5 (xs : List Nat) (d : Int) (j : Nat) : smoothK xs d j 5 = fbin .add .f32 (fbin .add .f32 (fbin .add .f32 (fbin .add .f32 (fbin .add .f32 0 (fbin .mul .f32 (atF xs ((j : Int) - 2 * d)) 1031798784)) (fbin .mul .f32 (atF xs ((j : Int) - d)) 1048576000)) (fbin .mul .f32 (atF xs (j : Int)) 1052770304)) (fbin .mul .f32 (atF xs ((j : Int) + d)) 1048576000)) (fbin .mul .f32 (atF xs ((j : Int) + 2 * d)) 1031798784) := by
  have e0 : (j : Int) + (((0 : Nat) : Int) - 2) * d = (j : Int) - 2 * d := by omega
  have e1 : (j : Int) + (((1 : Nat) : Int) - 2) * d = (j : Int) - d := by omega
  have e2 : (j : Int) + (((2 : Nat) : Int) - 2) * d = (j : Int) := by omega
  have e3 : (j : Int) + (((3 : Nat) : Int) - 2) * d = (j : Int) + d := by omega
  have e4 : (j : Int) + (((4 : Nat) : Int) - 2) * d = (j : Int) + 2 * d := by omega
  simp only [smoothK, foldI_succ, foldI_zero, e0, e1, e2, e3, e4]
  rfl
def nowW (xs : List Nat) : Nat → List Nat := foldI (fun t l => smoothL ((2 ^ t : Nat) : Int) l) xs
theorem nowW_succ (xs : List Nat) (t : Nat) : nowW xs (t + 1) = smoothL ((2 ^ t : Nat) : Int) (nowW xs t) := rfl
theorem nowW_len (xs : List Nat) : ∀ t, (nowW xs t).length = xs.length
  | 0 => rfl
  | t + 1 => by rw [nowW_succ, smoothL_length, nowW_len xs t]
def detW (xs : List Nat) (t : Nat) : List Nat := (List.range xs.length).map fun j => fbin .sub .f32 ((nowW xs t).getD j 0) ((nowW xs (t + 1)).getD j 0)
theorem detW_len (xs : List Nat) (t : Nat) : (detW xs t).length = xs.length := by simp [detW]
def frameW (xs : List Nat) (n : Nat) : List (List Nat) := (List.range n).map (detW xs) ++ [nowW xs n]
def frameOk (xs : List Nat) (n : Int) : Bool := isLongF xs && within n 0 6 && (frameW xs n.toNat).all fun l => l.all finF
theorem det_fin {xs : List Nat} {t : Nat} (hc : (nowW xs t).all finF = true) (hd : (detW xs t).all finF = true) : (nowW xs (t + 1)).all finF = true := by
  refine all_getD.2 fun j hj => ?_
  rw [nowW_len] at hj
  have h1 := all_getD.1 hc j (by rw [nowW_len]; exact hj)
  have h2 := all_getD.1 hd j (by rw [detW_len]; exact hj)
  rw [detW, getD_range_map hj] at h2
  exact fin_sub h1 h2
theorem outW_sum (xs : List Nat) (n : Nat) : ∀ t, t ≤ n → offN (frameW xs n) t = t * xs.length
  | 0, _ => by simp [offN_zero]
  | t + 1, h => by
    have hl : (frameW xs n).length = n + 1 := by simp [frameW]
    rw [offN_succ (by omega), outW_sum xs n t (by omega)]
    have e : (frameW xs n).getD t [] = detW xs t := by
      unfold frameW
      rw [getD_app_lt (by simp; omega)]
      exact getD_range_map (by omega)
    rw [e, detW_len, Nat.add_mul, Nat.one_mul]
theorem frameW_tot {xs : List Nat} {n : Nat} (hx : xs.length ≤ 128) (hn : n ≤ 6) : totL (frameW xs n) ≤ 2 ^ 40 := by
  have hl : (frameW xs n).length = n + 1 := by simp [frameW]
  unfold totL
  rw [hl, offN_succ (by omega), outW_sum xs n n (Nat.le_refl _)]
  have e : (frameW xs n).getD n [] = nowW xs n := by
    unfold frameW
    have := @getD_app_at _ ((List.range n).map (detW xs)) (nowW xs n) []
    rw [List.length_map, List.length_range] at this
    exact this
  rw [e, nowW_len]
  have : n * xs.length ≤ 6 * 128 := Nat.mul_le_mul hn hx
  omega
theorem eBsl_5 {ety : TypeId} {zero a b c d e : Value} {H : Heap} (ha : one a = true) (hb : one b = true) (hc : one c = true) (hd : one d = true) (he : one e = true) : eBsl ety 5 zero [(0, a), (1, b), (2, c), (3, d), (4, e)] H = some (.slice (some ⟨H.n, 0, none⟩) 5 5, H.new ⟨true, ety, [a, b, c, d, e]⟩) := by
  simp [eBsl, afillS, ha, hb, hc, hd, he, List.replicate]
def tapsW : List Nat := [1031798784, 1048576000, 1052770304, 1048576000, 1031798784]
theorem frame_no {xs : List Nat} {n t : Nat} (ht : t < n) (h : (detW xs t).all finF = false) : frameOk xs n = false := by
  have : ((frameW xs n).all fun l => l.all finF) = false := by
    rw [List.all_eq_false]
    exact ⟨detW xs t, List.mem_append_left _ (List.mem_map.2 ⟨t, List.mem_range.2 ht, rfl⟩), by rw [h]; decide⟩
  unfold frameOk
  rw [Int.toNat_natCast, this, Bool.and_false]
theorem frame_yes {xs : List Nat} {n : Nat} (h1 : isLongF xs = true) (h2 : within n 0 6 = true) (h : ∀ t, t < n → (detW xs t).all finF = true) (h' : (nowW xs n).all finF = true) : frameOk xs n = true := by
  have : ((frameW xs n).all fun l => l.all finF) = true := by
    rw [List.all_eq_true]
    intro l hl
    rcases List.mem_append.1 hl with hl | hl
    · obtain ⟨t, ht, rfl⟩ := List.mem_map.1 hl
      exact h t (List.mem_range.1 ht)
    · rw [List.mem_singleton] at hl
      rw [hl]; exact h'
  unfold frameOk
  rw [Int.toNat_natCast, this, h1, h2]; rfl
end Go.Proofs.Ytddekdgggpifmaa

namespace Go.Proofs.Ytddekdgggpifmaa
open Go.Gx
set_option maxRecDepth 100000
set_option linter.unusedSimpArgs false
set_option linter.unusedVariables false

def markB (k : Int) (i : Nat) : Value := .bool (decide ((k + i).tmod 3 = 0))
def keepL (keep : Bool) (xs : List Nat) : List Nat := if keep = true then xs else List.replicate xs.length 0
theorem keepL_length (keep : Bool) (xs : List Nat) : (keepL keep xs).length = xs.length := by unfold keepL; split <;> simp
def keepS (ks : List Bool) (yss : List (List Nat)) (n : Nat) : List (List Nat) := (List.range n).map fun j => keepL (ks.getD j false) (yss.getD j [])
theorem keepS_succ (ks : List Bool) (yss : List (List Nat)) (n : Nat) : keepS ks yss n ++ [keepL (ks.getD n false) (yss.getD n [])] = keepS ks yss (n + 1) := by simp [keepS, List.range_succ]
theorem keepS_length (ks : List Bool) (yss : List (List Nat)) (n : Nat) : (keepS ks yss n).length = n := by simp [keepS]
theorem keepS_tot (ks : List Bool) (yss : List (List Nat)) : totL (keepS ks yss yss.length) = totL yss := by
  have h : ∀ n, n ≤ yss.length → offN (keepS ks yss yss.length) n = offN yss n := by
    intro n
    induction n with
    | zero => intro _; simp [offN_zero]
    | succ n ih =>
      intro hn
      rw [offN_succ (by rw [keepS_length]; omega), offN_succ (by omega), ih (by omega)]
      unfold keepS
      rw [getD_range_map (by omega), keepL_length]
  unfold totL
  rw [keepS_length, h _ (Nat.le_refl _)]
def keepOk (xs : List Nat) (yss : List (List Nat)) (ks : List Bool) : Bool := validBandsF xs yss && decide (ks.length = yss.length)
/-- Bands that are handed back. -/
def BandsR (sty ty : TypeId) (H : Heap) (ok : Bool) (xs : List Nat) (yss : List (List Nat)) (r : Value) (H' : Heap) : Prop :=
  Ext H H' ∧ ∃ v u, r = .tuple #[.agg #[v, u], .bool ok] ∧ OwB H.n H'.n H' sty ty v u ((selL ok xs).map fv) ((selL ok yss).map (List.map fv)) ∧ (selL ok xs).length ≤ 2 ^ 40 ∧ totL (selL ok yss) ≤ 2 ^ 40
theorem OwB.nil {lo hi : Nat} {H : Heap} {sty ty : TypeId} : OwB lo hi H sty ty (.slice none 0 0) (.slice none 0 0) [] [] := ⟨[], .nil, OwN.cons .nil .nil fun i h hi => by simp at hi⟩
theorem BandsR.no {sty ty : TypeId} {H H' : Heap} {ok : Bool} {xs : List Nat} {yss : List (List Nat)} (hk : ok = false) (e : Ext H H') : BandsR sty ty H ok xs yss (.tuple #[.agg #[.slice none 0 0, .slice none 0 0], .bool false]) H' := by
  subst hk; exact ⟨e, _, _, rfl, OwB.nil, by simp [selL], by simp [selL, totL, offN]⟩
theorem BandsR.yes {sty ty : TypeId} {H H' : Heap} {ok : Bool} {xs : List Nat} {yss : List (List Nat)} {v u : Value} (hk : ok = true) (e : Ext H H') (o : OwB H.n H'.n H' sty ty v u (xs.map fv) (yss.map (List.map fv))) (hl : xs.length ≤ 2 ^ 40) (hm : totL yss ≤ 2 ^ 40) :
    BandsR sty ty H ok xs yss (.tuple #[.agg #[v, u], .bool true]) H' := by
  subst hk; exact ⟨e, v, u, rfl, o, hl, hm⟩
theorem eCpy_own {H : Heap} {h n : Nat} {ty : TypeId} {l src : List Value} (hb : H.blk h = some ⟨true, ty, l⟩) (hl : l.length = n) (hs : src.length = n) :
    eCpy (.slice (some ⟨h, 0, none⟩) n n) (some src) H = some (.int .i64 (n : Nat), H.put h ⟨true, ty, src⟩) := by
  show cpyB (H.blk h) h 0 n n src H = _
  rw [hb]
  unfold cpyB
  simp only [hl, hs, Nat.zero_add, Nat.min_self, List.take_zero, List.nil_append, Nat.le_refl, and_self, if_true]
  rw [List.take_of_length_le (by omega), List.drop_of_length_le (by omega), List.append_nil]
/-- A list is appended to a list of lists that lies in a variable's block, beside another list. -/
theorem OwB_push {H0 G : Heap} {hp lo bytes : Nat} {c d r : Value} {l m : List Value} {ls : List (List Value)} {vs : List Value} {bty sty ty : TypeId} (E : Ext H0 G) (od : OwL lo G.n G sty d vs) (on : OwN lo G.n G ty (c :: vs) (l :: ls))
    (orr : OwL lo G.n G ty r m) (hd : ∀ i h, i < (l :: ls).length → hdl ((c :: vs).getD i undef) = some h → hdl r ≠ some h) (hlo : H0.n ≤ lo) (hlo' : lo ≤ G.n) (hb : G.blk hp = some ⟨true, bty, [c, d]⟩) (hh : hp < G.n) (hp0 : H0.n ≤ hp) (h1 : bty ≠ sty) (h2 : bty ≠ ty) (h3 : sty ≠ ty)
    (hlen : (vs.length + 1) * bytes ≤ 140737488355328) :
    ∃ d' G', eApp sty bytes d (some [r]) (G.new ⟨true, sty, [r]⟩) = some (d', G') ∧ one d' = true ∧ G.n + 1 ≤ G'.n ∧ G'.blk hp = some ⟨true, bty, [c, d]⟩ ∧ (∀ i, i < G.n → hdl d ≠ some i → G'.blk i = G.blk i) ∧ Ext H0 (G'.put hp ⟨true, bty, [c, d']⟩) ∧
      OwL lo G'.n (G'.put hp ⟨true, bty, [c, d']⟩) sty d' (vs ++ [r]) ∧ OwN lo G'.n (G'.put hp ⟨true, bty, [c, d']⟩) ty (c :: (vs ++ [r])) (l :: (ls ++ [m])) := by
  obtain ⟨d', G', e, n', hb', o1, hk, hfin⟩ := push_ow (bytes := bytes) (x := r) E od hlo hlo' hb hh hp0 h1 hlen
  obtain ⟨f1, f2⟩ := hfin [c, d']
  refine ⟨d', G', e, o1, n', hb', hk, f1, f2, ?_⟩
  have q := on.snoc orr hd
  refine ((OwN.wide q (Nat.le_refl _) (by omega : G.n ≤ G'.n)).keep (by rw [put_n]; omega) fun i h hi hh' => ?_)
  obtain ⟨_, _, g3, g4, _⟩ := (q.2.1 i hi).hdl hh'
  rw [hput_other _ _ _ _ (fun e => by subst e; rw [hb] at g4; simp only [Option.some.injEq, Blk.mk.injEq] at g4; exact h2 g4.2.1)]
  refine hk h g3 fun e => ?_
  obtain ⟨_, _, _, k4, _⟩ := od.hdl e
  rw [g4] at k4
  simp only [Option.some.injEq, Blk.mk.injEq] at k4
  exact h3 k4.2.1.symm
end Go.Proofs.Ytddekdgggpifmaa

namespace Go.Proofs.Ytddekdgggpifmaa
open Go.Gx
set_option maxRecDepth 100000
set_option linter.unusedSimpArgs false
set_option linter.unusedVariables false

theorem swap_ix {m n x y : Nat} (hx : x < n) (hy : y < m) : x * m + y < m * n := by
  have h1 : (x + 1) * m ≤ n * m := Nat.mul_le_mul_right m hx
  rw [Nat.add_mul, Nat.one_mul, Nat.mul_comm n m] at h1
  omega
theorem swap_fin {m n : Nat} {xs : List Nat} (hn : 1 ≤ n) (hl : xs.length = m * n) (hf : xs.all finF = true) : (tabL (m * n) (swapF m n xs)).all finF = true := tabL_fin fun t ht => by
  have ha : t % n < n := Nat.mod_lt _ hn
  have hb : t / n < m := Nat.div_lt_of_lt_mul (by rw [Nat.mul_comm]; exact ht)
  exact all_getD.1 hf _ (by rw [hl]; exact swap_ix ha hb)
end Go.Proofs.Ytddekdgggpifmaa

namespace Go.Proofs.Ytddekdgggpifmaa
open Go.Gx
set_option maxRecDepth 100000
set_option linter.unusedSimpArgs false
set_option linter.unusedVariables false

theorem callR_put {P : Program} {f : FuncId} {args : List Value} {d : Option Nat} {rc : RC} {r : List AStep} {k : List AItem} {R : Post} {φ : Gx.Frame} {H : Heap} {h : Nat} {b : Blk}
    (hk : ∀ G, G.n = H.n → G.blk h = some b → (∀ i, i ≠ h → G.blk i = H.blk i) → callR P f args d rc r k R φ G) : callR P f args d rc r k R φ (H.put h b) := hk _ rfl (hput_self _ _ _) fun i hi => hput_other _ _ _ _ hi
/-- The rest behind a call's result and its variable, whose block was made in any order: shown once. -/
theorem bothPic {P : Program} {ty t : TypeId} {G0 : Heap} {ok : Bool} {w h : Int} {l : List Nat} {f : FuncId} {args : Nat → Value → List Value} {d : Option Nat} {rc : RC} {r : List AStep} {k : List AItem} {R : Post} {φ : Nat → Value → Gx.Frame} {X : Prop}
    (main : (∀ (p : Nat) (y : Value) (G : Heap), G0.n ≤ p → p < G.n → Ext G0 G → G.blk p = some ⟨true, ty, [.int .i64 (selI ok w), .int .i64 (selI ok h), y]⟩ → OwL G0.n G.n G t y ((selL ok l).map fv) → (selL ok l).length ≤ 2 ^ 40 → callR P f (args p y) d rc r k R (φ p y) G) → X)
    (kk : ∀ (p : Nat) (y : Value) (G : Heap), G0.n ≤ p → p < G.n → Ext G0 G → G.blk p = some ⟨true, ty, [.int .i64 (selI ok w), .int .i64 (selI ok h), y]⟩ → OwL G0.n G.n G t y ((selL ok l).map fv) → (selL ok l).length ≤ 2 ^ 40 → callR P f (args p y) d rc r k R (φ p y) G) : X := main kk
def blendF (sh : Nat) (xs ys : List Nat) (i : Nat) : Nat := fbin .add .f32 (xs.getD i 0) (fbin .mul .f32 sh (fbin .sub .f32 (ys.getD i 0) (xs.getD i 0)))
def blendL (sh : Nat) (xs ys : List Nat) : List Nat := tabL xs.length (blendF sh xs ys)
def blendOk (a c : Int) (xs : List Nat) (b d : Int) (ys : List Nat) (sh : Nat) : Bool := alikeF a c xs b d ys && shareF sh && validPicF a c (blendL sh xs ys)
theorem alike_len {a c b d : Int} {xs ys : List Nat} (h : alikeF a c xs b d ys = true) : ys.length = xs.length ∧ xs.length ≤ 256 ∧ a = b ∧ c = d := by
  unfold alikeF at h
  simp only [Bool.and_eq_true, decide_eq_true_eq] at h
  obtain ⟨⟨⟨h1, h2⟩, rfl⟩, rfl⟩ := h
  have q := valid_len h1
  obtain ⟨m, n, rfl, rfl, _, _, _, _, e1, _⟩ := valid_sides h1
  obtain ⟨m', n', e3, e4, _, _, _, _, e2, _⟩ := valid_sides h2
  have : m' = m := by omega
  have : n' = n := by omega
  subst_vars
  exact ⟨by rw [e1, e2], q, rfl, rfl⟩
end Go.Proofs.Ytddekdgggpifmaa

namespace Go.Proofs.Ytddekdgggpifmaa
open Go.Gx
set_option maxRecDepth 100000
set_option linter.unusedSimpArgs false
set_option linter.unusedVariables false

def putI (W x y w : Nat) (i : Nat) : Nat := (y + i / w) * W + x + i % w
def putN (W x y w : Nat) (ps : List Nat) (xs : List Nat) : Nat → List Nat := foldI (fun i l => l.set (putI W x y w i) (ps.getD i 0)) xs
theorem putN_succ (W x y w : Nat) (ps xs : List Nat) (n : Nat) : putN W x y w ps xs (n + 1) = (putN W x y w ps xs n).set (putI W x y w n) (ps.getD n 0) := rfl
theorem putN_len (W x y w : Nat) (ps xs : List Nat) : ∀ n, (putN W x y w ps xs n).length = xs.length
  | 0 => rfl
  | n + 1 => by rw [putN_succ, List.length_set]; exact putN_len W x y w ps xs n
theorem rowset {l src : List Nat} {o : Nat} : ∀ u, o + u ≤ l.length → u ≤ src.length → foldI (fun i (k : List Nat) => k.set (o + i) (src.getD i 0)) l u = l.take o ++ src.take u ++ l.drop (o + u)
  | 0, h1, h2 => by simp [foldI_zero]
  | u + 1, h1, h2 => by
    rw [foldI_succ, rowset u (by omega) (by omega)]
    have hlen : (l.take o ++ src.take u).length = o + u := by simp; omega
    rw [List.set_append_right _ _ (by omega), hlen, Nat.sub_self]
    have hd : l.drop (o + u) = l.getD (o + u) 0 :: l.drop (o + (u + 1)) := by
      have : o + u < l.length := by omega
      rw [List.drop_eq_getElem_cons this]
      simp [List.getD_eq_getElem?_getD, this, Nat.add_assoc]
    have ht : src.take (u + 1) = src.take u ++ [src.getD u 0] := by
      have : u < src.length := by omega
      rw [List.take_add_one]
      simp [List.getD_eq_getElem?_getD, this]
    rw [hd, List.set_cons_zero, ht]
    simp
theorem putN_row {W x y w : Nat} {ps xs : List Nat} {v : Nat} (hw : 1 ≤ w) : ∀ u, u ≤ w → putN W x y w ps xs (v * w + u) = foldI (fun i (k : List Nat) => k.set ((y + v) * W + x + i) ((ps.drop (v * w)).getD i 0)) (putN W x y w ps xs (v * w)) u
  | 0, _ => by simp [foldI_zero]
  | u + 1, h => by
    rw [← Nat.add_assoc, putN_succ, foldI_succ, ← putN_row hw u (by omega)]
    have e : putI W x y w (v * w + u) = (y + v) * W + x + u := by
      unfold putI
      rw [row_div (w := w) (y := v) (x := u) (by omega), row_mod (w := w) (y := v) (x := u) (by omega)]
    have e2 : (ps.drop (v * w)).getD u 0 = ps.getD (v * w + u) 0 := by simp [List.getD_eq_getElem?_getD, List.getElem?_drop]
    rw [e, e2]
theorem putN_copy {W x y w : Nat} {ps xs : List Nat} {v : Nat} (hw : 1 ≤ w) (h1 : (y + v) * W + x + w ≤ xs.length) (h2 : (v + 1) * w ≤ ps.length) :
    putN W x y w ps xs ((v + 1) * w) = (putN W x y w ps xs (v * w)).take ((y + v) * W + x) ++ (ps.drop (v * w)).take w ++ (putN W x y w ps xs (v * w)).drop ((y + v) * W + x + w) := by
  rw [Nat.add_mul, Nat.one_mul, putN_row hw w (Nat.le_refl _)]
  rw [Nat.add_mul, Nat.one_mul] at h2
  exact rowset w (by rw [putN_len]; exact h1) (by simp; omega)
def putOk (a c : Int) (xs : List Nat) (b d : Int) (ps : List Nat) (x y : Int) : Bool := validPicF b d ps && partOk a c xs x y b d
def putL (a : Int) (xs : List Nat) (b d : Int) (ps : List Nat) (x y : Int) : List Nat := putN a.toNat x.toNat y.toNat b.toNat ps xs (b.toNat * d.toNat)
theorem cpyB_at {H : Heap} {h o n t : Nat} {ty : TypeId} {l src : List Value} (hl : l.length = o + t) (hn : n ≤ t) (hs : src.length ≤ n) :
    cpyB (some ⟨true, ty, l⟩) h o n t src H = some (.int .i64 (src.length : Nat), H.put h ⟨true, ty, l.take o ++ src ++ l.drop (o + src.length)⟩) := by
  unfold cpyB
  simp only [hl, hn, and_self, if_true, Nat.min_eq_left hs]
  rw [List.take_of_length_le hs]
theorem eCpy_s {H : Heap} {h o n t : Nat} {src : List Value} : eCpy (.slice (some ⟨h, o, none⟩) n t) (some src) H = cpyB (H.blk h) h o n t src H := rfl
theorem slcLo_at {h L o : Nat} (ho : o ≤ L) : aSlcLo (.slice (some ⟨h, 0, none⟩) L L) (.int .i64 (o : Nat)) = some (.slice (some ⟨h, o, none⟩) (L - o) (L - o)) := by
  show aSlc _ _ _ = _
  simp only [aSlc, vn]
  rw [if_pos (by omega)]
  simp
end Go.Proofs.Ytddekdgggpifmaa

namespace Go.Proofs.Ytddekdgggpifmaa
open Go.Gx
set_option maxRecDepth 100000
set_option linter.unusedSimpArgs false
set_option linter.unusedVariables false

theorem OwB.keepB {lo hi : Nat} {H H' : Heap} {sty ty : TypeId} {c d : Value} {l : List Value} {ls : List (List Value)} (o : OwB lo hi H sty ty c d l ls) (hn : H.n ≤ H'.n) (hb : ∀ h, lo ≤ h → h < hi → H'.blk h = H.blk h) : OwB lo hi H' sty ty c d l ls := by
  obtain ⟨vs, a, b⟩ := o
  exact ⟨vs, a.keep hn fun h hh => hb h (a.hdl hh).1 (a.hdl hh).2.1, b.keep hn fun i h hi' hh => hb h (b.lt hi' hh).1 (b.lt hi' hh).2.1⟩
/-- The rest behind a call's result and its variable, whose block was made in any order: shown once. -/
theorem bothBands {P : Program} {bty sty t : TypeId} {G0 : Heap} {ok : Bool} {l : List Nat} {m : List (List Nat)} {f : FuncId} {args : Nat → Value → Value → List Value} {d : Option Nat} {rc : RC} {r : List AStep} {k : List AItem} {R : Post} {φ : Nat → Value → Value → Gx.Frame} {X : Prop}
    (main : (∀ (p : Nat) (y z : Value) (G : Heap), G0.n ≤ p → p < G.n → Ext G0 G → G.blk p = some ⟨true, bty, [y, z]⟩ → OwB G0.n G.n G sty t y z ((selL ok l).map fv) ((selL ok m).map (List.map fv)) → (selL ok l).length ≤ 2 ^ 40 → totL (selL ok m) ≤ 2 ^ 40 → callR P f (args p y z) d rc r k R (φ p y z) G) → X)
    (kk : ∀ (p : Nat) (y z : Value) (G : Heap), G0.n ≤ p → p < G.n → Ext G0 G → G.blk p = some ⟨true, bty, [y, z]⟩ → OwB G0.n G.n G sty t y z ((selL ok l).map fv) ((selL ok m).map (List.map fv)) → (selL ok l).length ≤ 2 ^ 40 → totL (selL ok m) ≤ 2 ^ 40 → callR P f (args p y z) d rc r k R (φ p y z) G) : X := main kk
def nowS (xs ps : List Nat) : Nat → List Nat := foldI (fun _ l => tapL l ps) xs
theorem nowS_zero (xs ps : List Nat) : nowS xs ps 0 = xs := rfl
theorem nowS_succ (xs ps : List Nat) (t : Nat) : nowS xs ps (t + 1) = tapL (nowS xs ps t) ps := rfl
theorem nowS_le (xs ps : List Nat) : ∀ t, (nowS xs ps t).length ≤ xs.length
  | 0 => Nat.le_refl _
  | t + 1 => by
    have := nowS_le xs ps t
    rw [nowS_succ]
    have e : (tapL (nowS xs ps t) ps).length = (nowS xs ps t).length / 2 := tabL_length _ _
    omega
def detsS (xs ps : List Nat) (n : Nat) : List (List Nat) := (List.range n).map fun t => tapL (nowS xs ps t) (highL ps)
theorem detsS_succ (xs ps : List Nat) (n : Nat) : detsS xs ps n ++ [tapL (nowS xs ps n) (highL ps)] = detsS xs ps (n + 1) := by simp [detsS, List.range_succ]
theorem detsS_length (xs ps : List Nat) (n : Nat) : (detsS xs ps n).length = n := by simp [detsS]
theorem detsS_tot {xs ps : List Nat} {n : Nat} (hx : xs.length ≤ 128) (hn : n ≤ 6) : totL (detsS xs ps n) ≤ 2 ^ 40 := by
  have h : ∀ t, t ≤ n → offN (detsS xs ps n) t ≤ 64 * t := by
    intro t
    induction t with
    | zero => intro _; simp [offN_zero]
    | succ t ih =>
      intro ht
      have h1 := ih (by omega)
      rw [offN_succ (by rw [detsS_length]; omega)]
      have e : (detsS xs ps n).getD t [] = tapL (nowS xs ps t) (highL ps) := getD_range_map (by omega)
      have e2 : (tapL (nowS xs ps t) (highL ps)).length = (nowS xs ps t).length / 2 := tabL_length _ _
      have := nowS_le xs ps t
      rw [e, e2]
      omega
  have := h n (Nat.le_refl _)
  unfold totL
  rw [detsS_length]
  omega
def splitLevOk (xs ps : List Nat) (n : Int) : Bool := isLongF xs && validPairF ps && within n 1 6 && decide (xs.length % 2 ^ n.toNat = 0) && (List.range n.toNat).all fun t => splitOk (nowS xs ps t) ps
theorem splitLev_no {xs ps : List Nat} {n t : Nat} (ht : t < n) (h : splitOk (nowS xs ps t) ps = false) : splitLevOk xs ps n = false := by
  unfold splitLevOk
  rw [Int.toNat_natCast, allR_false (p := fun t => splitOk (nowS xs ps t) ps) ht h, Bool.and_false]
theorem shl_at {n : Nat} (hn : n ≤ 6) : IntKind.wrap .i64 (1 * 2 ^ min ((n : Int)).toNat IntKind.i64.bits) = ((2 ^ n : Nat) : Int) ∧ min n IntKind.i64.bits = n ∧ IntKind.wrap .i64 (1 * 2 ^ n) = ((2 ^ n : Nat) : Int) := by
  have hp : (2 : Nat) ^ n ≤ 2 ^ 6 := Nat.pow_le_pow_right (by omega) (by omega)
  have hb : IntKind.i64.bits = 64 := rfl
  have hmn2 : min n IntKind.i64.bits = n := by rw [hb]; omega
  have h2 : IntKind.wrap .i64 (1 * 2 ^ n) = ((2 ^ n : Nat) : Int) := by
    rw [Int.one_mul]
    have hc : ((2 : Int) ^ n) = ((2 ^ n : Nat) : Int) := by push_cast; rfl
    rw [hc]
    exact wrN _ (by omega)
  exact ⟨by rw [Int.toNat_natCast, hmn2]; exact h2, hmn2, h2⟩
theorem fbin_lt (op : BinOp) (k : FloatKind) (x y : Nat) : fbin op k x y < 2 ^ k.format.width := by
  unfold fbin
  cases h : floatBits op k x y with
  | none => exact qnan_lt k
  | some r => exact floatBits_lt h
theorem tapL_w (xs ps : List Nat) : W32 (tapL xs ps) := fun j => by
  by_cases hj : j < xs.length / 2
  · rw [tapL, tabL_getD hj]
    cases ps.length with
    | zero => simp [tapF, foldI_zero]
    | succ k => rw [tapF_succ]; exact fbin_lt .add .f32 _ _
  · have : (tapL xs ps).getD j 0 = 0 := by
      have hl : (tapL xs ps).length = xs.length / 2 := tabL_length _ _
      simp [List.getD_eq_getElem?_getD, List.getElem?_eq_none (show (tapL xs ps).length ≤ j by omega)]
    rw [this]; omega
theorem nowS_w {xs ps : List Nat} (h : W32 xs) : ∀ t, W32 (nowS xs ps t)
  | 0 => h
  | t + 1 => tapL_w _ _
end Go.Proofs.Ytddekdgggpifmaa
