/- Lifts of numbers of single precision taken back. -/
import Derived.Test.YtkojmlpaamdhoaeCoarseOfXA
namespace Go.Proofs.Ytkojmlpaamdhoae
open Go.Gx
set_option maxRecDepth 100000
set_option linter.unusedSimpArgs false
set_option linter.unusedVariables false

theorem weighDown_zero (ws : List Nat) (p : List Nat × List Nat) : weighDown ws p 0 = p := rfl
theorem weighDown_succ (ws : List Nat) (p : List Nat × List Nat) (i : Nat) : weighDown ws p (i + 1) = weighF (ws.length - 1 - i) (fneg .f32 (ws.getD (ws.length - 1 - i) 0)) (weighDown ws p i) := rfl
def dropOk (ws : List Nat) (sc : Nat) (ev od : List Nat) : Bool := schemeF ws sc && fitF ev.length od.length && (ev.all finF && od.all finF) && (dropF ws sc ev od).all finF
theorem dropF_len (ws : List Nat) (sc : Nat) (ev od : List Nat) : (dropF ws sc ev od).length ≤ 2 * ev.length := by
  unfold dropF
  split
  · omega
  · have h := wovL_len (d := 0) (ev := (weighDown ws (ev.map fun x => fbin .quo .f32 x sc, od.map fun x => fbin .mul .f32 x sc) ws.length).1) (od := (weighDown ws (ev.map fun x => fbin .quo .f32 x sc, od.map fun x => fbin .mul .f32 x sc) ws.length).2) ((weighDown ws (ev.map fun x => fbin .quo .f32 x sc, od.map fun x => fbin .mul .f32 x sc) ws.length).1.length)
    have h2 := (weighDown_len ws (ev.map fun x => fbin .quo .f32 x sc, od.map fun x => fbin .mul .f32 x sc) ws.length).1
    simp only [List.length_map] at h2
    dsimp only
    rw [h2] at h ⊢
    exact h
theorem fit_facts {a b : Nat} (h : fitF a b = true) : 1 ≤ a ∧ (b = a ∨ b + 1 = a) ∧ a + b ≤ 128 := by
  simp only [fitF, Bool.and_eq_true, Bool.or_eq_true, decide_eq_true_eq] at h
  exact ⟨h.1.1, h.1.2, h.2⟩
theorem i_copyOf_ex {H : Heap} {v : Value} {xs : List Nat} (hv : FS H v xs) (hn : xs.length ≤ 2 ^ 40) :
    ACalls Try.prog n_i_copyOf [v] H fun r H' => Ext H H' ∧ r = .slice (some ⟨H.n, 0, none⟩) xs.length xs.length ∧ H'.n = H.n + 1 ∧ H'.blk H.n = some ⟨true, t_float32, xs.map fv⟩ := by
  refine (i_copyOf_ok hv hn).mono ?_
  rintro _ _ ⟨rfl, rfl⟩
  exact ⟨.new _ _, rfl, rfl, new_self _ _⟩
theorem i_woven_f_ok {H : Heap} {v u : Value} {ev od : List Nat} (hv : FS H v ev) (hu : FS H u od) (hn : ev.length ≤ 2 ^ 30) (hm : od.length ≤ 2 ^ 30) :
    ACalls Try.prog n_i_woven_float32_ [v, u] H fun r H' => Ext H H' ∧ H.n + 1 ≤ H'.n ∧ r = .slice (some ⟨H.n, 0, none⟩) (wovL 0 ev od ev.length).length (wovL 0 ev od ev.length).length ∧ H'.blk H.n = some ⟨true, t_float32, (wovL 0 ev od ev.length).map fv⟩ := by
  refine k_i_woven_float32_.run rfl ?_
  unfold c_i_woven_float32_
  simp (disch := first | assumption | omega | rfl | (refine id ?_; simp only [gxD, ne_eq, reduceCtorEq, not_false_eq_true, Nat.reduceAdd, *]; done) | (refine id ?_; simp only [gxD]; omega)) only [↓gxPre, gxPost, ↓reduceIte, Nat.reduceEqDiff, reduceCtorEq, Nat.reduceAdd, hv.len]
  refine loop_forH ev.length (fun i => [u, .slice (some ⟨H.n, 0, none⟩) (wovL 0 ev od i).length (wovL 0 ev od i).length, v, .int .i64 ev.length, .int .i64 i])
    (fun i G => H.n + 1 ≤ G.n ∧ Ext H G ∧ G.blk H.n = some ⟨true, t_float32, (wovL 0 ev od i).map fv⟩) rfl ⟨by simp only [new_n]; omega, ⟨by first | omega | (simp only [new_n, put_n]; omega) | (simp only [new_n, put_n] at *; omega), fun i hi => by simp (disch := first | assumption | omega | rfl | (refine id ?_; simp only [gxD, ne_eq, reduceCtorEq, not_false_eq_true, Nat.reduceAdd, *]; done) | (refine id ?_; simp only [gxD]; omega)) only [↓gxPre, gxPost, ↓reduceIte, Nat.reduceEqDiff, reduceCtorEq, Nat.reduceAdd, *]⟩, by simp (disch := first | assumption | omega | rfl | (refine id ?_; simp only [gxD, ne_eq, reduceCtorEq, not_false_eq_true, Nat.reduceAdd, *]; done) | (refine id ?_; simp only [gxD]; omega)) only [↓gxPre, gxPost, ↓reduceIte, Nat.reduceEqDiff, reduceCtorEq, Nat.reduceAdd]; rfl⟩ ?_ ?_
  · rintro G ⟨hG, hE, hc⟩
    simp (disch := first | assumption | omega | rfl | (refine id ?_; simp only [gxD, ne_eq, reduceCtorEq, not_false_eq_true, Nat.reduceAdd, *]; done) | (refine id ?_; simp only [gxD]; omega)) only [↓gxPre, gxPost, ↓reduceIte, Nat.reduceEqDiff, reduceCtorEq, Nat.reduceAdd, Int.lt_irrefl]
    exact ⟨hE, hG, hc⟩
  · rintro i G hi ⟨hG, hE, hc⟩
    have hv' := hv.ext hE
    have hu' := hu.ext hE
    have hw := wovL_len (d := 0) (ev := ev) (od := od) i
    have l1 : ((wovL 0 ev od i).map fv).length = (wovL 0 ev od i).length := by rw [lMapN]
    have l2 : ((wovL 0 ev od i).map fv ++ [Value.float .f32 (ev.getD i 0)]).length = (wovL 0 ev od i).length + 1 := by simp
    obtain ⟨f1, f2, f3, f4⟩ := push_at (x := .float .f32 (ev.getD i 0)) hE hc (Nat.le_refl _) (by omega) rfl
    by_cases h2 : i < od.length
    · have hc2 : ((i : Nat) : Int) < od.length := by omega
      obtain ⟨g1, g2, g3, g4⟩ := push_at (x := .float .f32 (od.getD i 0)) f1 f2 (Nat.le_refl _) (by rw [f3]; omega) rfl
      have hm5 : (wovL 0 ev od i).map fv ++ [Value.float .f32 (ev.getD i 0)] ++ [Value.float .f32 (od.getD i 0)] = (wovL 0 ev od (i + 1)).map fv := by rw [wovL_both h2, fv_snoc', fv_snoc']
      have hl5 : (wovL 0 ev od (i + 1)).length = (wovL 0 ev od i).length + 1 + 1 := by rw [wovL_both h2]; simp
      simp (disch := first | assumption | omega | rfl | (refine id ?_; simp only [gxD, ne_eq, reduceCtorEq, not_false_eq_true, Nat.reduceAdd, *]; done) | (refine id ?_; simp only [gxD]; omega)) only [↓gxPre, gxPost, ↓reduceIte, Nat.reduceEqDiff, reduceCtorEq, Nat.reduceAdd, hv'.ia, hv'.ld, hu'.len, hc, (hu.ext f1).ia, (hu.ext f1).ld, (hu.ext f1).len, hc2, rd1_at]
      refine ⟨by rw [hl5]; simp, by omega, g1, ?_⟩
      rw [← hm5]
    · have hc2 : ¬ ((i : Nat) : Int) < od.length := by omega
      have hm5 : (wovL 0 ev od i).map fv ++ [Value.float .f32 (ev.getD i 0)] = (wovL 0 ev od (i + 1)).map fv := by rw [wovL_one h2, fv_snoc']
      have hl5 : (wovL 0 ev od (i + 1)).length = (wovL 0 ev od i).length + 1 := by rw [wovL_one h2]; simp
      simp (disch := first | assumption | omega | rfl | (refine id ?_; simp only [gxD, ne_eq, reduceCtorEq, not_false_eq_true, Nat.reduceAdd, *]; done) | (refine id ?_; simp only [gxD]; omega)) only [↓gxPre, gxPost, ↓reduceIte, Nat.reduceEqDiff, reduceCtorEq, Nat.reduceAdd, hv'.ia, hv'.ld, hu'.len, hc, (hu.ext f1).len, hc2]
      refine ⟨by rw [hl5]; simp, by omega, f1, ?_⟩
      rw [← hm5]
theorem i_DropOnce_core {H : Heap} {v0 v1 v2 : Value} {xs0 xs1 xs2 : List Nat} {a0 : Nat} (A0 : RF H v0 xs0) (b0 : a0 < 2 ^ 32) (A1 : RF H v1 xs1) (A2 : RF H v2 xs2) :
    ACalls Try.prog n_i_DropOnce [.agg #[v0, .float .f32 a0], v1, v2] H fun r H' => ListR fv t_float32 H (dropOk xs0 a0 xs1 xs2) (dropF xs0 a0 xs1 xs2) r H' := by
  refine k_i_DropOnce.run rfl ?_
  unfold c_i_DropOnce
  have o0 := A0.rd.one
  have e0 : Ext H (H.new ⟨true, t_Scheme, [v0, .float .f32 a0]⟩) := .new _ _
  have hA1 := A1.le
  have hA2 := A2.le
  simp (disch := first | assumption | omega | rfl | (refine id ?_; simp only [gxD, ne_eq, reduceCtorEq, not_false_eq_true, Nat.reduceAdd, *]; done) | (refine id ?_; simp only [gxD]; omega)) only [↓gxPre, gxPost, ↓reduceIte, Nat.reduceEqDiff, reduceCtorEq, Nat.reduceAdd, A1.rd.len]
  refine callR_ext (i_ValidScheme_ok (A0.rd.ext e0) A0.le) ?_
  intro H1 n1 bb1
  have e1 := e0.trans ⟨n1, bb1⟩
  have hs1 : H1.blk H.n = some ⟨true, t_Scheme, [v0, .float .f32 a0]⟩ := (bb1 _ (by first | omega | (simp only [new_n, put_n]; omega))).trans (by simp (disch := first | assumption | omega | rfl | (refine id ?_; simp only [gxD, ne_eq, reduceCtorEq, not_false_eq_true, Nat.reduceAdd, *]; done) | (refine id ?_; simp only [gxD]; omega)) only [↓gxPre, gxPost, ↓reduceIte, Nat.reduceEqDiff, reduceCtorEq, Nat.reduceAdd])
  simp only [new_n] at n1
  cases h0 : schemeF xs0 a0
  · simp (disch := first | assumption | omega | rfl | (refine id ?_; simp only [gxD, ne_eq, reduceCtorEq, not_false_eq_true, Nat.reduceAdd, *]; done) | (refine id ?_; simp only [gxD]; omega)) only [↓gxPre, gxPost, ↓reduceIte, Nat.reduceEqDiff, reduceCtorEq, Nat.reduceAdd]
    exact .no (by simp only [dropOk, h0, Bool.false_and, Bool.true_and, Bool.and_true, Bool.and_false, Bool.or_true, Bool.true_or, Bool.false_or, Bool.or_false, Bool.and_self, Bool.or_self]) e1
  have h01 : xs0.all finF = true ∧ (1 : Int) ≤ xs0.length ∧ (xs0.length : Int) ≤ 8 := by
    unfold schemeF at h0
    simp only [Bool.and_eq_true] at h0
    exact ⟨h0.1.2, within_true.1 h0.1.1⟩
  obtain ⟨hf0, hs8, hs9⟩ := h01
  cases h1 : fitF xs1.length xs2.length
  · by_cases d1 : (xs1.length : Int) < 1
    · simp (disch := first | assumption | omega | rfl | (refine id ?_; simp only [gxD, ne_eq, reduceCtorEq, not_false_eq_true, Nat.reduceAdd, *]; done) | (refine id ?_; simp only [gxD]; omega)) only [↓gxPre, gxPost, ↓reduceIte, Nat.reduceEqDiff, reduceCtorEq, Nat.reduceAdd, A1.rd.len, A2.rd.len, d1]
      exact .no (by simp only [dropOk, h1, Bool.false_and, Bool.true_and, Bool.and_true, Bool.and_false, Bool.or_true, Bool.true_or, Bool.false_or, Bool.or_false, Bool.and_self, Bool.or_self]) e1
    by_cases d2 : (xs2.length : Int) = xs1.length
    · have d3 : (128 : Int) < xs1.length + xs2.length := by
        simp only [fitF, Bool.and_eq_false_iff, Bool.or_eq_false_iff, decide_eq_false_iff_not] at h1
        omega
      simp (disch := first | assumption | omega | rfl | (refine id ?_; simp only [gxD, ne_eq, reduceCtorEq, not_false_eq_true, Nat.reduceAdd, *]; done) | (refine id ?_; simp only [gxD]; omega)) only [↓gxPre, gxPost, ↓reduceIte, Nat.reduceEqDiff, reduceCtorEq, Nat.reduceAdd, A1.rd.len, A2.rd.len, d1, d2, ne_eq, not_true, not_false_eq_true, Bool.false_and, Bool.true_and, Bool.and_true, Bool.and_false, Bool.or_true, Bool.true_or, Bool.false_or, Bool.or_false, Bool.and_self, Bool.or_self, d3]
      exact .no (by simp only [dropOk, h1, Bool.false_and, Bool.true_and, Bool.and_true, Bool.and_false, Bool.or_true, Bool.true_or, Bool.false_or, Bool.or_false, Bool.and_self, Bool.or_self]) e1
    by_cases d4 : (xs2.length : Int) = xs1.length - 1
    · have d3 : (128 : Int) < xs1.length + xs2.length := by
        simp only [fitF, Bool.and_eq_false_iff, Bool.or_eq_false_iff, decide_eq_false_iff_not] at h1
        omega
      simp (disch := first | assumption | omega | rfl | (refine id ?_; simp only [gxD, ne_eq, reduceCtorEq, not_false_eq_true, Nat.reduceAdd, *]; done) | (refine id ?_; simp only [gxD]; omega)) only [↓gxPre, gxPost, ↓reduceIte, Nat.reduceEqDiff, reduceCtorEq, Nat.reduceAdd, A1.rd.len, A2.rd.len, d1, d2, d4, ne_eq, not_true, not_false_eq_true, Bool.false_and, Bool.true_and, Bool.and_true, Bool.and_false, Bool.or_true, Bool.true_or, Bool.false_or, Bool.or_false, Bool.and_self, Bool.or_self, d3]
      exact .no (by simp only [dropOk, h1, Bool.false_and, Bool.true_and, Bool.and_true, Bool.and_false, Bool.or_true, Bool.true_or, Bool.false_or, Bool.or_false, Bool.and_self, Bool.or_self]) e1
    · simp (disch := first | assumption | omega | rfl | (refine id ?_; simp only [gxD, ne_eq, reduceCtorEq, not_false_eq_true, Nat.reduceAdd, *]; done) | (refine id ?_; simp only [gxD]; omega)) only [↓gxPre, gxPost, ↓reduceIte, Nat.reduceEqDiff, reduceCtorEq, Nat.reduceAdd, A1.rd.len, A2.rd.len, d1, d2, d4, ne_eq, not_true, not_false_eq_true, Bool.false_and, Bool.true_and, Bool.and_true, Bool.and_false, Bool.or_true, Bool.true_or, Bool.false_or, Bool.or_false, Bool.and_self, Bool.or_self]
      exact .no (by simp only [dropOk, h1, Bool.false_and, Bool.true_and, Bool.and_true, Bool.and_false, Bool.or_true, Bool.true_or, Bool.false_or, Bool.or_false, Bool.and_self, Bool.or_self]) e1
  obtain ⟨p1, p2, p3⟩ := fit_facts h1
  have d1 : ¬ (xs1.length : Int) < 1 := by omega
  have d3 : ¬ (128 : Int) < xs1.length + xs2.length := by omega
  have o1 := A1.rd.one
  have o2 := A2.rd.one
  have d2 : ((xs2.length : Int) = xs1.length ∨ (¬ (xs2.length : Int) = xs1.length ∧ (xs2.length : Int) = xs1.length - 1)) := by omega
  have key : ∀ (P : Prop), ((xs2.length : Int) = xs1.length → P) → ((¬ (xs2.length : Int) = xs1.length) → ((xs2.length : Int) = xs1.length - 1) → P) → P := fun P f g => d2.elim f fun h => g h.1 h.2
  refine key _ (fun d2 => ?_) (fun d2 d4 => ?_)
  all_goals first | simp (disch := first | assumption | omega | rfl | (refine id ?_; simp only [gxD, ne_eq, reduceCtorEq, not_false_eq_true, Nat.reduceAdd, *]; done) | (refine id ?_; simp only [gxD]; omega)) only [↓gxPre, gxPost, ↓reduceIte, Nat.reduceEqDiff, reduceCtorEq, Nat.reduceAdd, A1.rd.len, A2.rd.len, d1, d2, d4, d3, ne_eq, not_true, not_false_eq_true, Bool.false_and, Bool.true_and, Bool.and_true, Bool.and_false, Bool.or_true, Bool.true_or, Bool.false_or, Bool.or_false, Bool.and_self, Bool.or_self] | simp (disch := first | assumption | omega | rfl | (refine id ?_; simp only [gxD, ne_eq, reduceCtorEq, not_false_eq_true, Nat.reduceAdd, *]; done) | (refine id ?_; simp only [gxD]; omega)) only [↓gxPre, gxPost, ↓reduceIte, Nat.reduceEqDiff, reduceCtorEq, Nat.reduceAdd, A1.rd.len, A2.rd.len, d1, d2, d3, ne_eq, not_true, not_false_eq_true, Bool.false_and, Bool.true_and, Bool.and_true, Bool.and_false, Bool.or_true, Bool.true_or, Bool.false_or, Bool.or_false, Bool.and_self, Bool.or_self]
  all_goals clear d2
  all_goals try clear d4
  all_goals refine callR_new ?_
  all_goals intro N eN hbN nN
  all_goals (
    have eF := e1.trans eN
    have hsN := (eN.blk _ (by omega)).trans hs1
    have nN1 : H1.n < N.n := by omega
    refine callR_pure (i_areFinite2_ok hbN nN1 (A1.rd.ext eF) (A2.rd.ext eF) A1.le A2.le) (.inl rfl) ?_
    clear hbN nN
    cases h3 : (xs1.all finF && xs2.all finF)
    · simp (disch := first | assumption | omega | rfl | (refine id ?_; simp only [gxD, ne_eq, reduceCtorEq, not_false_eq_true, Nat.reduceAdd, *]; done) | (refine id ?_; simp only [gxD]; omega)) only [↓gxPre, gxPost, ↓reduceIte, Nat.reduceEqDiff, reduceCtorEq, Nat.reduceAdd]
      exact .no (by simp only [dropOk, h3, Bool.false_and, Bool.true_and, Bool.and_true, Bool.and_false, Bool.or_true, Bool.true_or, Bool.false_or, Bool.or_false, Bool.and_self, Bool.or_self]) eF
    simp (disch := first | assumption | omega | rfl | (refine id ?_; simp only [gxD, ne_eq, reduceCtorEq, not_false_eq_true, Nat.reduceAdd, *]; done) | (refine id ?_; simp only [gxD]; omega)) only [↓gxPre, gxPost, ↓reduceIte, Nat.reduceEqDiff, reduceCtorEq, Nat.reduceAdd]
    refine callR_of (i_copyOf_ex (A1.rd.ext eF) A1.le) ?_
    rintro _ P ⟨eP, rfl, nP, hcP⟩
    have eFP := eF.trans eP
    simp (disch := first | assumption | omega | rfl | (refine id ?_; simp only [gxD, ne_eq, reduceCtorEq, not_false_eq_true, Nat.reduceAdd, *]; done) | (refine id ?_; simp only [gxD]; omega)) only [↓gxPre, gxPost, ↓reduceIte, Nat.reduceEqDiff, reduceCtorEq, Nat.reduceAdd]
    refine callR_of (i_copyOf_ex (A2.rd.ext eFP) A2.le) ?_
    rintro _ K ⟨eK', rfl, nK, hd⟩
    have eK := eFP.trans eK'
    have hc := (eK'.blk _ (by omega)).trans hcP
    have hsK := (eK'.blk _ (by omega)).trans ((eP.blk _ (by omega)).trans hsN)
    simp (disch := first | assumption | omega | rfl | (refine id ?_; simp only [gxD, ne_eq, reduceCtorEq, not_false_eq_true, Nat.reduceAdd, *]; done) | (refine id ?_; simp only [gxD]; omega)) only [↓gxPre, gxPost, ↓reduceIte, Nat.reduceEqDiff, reduceCtorEq, Nat.reduceAdd]
    by_cases hz : xs2.length = 0
    · have hz' : ((xs2.length : Nat) : Int) = 0 := by omega
      have hL : dropF xs0 a0 xs1 xs2 = xs1 := by unfold dropF; rw [if_pos hz]
      have h3' : xs1.all finF = true ∧ xs2.all finF = true := by rwa [Bool.and_eq_true] at h3
      have hO : dropOk xs0 a0 xs1 xs2 = true := by simp only [dropOk, hL, h0, h1, h3'.1, h3'.2, Bool.false_and, Bool.true_and, Bool.and_true, Bool.and_false, Bool.or_true, Bool.true_or, Bool.false_or, Bool.or_false, Bool.and_self, Bool.or_self]
      rw [hL, hO]
      simp (disch := first | assumption | omega | rfl | (refine id ?_; simp only [gxD, ne_eq, reduceCtorEq, not_false_eq_true, Nat.reduceAdd, *]; done) | (refine id ?_; simp only [gxD]; omega)) only [↓gxPre, gxPost, ↓reduceIte, Nat.reduceEqDiff, reduceCtorEq, Nat.reduceAdd, hz']
      exact .yes rfl eK (.mk hc (by simp) (by omega) (by omega) (by omega)) (by omega)
    have hz' : ¬ ((xs2.length : Nat) : Int) = 0 := by omega
    simp (disch := first | assumption | omega | rfl | (refine id ?_; simp only [gxD, ne_eq, reduceCtorEq, not_false_eq_true, Nat.reduceAdd, *]; done) | (refine id ?_; simp only [gxD]; omega)) only [↓gxPre, gxPost, ↓reduceIte, Nat.reduceEqDiff, reduceCtorEq, Nat.reduceAdd, hz']
    refine loop_forH xs1.length (fun i => [.pointer (some ⟨H.n, 0, some 2⟩), .slice (some ⟨N.n, 0, none⟩) xs1.length xs1.length, .slice (some ⟨P.n, 0, none⟩) xs2.length xs2.length, .int .i64 xs1.length, .int .i64 i])
      (fun i F => K.n ≤ F.n ∧ F.blk N.n = some ⟨true, t_float32, (quoL a0 xs1 i).map fv⟩ ∧ F.blk P.n = some ⟨true, t_float32, xs2.map fv⟩ ∧ F.blk H.n = some ⟨true, t_Scheme, [v0, .float .f32 a0]⟩ ∧ ∀ j, j < K.n → j ≠ N.n → j ≠ P.n → F.blk j = K.blk j) rfl
      ⟨Nat.le_refl _, by rw [quoL_zero]; exact hc, hd, hsK, fun _ _ _ _ => rfl⟩ ?_ ?_
    rotate_left
    · rintro i F hi ⟨hFn, hfa, hfb, hfs, hFF⟩
      have ht := quoL_at (sc := a0) (xs := xs1) (i := i) (by omega)
      have lm : ((quoL a0 xs1 i).map fv).length = xs1.length := by rw [lMapN, quoL_length]
      simp (disch := first | assumption | omega | rfl | (refine id ?_; simp only [gxD, ne_eq, reduceCtorEq, not_false_eq_true, Nat.reduceAdd, *]; done) | (refine id ?_; simp only [gxD]; omega)) only [↓gxPre, gxPost, ↓reduceIte, Nat.reduceEqDiff, reduceCtorEq, Nat.reduceAdd, hfa, ht, hfs]
      refine ⟨by simp, by simpa using hFn, ?_, hfb, fun j h1 h2 h3 => ?_⟩
      · first | (rw [quoL_set]; done) | (rw [hput_self, quoL_set])
      · first | exact hFF j h1 h2 h3 | rw [hput_other _ _ _ _ h2, hFF j h1 h2 h3]
    rintro F ⟨hFn, hfa, hfb, hfs, hFF⟩
    rw [quoL_all] at hfa
    simp (disch := first | assumption | omega | rfl | (refine id ?_; simp only [gxD, ne_eq, reduceCtorEq, not_false_eq_true, Nat.reduceAdd, *]; done) | (refine id ?_; simp only [gxD]; omega)) only [↓gxPre, gxPost, ↓reduceIte, Nat.reduceEqDiff, reduceCtorEq, Nat.reduceAdd, Int.lt_irrefl]
    refine loop_forH xs2.length (fun i => [.pointer (some ⟨H.n, 0, some 2⟩), .slice (some ⟨N.n, 0, none⟩) xs1.length xs1.length, .slice (some ⟨P.n, 0, none⟩) xs2.length xs2.length, .int .i64 xs2.length, .int .i64 i])
      (fun i F => K.n ≤ F.n ∧ F.blk N.n = some ⟨true, t_float32, (xs1.map fun x => fbin .quo .f32 x a0).map fv⟩ ∧ F.blk P.n = some ⟨true, t_float32, (mulL a0 xs2 i).map fv⟩ ∧ F.blk H.n = some ⟨true, t_Scheme, [v0, .float .f32 a0]⟩ ∧ ∀ j, j < K.n → j ≠ N.n → j ≠ P.n → F.blk j = K.blk j) rfl
      ⟨hFn, hfa, by rw [mulL_zero]; exact hfb, hfs, hFF⟩ ?_ ?_
    rotate_left
    · rintro i F hi ⟨hFn, hfa, hfb, hfs, hFF⟩
      have ht := mulL_at (sc := a0) (xs := xs2) (i := i) (by omega)
      have lm : ((mulL a0 xs2 i).map fv).length = xs2.length := by rw [lMapN, mulL_length]
      simp (disch := first | assumption | omega | rfl | (refine id ?_; simp only [gxD, ne_eq, reduceCtorEq, not_false_eq_true, Nat.reduceAdd, *]; done) | (refine id ?_; simp only [gxD]; omega)) only [↓gxPre, gxPost, ↓reduceIte, Nat.reduceEqDiff, reduceCtorEq, Nat.reduceAdd, hfb, ht, hfs]
      refine ⟨by simp, by simpa using hFn, hfa, ?_, fun j h1 h2 h3 => ?_⟩
      · first | (rw [mulL_set]; done) | (rw [hput_self, mulL_set])
      · first | exact hFF j h1 h2 h3 | rw [hput_other _ _ _ _ h3, hFF j h1 h2 h3]
    clear hFn hfa hfb hfs hFF F
    rintro G ⟨hGn, hga, hgb, hsG, hGF⟩
    rw [mulL_all] at hgb
    have eG : Ext H G := ⟨by have := eK.n; omega, fun j hj => (hGF j (by omega) (by omega) (by omega)).trans (eK.blk j hj)⟩
    have hvG := A0.rd.ext eG
    obtain ⟨p, hp⟩ : ∃ p, p = (xs1.map fun x => fbin .quo .f32 x a0, xs2.map fun x => fbin .mul .f32 x a0) := ⟨_, rfl⟩
    have lp1 : p.1.length = xs1.length := by rw [hp]; simp
    have lp2 : p.2.length = xs2.length := by rw [hp]; simp
    have lw1 : ∀ i, (weighDown xs0 p i).1.length = xs1.length := fun i => (weighDown_len xs0 p i).1.trans lp1
    have lw2 : ∀ i, (weighDown xs0 p i).2.length = xs2.length := fun i => (weighDown_len xs0 p i).2.trans lp2
    simp (disch := first | assumption | omega | rfl | (refine id ?_; simp only [gxD, ne_eq, reduceCtorEq, not_false_eq_true, Nat.reduceAdd, *]; done) | (refine id ?_; simp only [gxD]; omega)) only [↓gxPre, gxPost, ↓reduceIte, Nat.reduceEqDiff, reduceCtorEq, Nat.reduceAdd, Int.lt_irrefl, hsG, hvG.len]
    refine loop_forH xs0.length (fun t => [.pointer (some ⟨H.n, 0, some 2⟩), .slice (some ⟨N.n, 0, none⟩) xs1.length xs1.length, .slice (some ⟨P.n, 0, none⟩) xs2.length xs2.length, .int .i64 ((xs0.length : Int) - 1 - (t : Int))])
      (fun t F => K.n ≤ F.n ∧ F.blk N.n = some ⟨true, t_float32, (weighDown xs0 p t).1.map fv⟩ ∧ F.blk P.n = some ⟨true, t_float32, (weighDown xs0 p t).2.map fv⟩ ∧ ∀ j, j < K.n → j ≠ N.n → j ≠ P.n → F.blk j = K.blk j) (by simp)
      ⟨hGn, by rw [weighDown_zero, hp]; exact hga, by rw [weighDown_zero, hp]; exact hgb, hGF⟩ ?_ ?_
    rotate_left
    · rintro t F ht ⟨hFn, hfa, hfb, hFF⟩
      obtain ⟨k, hk⟩ : ∃ k, k = xs0.length - 1 - t := ⟨_, rfl⟩
      have hki : (xs0.length : Int) - 1 - (t : Int) = (k : Int) := by omega
      have eX : Ext H F := ⟨by have := eK.n; omega, fun j hj => (hFF j (by omega) (by omega) (by omega)).trans (eK.blk j hj)⟩
      have hv := A0.rd.ext eX
      have hfs : F.blk H.n = some ⟨true, t_Scheme, [v0, .float .f32 a0]⟩ := (hFF _ (by omega) (by omega) (by omega)).trans hsK
      have hnan : nanB .f32 (xs0.getD k 0) = false := fin_nan (all_getD.1 hf0 k (by omega))
      have hk0 : (0 : Int) ≤ (k : Int) := by omega
      simp only [hki]
      simp (disch := first | assumption | omega | rfl | (refine id ?_; simp only [gxD, ne_eq, reduceCtorEq, not_false_eq_true, Nat.reduceAdd, *]; done) | (refine id ?_; simp only [gxD]; omega)) only [↓gxPre, gxPost, ↓reduceIte, Nat.reduceEqDiff, reduceCtorEq, Nat.reduceAdd, hfs, hv.ia, hv.ld, hk0]
      refine callR_of (i_weigh_at hfa hfb (lw1 t) (lw2 t) (by omega) (by omega) (by omega) (by omega) (by omega) (by omega) (by omega) hnan (by omega)) ?_
      rintro _ G' ⟨rfl, hn', ha', hb', hF'⟩
      simp (disch := first | assumption | omega | rfl | (refine id ?_; simp only [gxD, ne_eq, reduceCtorEq, not_false_eq_true, Nat.reduceAdd, *]; done) | (refine id ?_; simp only [gxD]; omega)) only [↓gxPre, gxPost, ↓reduceIte, Nat.reduceEqDiff, reduceCtorEq, Nat.reduceAdd]
      refine ⟨by simp; omega, by omega, ?_, ?_, fun j h1 h2 h3 => (hF' j (by omega) h2 h3).trans (hFF j h1 h2 h3)⟩
      · rw [weighDown_succ, ← hk]; simpa using ha'
      · rw [weighDown_succ, ← hk]; simpa using hb'
    rintro M ⟨hMn, hma, hmb, hMF⟩
    have hneg : ¬ (0 : Int) ≤ (xs0.length : Int) - 1 - (xs0.length : Int) := by omega
    have eM : Ext H M := ⟨by have := eK.n; omega, fun j hj => (hMF j (by omega) (by omega) (by omega)).trans (eK.blk j hj)⟩
    obtain ⟨q, hq⟩ : ∃ q, q = weighDown xs0 p xs0.length := ⟨_, rfl⟩
    have lq1 : q.1.length = xs1.length := by rw [hq]; exact lw1 _
    have lq2 : q.2.length = xs2.length := by rw [hq]; exact lw2 _
    rw [← hq] at hma hmb
    have hL : dropF xs0 a0 xs1 xs2 = wovL 0 q.1 q.2 q.1.length := by unfold dropF; rw [if_neg hz, ← hp, ← hq]
    have hwl := wovL_len (d := 0) (ev := q.1) (od := q.2) q.1.length
    have hO : dropOk xs0 a0 xs1 xs2 = (wovL 0 q.1 q.2 q.1.length).all finF := by simp only [dropOk, hL, h0, h1, h3, Bool.false_and, Bool.true_and, Bool.and_true, Bool.and_false, Bool.or_true, Bool.true_or, Bool.false_or, Bool.or_false, Bool.and_self, Bool.or_self]
    rw [hL, hO]
    simp (disch := first | assumption | omega | rfl | (refine id ?_; simp only [gxD, ne_eq, reduceCtorEq, not_false_eq_true, Nat.reduceAdd, *]; done) | (refine id ?_; simp only [gxD]; omega)) only [↓gxPre, gxPost, ↓reduceIte, Nat.reduceEqDiff, reduceCtorEq, Nat.reduceAdd, hneg]
    refine callR_of (i_woven_f_ok (FS.own hma (by omega) lq1) (FS.own hmb (by omega) lq2) (by omega) (by omega)) ?_
    rintro _ W ⟨eW, nW, rfl, hw⟩
    simp (disch := first | assumption | omega | rfl | (refine id ?_; simp only [gxD, ne_eq, reduceCtorEq, not_false_eq_true, Nat.reduceAdd, *]; done) | (refine id ?_; simp only [gxD]; omega)) only [↓gxPre, gxPost, ↓reduceIte, Nat.reduceEqDiff, reduceCtorEq, Nat.reduceAdd]
    refine callR_ext (i_finiteList_ok (FS.own hw (by omega) rfl) (by omega)) ?_
    intro X nX bX
    have eX : Ext W X := ⟨nX, bX⟩
    cases hf : (wovL 0 q.1 q.2 q.1.length).all finF
    · simp (disch := first | assumption | omega | rfl | (refine id ?_; simp only [gxD, ne_eq, reduceCtorEq, not_false_eq_true, Nat.reduceAdd, *]; done) | (refine id ?_; simp only [gxD]; omega)) only [↓gxPre, gxPost, ↓reduceIte, Nat.reduceEqDiff, reduceCtorEq, Nat.reduceAdd, listV]
      exact .no rfl ((eM.trans eW).trans eX)
    · simp (disch := first | assumption | omega | rfl | (refine id ?_; simp only [gxD, ne_eq, reduceCtorEq, not_false_eq_true, Nat.reduceAdd, *]; done) | (refine id ?_; simp only [gxD]; omega)) only [↓gxPre, gxPost, ↓reduceIte, Nat.reduceEqDiff, reduceCtorEq, Nat.reduceAdd, listV]
      have := eM.n
      exact .yes rfl ((eM.trans eW).trans eX) (.mk ((eX.blk _ (by omega)).trans hw) (by simp) (by omega) (by omega) (by omega)) (by omega))
theorem i_DropOnce_law {H : Heap} {v0 v1 v2 : Value} {xs0 xs1 xs2 : List Nat} {a0 : Nat} (A0 : AF H v0 xs0) (b0 : a0 < 2 ^ 32) (A1 : AF H v1 xs1) (A2 : AF H v2 xs2) :
    ACalls Try.prog n_i_DropOnce [.agg #[v0, .float .f32 a0], v1, v2] H fun r H' => ListR fv t_float32 H (dropOk xs0 a0 xs1 xs2) (dropF xs0 a0 xs1 xs2) r H' :=
  i_DropOnce_core ⟨A0.rd, A0.le⟩ b0 ⟨A1.rd, A1.le⟩ ⟨A2.rd, A2.le⟩
theorem wovL_nil (ev od : List Nat) (h : od.length = 0) : wovL 0 ev od ev.length = ev := by
  have h1 : ∀ j, ¬ j < od.length := fun j => by omega
  have h2 := range_getD_map (fun x => x) ev
  simp only [List.map_id'] at h2
  conv => rhs; rw [← h2]
  simp only [wovL, h1, if_false]
  exact List.map_eq_flatMap.symm
theorem new_put1 {H : Heap} {a b c : Blk} : ((H.new a).new b).put (H.n + 1) c = (H.new a).new c := new_put (H := H.new a) ..
theorem s_l02DropOnce_ok {H : Heap} {h a0 : Nat} {own : Bool} {ty : TypeId} {v0 v1 v2 : Value} {xs0 xs1 xs2 : List Nat} (hb : H.blk h = some ⟨own, ty, [v0, .float .f32 a0]⟩) (hh : h < H.n) (A0 : RF H v0 xs0) (hs8 : 1 ≤ xs0.length) (hs9 : xs0.length ≤ 8) (A1 : RF H v1 xs1) (A2 : RF H v2 xs2) (p1 : 1 ≤ xs1.length) (p2 : xs2.length = xs1.length ∨ xs2.length + 1 = xs1.length) (p3 : xs1.length + xs2.length ≤ 128) :
    ACalls Try.prog n_s_l02DropOnce [.pointer (some ⟨h, 0, some 2⟩), v1, v2] H fun r H' => ListR fv t_float32 H ((dropF xs0 a0 xs1 xs2).all finF) (dropF xs0 a0 xs1 xs2) r H' := by
  refine k_s_l02DropOnce.run rfl ?_
  unfold c_s_l02DropOnce
  have hr1 := (A1.rd.ext (.new H ⟨true, t_float32, []⟩)).read
  have hr2 := ((A2.rd.ext (.new H ⟨true, t_float32, xs1.map fv⟩)).ext (.new _ ⟨true, t_float32, []⟩)).read
  simp (disch := first | assumption | omega | rfl | (refine id ?_; simp only [gxD, ne_eq, reduceCtorEq, not_false_eq_true, Nat.reduceAdd, *]; done) | (refine id ?_; simp only [gxD]; omega)) only [↓gxPre, gxPost, ↓reduceIte, Nat.reduceEqDiff, reduceCtorEq, Nat.reduceAdd, hr1, hr2, List.nil_append, lMapN, new_put1]
  have hsK : ((H.new ⟨true, t_float32, xs1.map fv⟩).new ⟨true, t_float32, xs2.map fv⟩).blk h = some ⟨own, ty, [v0, .float .f32 a0]⟩ := by simp (disch := first | assumption | omega | rfl | (refine id ?_; simp only [gxD, ne_eq, reduceCtorEq, not_false_eq_true, Nat.reduceAdd, *]; done) | (refine id ?_; simp only [gxD]; omega)) only [↓gxPre, gxPost, ↓reduceIte, Nat.reduceEqDiff, reduceCtorEq, Nat.reduceAdd, hb]
  have hcK : ((H.new ⟨true, t_float32, xs1.map fv⟩).new ⟨true, t_float32, xs2.map fv⟩).blk H.n = some ⟨true, t_float32, xs1.map fv⟩ := by simp (disch := first | assumption | omega | rfl | (refine id ?_; simp only [gxD, ne_eq, reduceCtorEq, not_false_eq_true, Nat.reduceAdd, *]; done) | (refine id ?_; simp only [gxD]; omega)) only [↓gxPre, gxPost, ↓reduceIte, Nat.reduceEqDiff, reduceCtorEq, Nat.reduceAdd]
  have hdK : ((H.new ⟨true, t_float32, xs1.map fv⟩).new ⟨true, t_float32, xs2.map fv⟩).blk (H.n + 1) = some ⟨true, t_float32, xs2.map fv⟩ := by simp (disch := first | assumption | omega | rfl | (refine id ?_; simp only [gxD, ne_eq, reduceCtorEq, not_false_eq_true, Nat.reduceAdd, *]; done) | (refine id ?_; simp only [gxD]; omega)) only [↓gxPre, gxPost, ↓reduceIte, Nat.reduceEqDiff, reduceCtorEq, Nat.reduceAdd]
  have eKK : Ext H ((H.new ⟨true, t_float32, xs1.map fv⟩).new ⟨true, t_float32, xs2.map fv⟩) := (Ext.new _ _).trans (.new _ _)
  have nKK : ((H.new ⟨true, t_float32, xs1.map fv⟩).new ⟨true, t_float32, xs2.map fv⟩).n = H.n + 2 := by simp only [new_n]
  obtain ⟨K, hK⟩ : ∃ K, K = (H.new ⟨true, t_float32, xs1.map fv⟩).new ⟨true, t_float32, xs2.map fv⟩ := ⟨_, rfl⟩
  rw [← hK] at hsK hcK hdK eKK nKK
  try rw [← hK]
  clear hK
  obtain ⟨xL, hxL⟩ : ∃ xL, xL = dropF xs0 a0 xs1 xs2 := ⟨_, rfl⟩
  rw [← hxL]
  by_cases hz : xs2.length = 0
  have hz' : ¬ (0 : Int) < ((xs2.length : Nat) : Int) := by omega
  simp (disch := first | assumption | omega | rfl | (refine id ?_; simp only [gxD, ne_eq, reduceCtorEq, not_false_eq_true, Nat.reduceAdd, *]; done) | (refine id ?_; simp only [gxD]; omega)) only [↓gxPre, gxPost, ↓reduceIte, Nat.reduceEqDiff, reduceCtorEq, Nat.reduceAdd, hz']
  obtain ⟨q, hq⟩ : ∃ q : List Nat × List Nat, q = (xs1, xs2) := ⟨_, rfl⟩
  have lq1 : q.1.length = xs1.length := by rw [hq]
  have lq2 : q.2.length = xs2.length := by rw [hq]
  have hL : xL = wovL 0 q.1 q.2 q.1.length := by rw [hxL, hq]; unfold dropF; rw [if_pos hz]; exact (wovL_nil _ _ hz).symm
  have hma : K.blk H.n = some ⟨true, t_float32, q.1.map fv⟩ := by rw [hq]; exact hcK
  have hmb : K.blk (H.n + 1) = some ⟨true, t_float32, q.2.map fv⟩ := by rw [hq]; exact hdK
  have eM := eKK
  have nM : H.n + 2 ≤ K.n := by omega
  generalize K = M at *
  rotate_left
  have hz' : (0 : Int) < ((xs2.length : Nat) : Int) := by omega
  simp (disch := first | assumption | omega | rfl | (refine id ?_; simp only [gxD, ne_eq, reduceCtorEq, not_false_eq_true, Nat.reduceAdd, *]; done) | (refine id ?_; simp only [gxD]; omega)) only [↓gxPre, gxPost, ↓reduceIte, Nat.reduceEqDiff, reduceCtorEq, Nat.reduceAdd, hz']
  refine loop_forH xs1.length (fun i => [.pointer (some ⟨h, 0, some 2⟩), .slice (some ⟨H.n, 0, none⟩) xs1.length xs1.length, .slice (some ⟨H.n + 1, 0, none⟩) xs2.length xs2.length, .int .i64 i])
    (fun i F => K.n ≤ F.n ∧ F.blk H.n = some ⟨true, t_float32, (quoL a0 xs1 i).map fv⟩ ∧ F.blk (H.n + 1) = some ⟨true, t_float32, xs2.map fv⟩ ∧ F.blk h = some ⟨own, ty, [v0, .float .f32 a0]⟩ ∧ ∀ j, j < K.n → j ≠ H.n → j ≠ H.n + 1 → F.blk j = K.blk j) rfl
    ⟨Nat.le_refl _, by rw [quoL_zero]; exact hcK, hdK, hsK, fun _ _ _ _ => rfl⟩ ?_ ?_
  rotate_left
  · rintro i F hi ⟨hFn, hfa, hfb, hfs, hFF⟩
    have ht := quoL_at (sc := a0) (xs := xs1) (i := i) (by omega)
    have lm : ((quoL a0 xs1 i).map fv).length = xs1.length := by rw [lMapN, quoL_length]
    simp (disch := first | assumption | omega | rfl | (refine id ?_; simp only [gxD, ne_eq, reduceCtorEq, not_false_eq_true, Nat.reduceAdd, *]; done) | (refine id ?_; simp only [gxD]; omega)) only [↓gxPre, gxPost, ↓reduceIte, Nat.reduceEqDiff, reduceCtorEq, Nat.reduceAdd, hfa, ht, hfs]
    refine ⟨by simp, by simpa using hFn, ?_, hfb, fun j h1 h2 h3 => ?_⟩
    · first | (rw [quoL_set]; done) | (rw [hput_self, quoL_set])
    · first | exact hFF j h1 h2 h3 | rw [hput_other _ _ _ _ h2, hFF j h1 h2 h3]
  rotate_left
  rintro F ⟨hFn, hfa, hfb, hfs, hFF⟩
  rw [quoL_all] at hfa
  simp (disch := first | assumption | omega | rfl | (refine id ?_; simp only [gxD, ne_eq, reduceCtorEq, not_false_eq_true, Nat.reduceAdd, *]; done) | (refine id ?_; simp only [gxD]; omega)) only [↓gxPre, gxPost, ↓reduceIte, Nat.reduceEqDiff, reduceCtorEq, Nat.reduceAdd, Int.lt_irrefl]
  refine loop_forH xs2.length (fun i => [.pointer (some ⟨h, 0, some 2⟩), .slice (some ⟨H.n, 0, none⟩) xs1.length xs1.length, .slice (some ⟨H.n + 1, 0, none⟩) xs2.length xs2.length, .int .i64 i])
    (fun i F => K.n ≤ F.n ∧ F.blk H.n = some ⟨true, t_float32, (xs1.map fun x => fbin .quo .f32 x a0).map fv⟩ ∧ F.blk (H.n + 1) = some ⟨true, t_float32, (mulL a0 xs2 i).map fv⟩ ∧ F.blk h = some ⟨own, ty, [v0, .float .f32 a0]⟩ ∧ ∀ j, j < K.n → j ≠ H.n → j ≠ H.n + 1 → F.blk j = K.blk j) rfl
    ⟨hFn, hfa, by rw [mulL_zero]; exact hfb, hfs, hFF⟩ ?_ ?_
  rotate_left
  · rintro i F hi ⟨hFn, hfa, hfb, hfs, hFF⟩
    have ht := mulL_at (sc := a0) (xs := xs2) (i := i) (by omega)
    have lm : ((mulL a0 xs2 i).map fv).length = xs2.length := by rw [lMapN, mulL_length]
    simp (disch := first | assumption | omega | rfl | (refine id ?_; simp only [gxD, ne_eq, reduceCtorEq, not_false_eq_true, Nat.reduceAdd, *]; done) | (refine id ?_; simp only [gxD]; omega)) only [↓gxPre, gxPost, ↓reduceIte, Nat.reduceEqDiff, reduceCtorEq, Nat.reduceAdd, hfb, ht, hfs]
    refine ⟨by simp, by simpa using hFn, hfa, ?_, fun j h1 h2 h3 => ?_⟩
    · first | (rw [mulL_set]; done) | (rw [hput_self, mulL_set])
    · first | exact hFF j h1 h2 h3 | rw [hput_other _ _ _ _ h3, hFF j h1 h2 h3]
  rotate_left
  clear hFn hfa hfb hfs hFF F
  rintro G ⟨hGn, hga, hgb, hsG, hGF⟩
  rw [mulL_all] at hgb
  have eG : Ext H G := ⟨by have := eKK.n; omega, fun j hj => (hGF j (by omega) (by omega) (by omega)).trans (eKK.blk j hj)⟩
  have hvG := A0.rd.ext eG
  obtain ⟨p, hp⟩ : ∃ p, p = (xs1.map fun x => fbin .quo .f32 x a0, xs2.map fun x => fbin .mul .f32 x a0) := ⟨_, rfl⟩
  have lp1 : p.1.length = xs1.length := by rw [hp]; simp
  have lp2 : p.2.length = xs2.length := by rw [hp]; simp
  have lw1 : ∀ i, (weighDown xs0 p i).1.length = xs1.length := fun i => (weighDown_len xs0 p i).1.trans lp1
  have lw2 : ∀ i, (weighDown xs0 p i).2.length = xs2.length := fun i => (weighDown_len xs0 p i).2.trans lp2
  simp (disch := first | assumption | omega | rfl | (refine id ?_; simp only [gxD, ne_eq, reduceCtorEq, not_false_eq_true, Nat.reduceAdd, *]; done) | (refine id ?_; simp only [gxD]; omega)) only [↓gxPre, gxPost, ↓reduceIte, Nat.reduceEqDiff, reduceCtorEq, Nat.reduceAdd, Int.lt_irrefl, hsG, hvG.len]
  refine loop_forH xs0.length (fun t => [.pointer (some ⟨h, 0, some 2⟩), .slice (some ⟨H.n, 0, none⟩) xs1.length xs1.length, .slice (some ⟨H.n + 1, 0, none⟩) xs2.length xs2.length, .int .i64 ((xs0.length : Int) - 1 - (t : Int))])
    (fun t F => K.n ≤ F.n ∧ F.blk H.n = some ⟨true, t_float32, (weighDown xs0 p t).1.map fv⟩ ∧ F.blk (H.n + 1) = some ⟨true, t_float32, (weighDown xs0 p t).2.map fv⟩ ∧ ∀ j, j < K.n → j ≠ H.n → j ≠ H.n + 1 → F.blk j = K.blk j) (by simp)
    ⟨hGn, by rw [weighDown_zero, hp]; exact hga, by rw [weighDown_zero, hp]; exact hgb, hGF⟩ ?_ ?_
  rotate_left
  · rintro t F ht ⟨hFn, hfa, hfb, hFF⟩
    obtain ⟨k, hk⟩ : ∃ k, k = xs0.length - 1 - t := ⟨_, rfl⟩
    have hki : (xs0.length : Int) - 1 - (t : Int) = (k : Int) := by omega
    have eX : Ext H F := ⟨by have := eKK.n; omega, fun j hj => (hFF j (by omega) (by omega) (by omega)).trans (eKK.blk j hj)⟩
    have hv := A0.rd.ext eX
    have hfs : F.blk h = some ⟨own, ty, [v0, .float .f32 a0]⟩ := (hFF _ (by omega) (by omega) (by omega)).trans hsK
    have hk0 : (0 : Int) ≤ (k : Int) := by omega
    simp only [hki]
    simp (disch := first | assumption | omega | rfl | (refine id ?_; simp only [gxD, ne_eq, reduceCtorEq, not_false_eq_true, Nat.reduceAdd, *]; done) | (refine id ?_; simp only [gxD]; omega)) only [↓gxPre, gxPost, ↓reduceIte, Nat.reduceEqDiff, reduceCtorEq, Nat.reduceAdd, hfs, hv.ia, hv.ld, hk0]
    refine callR_of (s_l02Weigh_at hfa hfb (lw1 t) (lw2 t) (by omega) (by omega) (by omega) (by omega) (by omega) (by omega) (by omega) (by omega)) ?_
    rintro _ G' ⟨rfl, hn', ha', hb', hF'⟩
    simp (disch := first | assumption | omega | rfl | (refine id ?_; simp only [gxD, ne_eq, reduceCtorEq, not_false_eq_true, Nat.reduceAdd, *]; done) | (refine id ?_; simp only [gxD]; omega)) only [↓gxPre, gxPost, ↓reduceIte, Nat.reduceEqDiff, reduceCtorEq, Nat.reduceAdd]
    refine ⟨by simp; omega, by omega, ?_, ?_, fun j h1 h2 h3 => (hF' j (by omega) h2 h3).trans (hFF j h1 h2 h3)⟩
    · rw [weighDown_succ, ← hk]; simpa using ha'
    · rw [weighDown_succ, ← hk]; simpa using hb'
  rotate_left
  rintro M ⟨hMn, hma, hmb, hMF⟩
  have hneg : ¬ (0 : Int) ≤ (xs0.length : Int) - 1 - (xs0.length : Int) := by omega
  have eM : Ext H M := ⟨by have := eKK.n; omega, fun j hj => (hMF j (by omega) (by omega) (by omega)).trans (eKK.blk j hj)⟩
  have nM : H.n + 2 ≤ M.n := by omega
  obtain ⟨q, hq⟩ : ∃ q, q = weighDown xs0 p xs0.length := ⟨_, rfl⟩
  have lq1 : q.1.length = xs1.length := by rw [hq]; exact lw1 _
  have lq2 : q.2.length = xs2.length := by rw [hq]; exact lw2 _
  rw [← hq] at hma hmb
  have hL : xL = wovL 0 q.1 q.2 q.1.length := by rw [hxL]; unfold dropF; rw [if_neg hz, ← hp, ← hq]
  simp (disch := first | assumption | omega | rfl | (refine id ?_; simp only [gxD, ne_eq, reduceCtorEq, not_false_eq_true, Nat.reduceAdd, *]; done) | (refine id ?_; simp only [gxD]; omega)) only [↓gxPre, gxPost, ↓reduceIte, Nat.reduceEqDiff, reduceCtorEq, Nat.reduceAdd, hneg]
  all_goals (
    refine loop_forH q.1.length (fun i => [.slice (some ⟨H.n, 0, none⟩) xs1.length xs1.length, .slice (some ⟨H.n + 1, 0, none⟩) xs2.length xs2.length, .slice (some ⟨M.n, 0, none⟩) (wovL 0 q.1 q.2 i).length (wovL 0 q.1 q.2 i).length, .int .i64 i])
      (fun i G => M.n + 1 ≤ G.n ∧ Ext M G ∧ G.blk M.n = some ⟨true, t_float32, (wovL 0 q.1 q.2 i).map fv⟩) rfl ⟨by simp only [new_n]; omega, ⟨by first | omega | (simp only [new_n, put_n]; omega) | (simp only [new_n, put_n] at *; omega), fun i hi => by simp (disch := first | assumption | omega | rfl | (refine id ?_; simp only [gxD, ne_eq, reduceCtorEq, not_false_eq_true, Nat.reduceAdd, *]; done) | (refine id ?_; simp only [gxD]; omega)) only [↓gxPre, gxPost, ↓reduceIte, Nat.reduceEqDiff, reduceCtorEq, Nat.reduceAdd, *]⟩, by simp (disch := first | assumption | omega | rfl | (refine id ?_; simp only [gxD, ne_eq, reduceCtorEq, not_false_eq_true, Nat.reduceAdd, *]; done) | (refine id ?_; simp only [gxD]; omega)) only [↓gxPre, gxPost, ↓reduceIte, Nat.reduceEqDiff, reduceCtorEq, Nat.reduceAdd]; rfl⟩ ?_ ?_
    · rintro G ⟨hG, hE, hc⟩
      have hwl := wovL_len (d := 0) (ev := q.1) (od := q.2) q.1.length
      rw [← hL] at hc hwl
      rw [lq1]
      simp (disch := first | assumption | omega | rfl | (refine id ?_; simp only [gxD, ne_eq, reduceCtorEq, not_false_eq_true, Nat.reduceAdd, *]; done) | (refine id ?_; simp only [gxD]; omega)) only [↓gxPre, gxPost, ↓reduceIte, Nat.reduceEqDiff, reduceCtorEq, Nat.reduceAdd, Int.lt_irrefl]
      rw [← lq1, ← hL]
      refine callR_pure (s_l02List_ok (FS.own hc (by omega) rfl) (by omega)) (.inl rfl) ?_
      cases hf : xL.all finF
      · simp (disch := first | assumption | omega | rfl | (refine id ?_; simp only [gxD, ne_eq, reduceCtorEq, not_false_eq_true, Nat.reduceAdd, *]; done) | (refine id ?_; simp only [gxD]; omega)) only [↓gxPre, gxPost, ↓reduceIte, Nat.reduceEqDiff, reduceCtorEq, Nat.reduceAdd, listV]
        exact .no rfl (eM.trans hE)
      · simp (disch := first | assumption | omega | rfl | (refine id ?_; simp only [gxD, ne_eq, reduceCtorEq, not_false_eq_true, Nat.reduceAdd, *]; done) | (refine id ?_; simp only [gxD]; omega)) only [↓gxPre, gxPost, ↓reduceIte, Nat.reduceEqDiff, reduceCtorEq, Nat.reduceAdd, listV]
        exact .yes rfl (eM.trans hE) (.mk hc (by simp) (by omega) (by omega) (by omega)) (by omega)
    · rintro i G hi ⟨hG, hE, hc⟩
      have hv' := (FS.own hma (by omega) lq1).ext hE
      have hu' := (FS.own hmb (by omega) lq2).ext hE
      have hw := wovL_len (d := 0) (ev := q.1) (od := q.2) i
      have l1 : ((wovL 0 q.1 q.2 i).map fv).length = (wovL 0 q.1 q.2 i).length := by rw [lMapN]
      have l2 : ((wovL 0 q.1 q.2 i).map fv ++ [Value.float .f32 (q.1.getD i 0)]).length = (wovL 0 q.1 q.2 i).length + 1 := by simp
      obtain ⟨f1, f2, f3, f4⟩ := push_at (x := .float .f32 (q.1.getD i 0)) hE hc (Nat.le_refl _) (by omega) rfl
      have hu2 := (FS.own hmb (by omega) lq2).ext f1
      have hic : ((i : Nat) : Int) < xs1.length := by omega
      by_cases h2 : i < q.2.length
      · have hc2 : ((i : Nat) : Int) < xs2.length := by omega
        first
        | (exfalso; omega)
        | (
            obtain ⟨g1, g2, g3, g4⟩ := push_at (x := .float .f32 (q.2.getD i 0)) f1 f2 (Nat.le_refl _) (by rw [f3]; omega) rfl
            have hm5 : (wovL 0 q.1 q.2 i).map fv ++ [Value.float .f32 (q.1.getD i 0)] ++ [Value.float .f32 (q.2.getD i 0)] = (wovL 0 q.1 q.2 (i + 1)).map fv := by rw [wovL_both h2, fv_snoc', fv_snoc']
            have hl5 : (wovL 0 q.1 q.2 (i + 1)).length = (wovL 0 q.1 q.2 i).length + 1 + 1 := by rw [wovL_both h2]; simp
            simp (disch := first | assumption | omega | rfl | (refine id ?_; simp only [gxD, ne_eq, reduceCtorEq, not_false_eq_true, Nat.reduceAdd, *]; done) | (refine id ?_; simp only [gxD]; omega)) only [↓gxPre, gxPost, ↓reduceIte, Nat.reduceEqDiff, reduceCtorEq, Nat.reduceAdd, hv'.ia, hv'.ld, hc, hu2.ia, hu2.ld, hc2, rd1_at, hic]
            refine ⟨by rw [hl5]; simp, by omega, g1, ?_⟩
            rw [← hm5])
      · have hc2 : ¬ ((i : Nat) : Int) < xs2.length := by omega
        have hm5 : (wovL 0 q.1 q.2 i).map fv ++ [Value.float .f32 (q.1.getD i 0)] = (wovL 0 q.1 q.2 (i + 1)).map fv := by rw [wovL_one h2, fv_snoc']
        have hl5 : (wovL 0 q.1 q.2 (i + 1)).length = (wovL 0 q.1 q.2 i).length + 1 := by rw [wovL_one h2]; simp
        simp (disch := first | assumption | omega | rfl | (refine id ?_; simp only [gxD, ne_eq, reduceCtorEq, not_false_eq_true, Nat.reduceAdd, *]; done) | (refine id ?_; simp only [gxD]; omega)) only [↓gxPre, gxPost, ↓reduceIte, Nat.reduceEqDiff, reduceCtorEq, Nat.reduceAdd, hv'.ia, hv'.ld, hc, hc2, hic]
        refine ⟨by rw [hl5]; simp, by omega, f1, ?_⟩
        rw [← hm5])
end Go.Proofs.Ytkojmlpaamdhoae
