/- Integers taken back. -/
import Derived.Test.YtkojmlpaamdhoaeDropLevelsXB
namespace Go.Proofs.Ytkojmlpaamdhoae
open Go.Gx
set_option maxRecDepth 100000
set_option linter.unusedSimpArgs false
set_option linter.unusedVariables false

theorem new_put2 {H : Heap} {a b c : Blk} : ((H.new a).new b).put (H.n + 1) c = (H.new a).new c := new_put (H := H.new a) ..
theorem dropE_length (kind : Int) (ev od : List Int) : (dropE kind ev od).length = ev.length := by simp [dropE]
theorem dropO_length (kind : Int) (ev od : List Int) : (dropO kind ev od).length = od.length := by simp [dropO]
theorem i64_dropE (kind : Int) (ev od : List Int) : I64 (dropE kind ev od) := i64_range _ _ fun j => wr_range _
def dropOkI (kind : Int) (ev od : List Int) : Bool := within kind 0 2 && fitF ev.length od.length && boundF ev 10000000 && boundF od 10000000 && integersF (dropI kind ev od)
theorem fit_facts' {a b : Nat} (h : fitF a b = true) : 1 ≤ a ∧ (b = a ∨ b + 1 = a) ∧ a + b ≤ 128 := by
  simp only [fitF, Bool.and_eq_true, Bool.or_eq_true, decide_eq_true_eq] at h
  exact ⟨h.1.1, h.1.2, h.2⟩
theorem i_woven_i_ok {H : Heap} {v u : Value} {ev od : List Int} (hv : IS H v ev) (hu : IS H u od) (hn : ev.length ≤ 2 ^ 30) (hm : od.length ≤ 2 ^ 30) :
    ACalls Try.prog n_i_woven_int64_ [v, u] H fun r H' => Ext H H' ∧ H.n + 1 ≤ H'.n ∧ r = .slice (some ⟨H.n, 0, none⟩) (wovL 0 ev od ev.length).length (wovL 0 ev od ev.length).length ∧ H'.blk H.n = some ⟨true, t_int64, (wovL 0 ev od ev.length).map iv⟩ := by
  refine k_i_woven_int64_.run rfl ?_
  unfold c_i_woven_int64_
  simp (disch := first | assumption | omega | rfl | (refine id ?_; simp only [gxD, ne_eq, reduceCtorEq, not_false_eq_true, Nat.reduceAdd, *]; done) | (refine id ?_; simp only [gxD]; omega)) only [↓gxPre, gxPost, ↓reduceIte, Nat.reduceEqDiff, reduceCtorEq, Nat.reduceAdd, hv.len]
  refine loop_forH ev.length (fun i => [u, .slice (some ⟨H.n, 0, none⟩) (wovL 0 ev od i).length (wovL 0 ev od i).length, v, .int .i64 ev.length, .int .i64 i])
    (fun i G => H.n + 1 ≤ G.n ∧ Ext H G ∧ G.blk H.n = some ⟨true, t_int64, (wovL 0 ev od i).map iv⟩) rfl ⟨by simp only [new_n]; omega, ⟨by first | omega | (simp only [new_n, put_n]; omega) | (simp only [new_n, put_n] at *; omega), fun i hi => by simp (disch := first | assumption | omega | rfl | (refine id ?_; simp only [gxD, ne_eq, reduceCtorEq, not_false_eq_true, Nat.reduceAdd, *]; done) | (refine id ?_; simp only [gxD]; omega)) only [↓gxPre, gxPost, ↓reduceIte, Nat.reduceEqDiff, reduceCtorEq, Nat.reduceAdd, *]⟩, by simp (disch := first | assumption | omega | rfl | (refine id ?_; simp only [gxD, ne_eq, reduceCtorEq, not_false_eq_true, Nat.reduceAdd, *]; done) | (refine id ?_; simp only [gxD]; omega)) only [↓gxPre, gxPost, ↓reduceIte, Nat.reduceEqDiff, reduceCtorEq, Nat.reduceAdd]; rfl⟩ ?_ ?_
  · rintro G ⟨hG, hE, hc⟩
    simp (disch := first | assumption | omega | rfl | (refine id ?_; simp only [gxD, ne_eq, reduceCtorEq, not_false_eq_true, Nat.reduceAdd, *]; done) | (refine id ?_; simp only [gxD]; omega)) only [↓gxPre, gxPost, ↓reduceIte, Nat.reduceEqDiff, reduceCtorEq, Nat.reduceAdd, Int.lt_irrefl]
    exact ⟨hE, hG, hc⟩
  · rintro i G hi ⟨hG, hE, hc⟩
    have hv' := hv.ext hE
    have hu' := hu.ext hE
    have hw := wovL_len (d := 0) (ev := ev) (od := od) i
    have l1 : ((wovL 0 ev od i).map iv).length = (wovL 0 ev od i).length := by rw [lMapI]
    have l2 : ((wovL 0 ev od i).map iv ++ [Value.int .i64 (ev.getD i 0)]).length = (wovL 0 ev od i).length + 1 := by simp
    obtain ⟨f1, f2, f3, f4⟩ := push_at (x := .int .i64 (ev.getD i 0)) hE hc (Nat.le_refl _) (by omega) rfl
    by_cases h2 : i < od.length
    · have hc2 : ((i : Nat) : Int) < od.length := by omega
      obtain ⟨g1, g2, g3, g4⟩ := push_at (x := .int .i64 (od.getD i 0)) f1 f2 (Nat.le_refl _) (by rw [f3]; omega) rfl
      have hm5 : (wovL 0 ev od i).map iv ++ [Value.int .i64 (ev.getD i 0)] ++ [Value.int .i64 (od.getD i 0)] = (wovL 0 ev od (i + 1)).map iv := by rw [wovL_both h2, iv_snoc', iv_snoc']
      have hl5 : (wovL 0 ev od (i + 1)).length = (wovL 0 ev od i).length + 1 + 1 := by rw [wovL_both h2]; simp
      simp (disch := first | assumption | omega | rfl | (refine id ?_; simp only [gxD, ne_eq, reduceCtorEq, not_false_eq_true, Nat.reduceAdd, *]; done) | (refine id ?_; simp only [gxD]; omega)) only [↓gxPre, gxPost, ↓reduceIte, Nat.reduceEqDiff, reduceCtorEq, Nat.reduceAdd, hv'.ia, hv'.ld, hu'.len, hc, (hu.ext f1).ia, (hu.ext f1).ld, (hu.ext f1).len, hc2, rd1_at]
      refine ⟨by rw [hl5]; simp, by omega, g1, ?_⟩
      rw [← hm5]
    · have hc2 : ¬ ((i : Nat) : Int) < od.length := by omega
      have hm5 : (wovL 0 ev od i).map iv ++ [Value.int .i64 (ev.getD i 0)] = (wovL 0 ev od (i + 1)).map iv := by rw [wovL_one h2, iv_snoc']
      have hl5 : (wovL 0 ev od (i + 1)).length = (wovL 0 ev od i).length + 1 := by rw [wovL_one h2]; simp
      simp (disch := first | assumption | omega | rfl | (refine id ?_; simp only [gxD, ne_eq, reduceCtorEq, not_false_eq_true, Nat.reduceAdd, *]; done) | (refine id ?_; simp only [gxD]; omega)) only [↓gxPre, gxPost, ↓reduceIte, Nat.reduceEqDiff, reduceCtorEq, Nat.reduceAdd, hv'.ia, hv'.ld, hu'.len, hc, (hu.ext f1).len, hc2]
      refine ⟨by rw [hl5]; simp, by omega, f1, ?_⟩
      rw [← hm5]
structure RI (H : Heap) (v : Value) (xs : List Int) : Prop where
  rd : IS H v xs
  le : xs.length ≤ 2 ^ 40
theorem i_DropIntegers_core {H : Heap} {a0 : Int} {v1 v2 : Value} {xs1 xs2 : List Int} (b0 : -9223372036854775808 ≤ a0 ∧ a0 ≤ 9223372036854775807) (A1 : RI H v1 xs1) (A2 : AI H v2 xs2) :
    ACalls Try.prog n_i_DropIntegers [.int .i64 a0, v1, v2] H fun r H' => ListR iv t_int64 H (dropOkI a0 xs1 xs2) (dropI a0 xs1 xs2) r H' := by
  refine k_i_DropIntegers.run rfl ?_
  unfold c_i_DropIntegers
  have hA1 := A1.le
  have hA2 := A2.le
  simp (disch := first | assumption | omega | rfl | (refine id ?_; simp only [gxD, ne_eq, reduceCtorEq, not_false_eq_true, Nat.reduceAdd, *]; done) | (refine id ?_; simp only [gxD]; omega)) only [↓gxPre, gxPost, ↓reduceIte, Nat.reduceEqDiff, reduceCtorEq, Nat.reduceAdd, A1.rd.len]
  refine callR_pure (i_within_ok) (by first | exact Or.inl rfl | (simp (disch := first | assumption | omega | rfl | (refine id ?_; simp only [gxD, ne_eq, reduceCtorEq, not_false_eq_true, Nat.reduceAdd, *]; done) | (refine id ?_; simp only [gxD]; omega)) only [↓gxPre, gxPost, ↓reduceIte, Nat.reduceEqDiff, reduceCtorEq, Nat.reduceAdd, *]; done)) ?_
  simp (disch := first | assumption | omega | rfl | (refine id ?_; simp only [gxD, ne_eq, reduceCtorEq, not_false_eq_true, Nat.reduceAdd, *]; done) | (refine id ?_; simp only [gxD]; omega)) only [↓gxPre, gxPost, ↓reduceIte, Nat.reduceEqDiff, reduceCtorEq, Nat.reduceAdd, *]
  cases h0 : within a0 0 2
  · simp (disch := first | assumption | omega | rfl | (refine id ?_; simp only [gxD, ne_eq, reduceCtorEq, not_false_eq_true, Nat.reduceAdd, *]; done) | (refine id ?_; simp only [gxD]; omega)) only [↓gxPre, gxPost, ↓reduceIte, Nat.reduceEqDiff, reduceCtorEq, Nat.reduceAdd]
    exact .no (by simp only [dropOkI, h0, Bool.false_and, Bool.true_and, Bool.and_true, Bool.and_false, Bool.or_true, Bool.true_or, Bool.false_or, Bool.or_false, Bool.and_self, Bool.or_self]) (.refl _)
  simp (disch := first | assumption | omega | rfl | (refine id ?_; simp only [gxD, ne_eq, reduceCtorEq, not_false_eq_true, Nat.reduceAdd, *]; done) | (refine id ?_; simp only [gxD]; omega)) only [↓gxPre, gxPost, ↓reduceIte, Nat.reduceEqDiff, reduceCtorEq, Nat.reduceAdd, A1.rd.len]
  refine callR_pure i_within_ok (.inl rfl) ?_
  cases hw : within xs1.length 1 64
  · simp (disch := first | assumption | omega | rfl | (refine id ?_; simp only [gxD, ne_eq, reduceCtorEq, not_false_eq_true, Nat.reduceAdd, *]; done) | (refine id ?_; simp only [gxD]; omega)) only [↓gxPre, gxPost, ↓reduceIte, Nat.reduceEqDiff, reduceCtorEq, Nat.reduceAdd]
    have h1 : fitF xs1.length xs2.length = false := by
      cases h : fitF xs1.length xs2.length
      · rfl
      · obtain ⟨p1, p2, p3⟩ := fit_facts' h
        have : within xs1.length 1 64 = true := within_true.2 (by omega)
        rw [hw] at this
        cases this
    exact .no (by simp only [dropOkI, h1, Bool.false_and, Bool.true_and, Bool.and_true, Bool.and_false, Bool.or_true, Bool.true_or, Bool.false_or, Bool.or_false, Bool.and_self, Bool.or_self]) (.refl _)
  have hw' := within_true.1 hw
  simp (disch := first | assumption | omega | rfl | (refine id ?_; simp only [gxD, ne_eq, reduceCtorEq, not_false_eq_true, Nat.reduceAdd, *]; done) | (refine id ?_; simp only [gxD]; omega)) only [↓gxPre, gxPost, ↓reduceIte, Nat.reduceEqDiff, reduceCtorEq, Nat.reduceAdd, A1.rd.len, A2.rd.len]
  cases h1 : fitF xs1.length xs2.length
  · have d2 : ¬ (xs2.length : Int) = xs1.length := fun h => by
      simp only [fitF, Bool.and_eq_false_iff, Bool.or_eq_false_iff, decide_eq_false_iff_not] at h1
      omega
    have d4 : ¬ (xs2.length : Int) = xs1.length - 1 := fun h => by
      simp only [fitF, Bool.and_eq_false_iff, Bool.or_eq_false_iff, decide_eq_false_iff_not] at h1
      omega
    simp (disch := first | assumption | omega | rfl | (refine id ?_; simp only [gxD, ne_eq, reduceCtorEq, not_false_eq_true, Nat.reduceAdd, *]; done) | (refine id ?_; simp only [gxD]; omega)) only [↓gxPre, gxPost, ↓reduceIte, Nat.reduceEqDiff, reduceCtorEq, Nat.reduceAdd, A1.rd.len, A2.rd.len, d2, d4, ne_eq, not_true, not_false_eq_true, Bool.false_and, Bool.true_and, Bool.and_true, Bool.and_false, Bool.or_true, Bool.true_or, Bool.false_or, Bool.or_false, Bool.and_self, Bool.or_self]
    exact .no (by simp only [dropOkI, h1, Bool.false_and, Bool.true_and, Bool.and_true, Bool.and_false, Bool.or_true, Bool.true_or, Bool.false_or, Bool.or_false, Bool.and_self, Bool.or_self]) (.refl _)
  obtain ⟨p1, p2, p3⟩ := fit_facts' h1
  have d2 : ((xs2.length : Int) = xs1.length ∨ (¬ (xs2.length : Int) = xs1.length ∧ (xs2.length : Int) = xs1.length - 1)) := by omega
  have key : ∀ (P : Prop), ((xs2.length : Int) = xs1.length → P) → ((¬ (xs2.length : Int) = xs1.length) → ((xs2.length : Int) = xs1.length - 1) → P) → P := fun P f g => d2.elim f fun h => g h.1 h.2
  refine key _ (fun d2 => ?_) (fun d2 d4 => ?_)
  all_goals first | simp (disch := first | assumption | omega | rfl | (refine id ?_; simp only [gxD, ne_eq, reduceCtorEq, not_false_eq_true, Nat.reduceAdd, *]; done) | (refine id ?_; simp only [gxD]; omega)) only [↓gxPre, gxPost, ↓reduceIte, Nat.reduceEqDiff, reduceCtorEq, Nat.reduceAdd, A1.rd.len, A2.rd.len, d2, d4, ne_eq, not_true, not_false_eq_true, Bool.false_and, Bool.true_and, Bool.and_true, Bool.and_false, Bool.or_true, Bool.true_or, Bool.false_or, Bool.or_false, Bool.and_self, Bool.or_self] | simp (disch := first | assumption | omega | rfl | (refine id ?_; simp only [gxD, ne_eq, reduceCtorEq, not_false_eq_true, Nat.reduceAdd, *]; done) | (refine id ?_; simp only [gxD]; omega)) only [↓gxPre, gxPost, ↓reduceIte, Nat.reduceEqDiff, reduceCtorEq, Nat.reduceAdd, A1.rd.len, A2.rd.len, d2, ne_eq, not_true, not_false_eq_true, Bool.false_and, Bool.true_and, Bool.and_true, Bool.and_false, Bool.or_true, Bool.true_or, Bool.false_or, Bool.or_false, Bool.and_self, Bool.or_self]
  all_goals clear d2
  all_goals try clear d4
  all_goals (
    refine callR_pure (i_areWithin_ok A1.rd A1.le (by omega) (by omega)) (.inl rfl) ?_
    cases h2 : boundF xs1 10000000
    · simp (disch := first | assumption | omega | rfl | (refine id ?_; simp only [gxD, ne_eq, reduceCtorEq, not_false_eq_true, Nat.reduceAdd, *]; done) | (refine id ?_; simp only [gxD]; omega)) only [↓gxPre, gxPost, ↓reduceIte, Nat.reduceEqDiff, reduceCtorEq, Nat.reduceAdd]
      exact .no (by simp only [dropOkI, h2, Bool.false_and, Bool.true_and, Bool.and_true, Bool.and_false, Bool.or_true, Bool.true_or, Bool.false_or, Bool.or_false, Bool.and_self, Bool.or_self]) (.refl _)
    simp (disch := first | assumption | omega | rfl | (refine id ?_; simp only [gxD, ne_eq, reduceCtorEq, not_false_eq_true, Nat.reduceAdd, *]; done) | (refine id ?_; simp only [gxD]; omega)) only [↓gxPre, gxPost, ↓reduceIte, Nat.reduceEqDiff, reduceCtorEq, Nat.reduceAdd]
    refine callR_pure (i_areWithin_ok A2.rd A2.le (by omega) (by omega)) (.inl rfl) ?_
    cases h3 : boundF xs2 10000000
    · simp (disch := first | assumption | omega | rfl | (refine id ?_; simp only [gxD, ne_eq, reduceCtorEq, not_false_eq_true, Nat.reduceAdd, *]; done) | (refine id ?_; simp only [gxD]; omega)) only [↓gxPre, gxPost, ↓reduceIte, Nat.reduceEqDiff, reduceCtorEq, Nat.reduceAdd]
      exact .no (by simp only [dropOkI, h3, Bool.false_and, Bool.true_and, Bool.and_true, Bool.and_false, Bool.or_true, Bool.true_or, Bool.false_or, Bool.or_false, Bool.and_self, Bool.or_self]) (.refl _)
    have hr1 := (A1.rd.ext (.new H ⟨true, t_int64, []⟩)).read
    have hr2 := ((A2.rd.ext (.new H ⟨true, t_int64, xs1.map iv⟩)).ext (.new _ ⟨true, t_int64, []⟩)).read
    simp (disch := first | assumption | omega | rfl | (refine id ?_; simp only [gxD, ne_eq, reduceCtorEq, not_false_eq_true, Nat.reduceAdd, *]; done) | (refine id ?_; simp only [gxD]; omega)) only [↓gxPre, gxPost, ↓reduceIte, Nat.reduceEqDiff, reduceCtorEq, Nat.reduceAdd, hr1, hr2, List.nil_append, lMapI, new_put2]
    have hcK : ((H.new ⟨true, t_int64, xs1.map iv⟩).new ⟨true, t_int64, xs2.map iv⟩).blk H.n = some ⟨true, t_int64, xs1.map iv⟩ := by simp (disch := first | assumption | omega | rfl | (refine id ?_; simp only [gxD, ne_eq, reduceCtorEq, not_false_eq_true, Nat.reduceAdd, *]; done) | (refine id ?_; simp only [gxD]; omega)) only [↓gxPre, gxPost, ↓reduceIte, Nat.reduceEqDiff, reduceCtorEq, Nat.reduceAdd]
    have hdK : ((H.new ⟨true, t_int64, xs1.map iv⟩).new ⟨true, t_int64, xs2.map iv⟩).blk (H.n + 1) = some ⟨true, t_int64, xs2.map iv⟩ := by simp (disch := first | assumption | omega | rfl | (refine id ?_; simp only [gxD, ne_eq, reduceCtorEq, not_false_eq_true, Nat.reduceAdd, *]; done) | (refine id ?_; simp only [gxD]; omega)) only [↓gxPre, gxPost, ↓reduceIte, Nat.reduceEqDiff, reduceCtorEq, Nat.reduceAdd]
    have eKK : Ext H ((H.new ⟨true, t_int64, xs1.map iv⟩).new ⟨true, t_int64, xs2.map iv⟩) := (Ext.new _ _).trans (.new _ _)
    have nKK : ((H.new ⟨true, t_int64, xs1.map iv⟩).new ⟨true, t_int64, xs2.map iv⟩).n = H.n + 2 := by simp only [new_n]
    generalize (H.new ⟨true, t_int64, xs1.map iv⟩).new ⟨true, t_int64, xs2.map iv⟩ = K at hcK hdK eKK nKK ⊢
    have hod := A2.w
    refine loop_forH xs1.length (fun j => [.int .i64 a0, .slice (some ⟨H.n, 0, none⟩) xs1.length xs1.length, .slice (some ⟨H.n + 1, 0, none⟩) xs2.length xs2.length, .int .i64 xs1.length, .int .i64 j])
      (fun j G => Ext H G ∧ H.n + 2 ≤ G.n ∧ G.blk H.n = some ⟨true, t_int64, (updL (fun j => wr (xs1.getD j 0 - evenByF a0 xs2 j)) xs1 j).map iv⟩ ∧ G.blk (H.n + 1) = some ⟨true, t_int64, xs2.map iv⟩) rfl
      ⟨eKK, by omega, by rw [updL_zero]; exact hcK, hdK⟩ ?_ ?_
    rotate_left
    · rintro j G hj ⟨hE, hG, hc, hd⟩
      have l1 : ((updL (fun j => wr (xs1.getD j 0 - evenByF a0 xs2 j)) xs1 j).map iv).length = xs1.length := by rw [lMapI, updL_length]
      have ha := updL_at (g := fun j => wr (xs1.getD j 0 - evenByF a0 xs2 j)) (xs := xs1) (i := j) (by omega)
      have hs : ((updL (fun j => wr (xs1.getD j 0 - evenByF a0 xs2 j)) xs1 j).map iv).set j (.int .i64 (IntKind.wrap .i64 (xs1.getD j 0 - evenByF a0 xs2 j))) = (updL (fun j => wr (xs1.getD j 0 - evenByF a0 xs2 j)) xs1 (j + 1)).map iv := by
        rw [iv_set, ← updL_set]; rfl
      simp (disch := first | assumption | omega | rfl | (refine id ?_; simp only [gxD, ne_eq, reduceCtorEq, not_false_eq_true, Nat.reduceAdd, *]; done) | (refine id ?_; simp only [gxD]; omega)) only [↓gxPre, gxPost, ↓reduceIte, Nat.reduceEqDiff, reduceCtorEq, Nat.reduceAdd, hc, hd, ha]
      refine callR_pure (i_evenBy_ok (IS.own hd (by omega) rfl) (by omega) (by omega) hod) (by first | exact .inl rfl | (simp (disch := first | assumption | omega | rfl | (refine id ?_; simp only [gxD, ne_eq, reduceCtorEq, not_false_eq_true, Nat.reduceAdd, *]; done) | (refine id ?_; simp only [gxD]; omega)) only [↓gxPre, gxPost, ↓reduceIte, Nat.reduceEqDiff, reduceCtorEq, Nat.reduceAdd, hc, hd, ha]; done)) ?_
      simp (disch := first | assumption | omega | rfl | (refine id ?_; simp only [gxD, ne_eq, reduceCtorEq, not_false_eq_true, Nat.reduceAdd, *]; done) | (refine id ?_; simp only [gxD]; omega)) only [↓gxPre, gxPost, ↓reduceIte, Nat.reduceEqDiff, reduceCtorEq, Nat.reduceAdd, hc, hd, ha]
      exact ⟨by simp, hE.put (Nat.le_refl _) _, hG, by rw [hs]⟩
    rintro G ⟨hE, hG, hc, hd⟩
    obtain ⟨ev, hv⟩ : ∃ ev, ev = dropE a0 xs1 xs2 := ⟨_, rfl⟩
    have lev : ev.length = xs1.length := by rw [hv]; exact dropE_length _ _ _
    have wev : I64 ev := by rw [hv]; exact i64_dropE _ _ _
    have hc2 : G.blk H.n = some ⟨true, t_int64, ev.map iv⟩ := by
      rw [hc, updL_all, hv]; rfl
    simp (disch := first | assumption | omega | rfl | (refine id ?_; simp only [gxD, ne_eq, reduceCtorEq, not_false_eq_true, Nat.reduceAdd, *]; done) | (refine id ?_; simp only [gxD]; omega)) only [↓gxPre, gxPost, ↓reduceIte, Nat.reduceEqDiff, reduceCtorEq, Nat.reduceAdd, Int.lt_irrefl]
    refine loop_forH xs2.length (fun j => [.int .i64 a0, .slice (some ⟨H.n, 0, none⟩) xs1.length xs1.length, .slice (some ⟨H.n + 1, 0, none⟩) xs2.length xs2.length, .int .i64 xs2.length, .int .i64 j])
      (fun j G => Ext H G ∧ H.n + 2 ≤ G.n ∧ G.blk H.n = some ⟨true, t_int64, ev.map iv⟩ ∧ G.blk (H.n + 1) = some ⟨true, t_int64, (updL (fun j => wr (xs2.getD j 0 + oddByF a0 ev j)) xs2 j).map iv⟩) rfl
      ⟨hE, hG, hc2, by rw [updL_zero]; exact hd⟩ ?_ ?_
    rotate_left
    · rintro j G hj ⟨hE, hG, hc, hd⟩
      have l1 : ((updL (fun j => wr (xs2.getD j 0 + oddByF a0 ev j)) xs2 j).map iv).length = xs2.length := by rw [lMapI, updL_length]
      have ha := updL_at (g := fun j => wr (xs2.getD j 0 + oddByF a0 ev j)) (xs := xs2) (i := j) (by omega)
      have hs : ((updL (fun j => wr (xs2.getD j 0 + oddByF a0 ev j)) xs2 j).map iv).set j (.int .i64 (IntKind.wrap .i64 (xs2.getD j 0 + oddByF a0 ev j))) = (updL (fun j => wr (xs2.getD j 0 + oddByF a0 ev j)) xs2 (j + 1)).map iv := by
        rw [iv_set, ← updL_set]; rfl
      simp (disch := first | assumption | omega | rfl | (refine id ?_; simp only [gxD, ne_eq, reduceCtorEq, not_false_eq_true, Nat.reduceAdd, *]; done) | (refine id ?_; simp only [gxD]; omega)) only [↓gxPre, gxPost, ↓reduceIte, Nat.reduceEqDiff, reduceCtorEq, Nat.reduceAdd, hc, hd, ha]
      refine callR_ext (i_oddBy_ok (IS.own hc (by omega) lev) (by omega) (by omega) wev) ?_
      intro G1 n1 b1
      have hc1 := (b1 H.n (by omega)).trans hc
      have hd1 := (b1 (H.n + 1) (by omega)).trans hd
      have e1 : Ext G G1 := ⟨n1, b1⟩
      simp (disch := first | assumption | omega | rfl | (refine id ?_; simp only [gxD, ne_eq, reduceCtorEq, not_false_eq_true, Nat.reduceAdd, *]; done) | (refine id ?_; simp only [gxD]; omega)) only [↓gxPre, gxPost, ↓reduceIte, Nat.reduceEqDiff, reduceCtorEq, Nat.reduceAdd, hc1, hd1, ha]
      exact ⟨by simp, (hE.trans e1).put (by omega) _, by omega, by rw [hs]⟩
    clear hd hc hG hE hc2 G
    rintro G ⟨hE, hG, hc, hd⟩
    obtain ⟨od, hu⟩ : ∃ od, od = dropO a0 ev xs2 := ⟨_, rfl⟩
    have lod : od.length = xs2.length := by rw [hu]; exact dropO_length _ _ _
    have hd2 : G.blk (H.n + 1) = some ⟨true, t_int64, od.map iv⟩ := by
      rw [hd, updL_all, hu]; rfl
    have hL : dropI a0 xs1 xs2 = wovL 0 ev od ev.length := by unfold dropI; rw [← hv, ← hu, lev]
    have hwl := wovL_len (d := 0) (ev := ev) (od := od) ev.length
    have hO : dropOkI a0 xs1 xs2 = integersF (wovL 0 ev od ev.length) := by simp only [dropOkI, hL, h0, h1, h2, h3, Bool.false_and, Bool.true_and, Bool.and_true, Bool.and_false, Bool.or_true, Bool.true_or, Bool.false_or, Bool.or_false, Bool.and_self, Bool.or_self]
    rw [hL, hO]
    simp (disch := first | assumption | omega | rfl | (refine id ?_; simp only [gxD, ne_eq, reduceCtorEq, not_false_eq_true, Nat.reduceAdd, *]; done) | (refine id ?_; simp only [gxD]; omega)) only [↓gxPre, gxPost, ↓reduceIte, Nat.reduceEqDiff, reduceCtorEq, Nat.reduceAdd, Int.lt_irrefl]
    refine callR_of (i_woven_i_ok (IS.own hc (by omega) lev) (IS.own hd2 (by omega) lod) (by omega) (by omega)) ?_
    rintro _ W ⟨eW, nW, rfl, hw⟩
    simp (disch := first | assumption | omega | rfl | (refine id ?_; simp only [gxD, ne_eq, reduceCtorEq, not_false_eq_true, Nat.reduceAdd, *]; done) | (refine id ?_; simp only [gxD]; omega)) only [↓gxPre, gxPost, ↓reduceIte, Nat.reduceEqDiff, reduceCtorEq, Nat.reduceAdd]
    refine callR_pure (i_AreIntegers_ok (IS.own hw (by omega) rfl) (by omega)) (.inl rfl) ?_
    have hEn := hE.n
    cases hf : integersF (wovL 0 ev od ev.length)
    · simp (disch := first | assumption | omega | rfl | (refine id ?_; simp only [gxD, ne_eq, reduceCtorEq, not_false_eq_true, Nat.reduceAdd, *]; done) | (refine id ?_; simp only [gxD]; omega)) only [↓gxPre, gxPost, ↓reduceIte, Nat.reduceEqDiff, reduceCtorEq, Nat.reduceAdd]
      exact .no rfl (hE.trans eW)
    · simp (disch := first | assumption | omega | rfl | (refine id ?_; simp only [gxD, ne_eq, reduceCtorEq, not_false_eq_true, Nat.reduceAdd, *]; done) | (refine id ?_; simp only [gxD]; omega)) only [↓gxPre, gxPost, ↓reduceIte, Nat.reduceEqDiff, reduceCtorEq, Nat.reduceAdd]
      exact .yes rfl (hE.trans eW) (.mk hw (by simp) (by omega) (by omega) (by omega)) (by omega))
theorem i_DropIntegers_law {H : Heap} {a0 : Int} {v1 v2 : Value} {xs1 xs2 : List Int} (b0 : -9223372036854775808 ≤ a0 ∧ a0 ≤ 9223372036854775807) (A1 : AI H v1 xs1) (A2 : AI H v2 xs2) :
    ACalls Try.prog n_i_DropIntegers [.int .i64 a0, v1, v2] H fun r H' => ListR iv t_int64 H (dropOkI a0 xs1 xs2) (dropI a0 xs1 xs2) r H' :=
  i_DropIntegers_core b0 ⟨A1.rd, A1.le⟩ A2
theorem s_l02Drop_law {H : Heap} {a0 : Int} {v1 v2 : Value} {xs1 xs2 : List Int} (A1 : RI H v1 xs1) (A2 : AI H v2 xs2) (h0 : within a0 0 2 = true) :
    ACalls Try.prog n_s_l02Drop [.int .i64 a0, v1, v2] H fun r H' => ListR iv t_int64 H (dropOkI a0 xs1 xs2) (dropI a0 xs1 xs2) r H' := by
  refine k_s_l02Drop.run rfl ?_
  unfold c_s_l02Drop
  have hA1 := A1.le
  have hA2 := A2.le
  simp (disch := first | assumption | omega | rfl | (refine id ?_; simp only [gxD, ne_eq, reduceCtorEq, not_false_eq_true, Nat.reduceAdd, *]; done) | (refine id ?_; simp only [gxD]; omega)) only [↓gxPre, gxPost, ↓reduceIte, Nat.reduceEqDiff, reduceCtorEq, Nat.reduceAdd, A1.rd.len, A2.rd.len]
  refine callR_pure (s_l02Fit_ok (by omega) (by omega)) (.inl rfl) ?_
  cases h1 : fitF xs1.length xs2.length
  · simp (disch := first | assumption | omega | rfl | (refine id ?_; simp only [gxD, ne_eq, reduceCtorEq, not_false_eq_true, Nat.reduceAdd, *]; done) | (refine id ?_; simp only [gxD]; omega)) only [↓gxPre, gxPost, ↓reduceIte, Nat.reduceEqDiff, reduceCtorEq, Nat.reduceAdd]
    exact .no (by simp only [dropOkI, h1, Bool.false_and, Bool.true_and, Bool.and_true, Bool.and_false, Bool.or_true, Bool.true_or, Bool.false_or, Bool.or_false, Bool.and_self, Bool.or_self]) (.refl _)
  obtain ⟨p1, p2, p3⟩ := fit_facts' h1
  simp (disch := first | assumption | omega | rfl | (refine id ?_; simp only [gxD, ne_eq, reduceCtorEq, not_false_eq_true, Nat.reduceAdd, *]; done) | (refine id ?_; simp only [gxD]; omega)) only [↓gxPre, gxPost, ↓reduceIte, Nat.reduceEqDiff, reduceCtorEq, Nat.reduceAdd]
  refine callR_pure (s_l02Bound_ok A1.rd A1.le (by omega) (by omega)) (.inl rfl) ?_
  cases h2 : boundF xs1 10000000
  · simp (disch := first | assumption | omega | rfl | (refine id ?_; simp only [gxD, ne_eq, reduceCtorEq, not_false_eq_true, Nat.reduceAdd, *]; done) | (refine id ?_; simp only [gxD]; omega)) only [↓gxPre, gxPost, ↓reduceIte, Nat.reduceEqDiff, reduceCtorEq, Nat.reduceAdd]
    exact .no (by simp only [dropOkI, h2, Bool.false_and, Bool.true_and, Bool.and_true, Bool.and_false, Bool.or_true, Bool.true_or, Bool.false_or, Bool.or_false, Bool.and_self, Bool.or_self]) (.refl _)
  simp (disch := first | assumption | omega | rfl | (refine id ?_; simp only [gxD, ne_eq, reduceCtorEq, not_false_eq_true, Nat.reduceAdd, *]; done) | (refine id ?_; simp only [gxD]; omega)) only [↓gxPre, gxPost, ↓reduceIte, Nat.reduceEqDiff, reduceCtorEq, Nat.reduceAdd]
  refine callR_pure (s_l02Bound_ok A2.rd A2.le (by omega) (by omega)) (.inl rfl) ?_
  cases h3 : boundF xs2 10000000
  · simp (disch := first | assumption | omega | rfl | (refine id ?_; simp only [gxD, ne_eq, reduceCtorEq, not_false_eq_true, Nat.reduceAdd, *]; done) | (refine id ?_; simp only [gxD]; omega)) only [↓gxPre, gxPost, ↓reduceIte, Nat.reduceEqDiff, reduceCtorEq, Nat.reduceAdd]
    exact .no (by simp only [dropOkI, h3, Bool.false_and, Bool.true_and, Bool.and_true, Bool.and_false, Bool.or_true, Bool.true_or, Bool.false_or, Bool.or_false, Bool.and_self, Bool.or_self]) (.refl _)
  simp (disch := first | assumption | omega | rfl | (refine id ?_; simp only [gxD, ne_eq, reduceCtorEq, not_false_eq_true, Nat.reduceAdd, *]; done) | (refine id ?_; simp only [gxD]; omega)) only [↓gxPre, gxPost, ↓reduceIte, Nat.reduceEqDiff, reduceCtorEq, Nat.reduceAdd]
  have hod := A2.w
  obtain ⟨f, hf⟩ : ∃ f, f = fun j => wr (xs1.getD j 0 - evenByF a0 xs2 j) := ⟨_, rfl⟩
  refine loop_forH xs1.length (fun i => [.int .i64 a0, v1, v2, .slice (some ⟨H.n, 0, none⟩) i i, .int .i64 i])
    (fun i G => Ext H G ∧ H.n + 1 ≤ G.n ∧ G.blk H.n = some ⟨true, t_int64, ((List.range i).map f).map iv⟩) rfl ⟨⟨by first | omega | (simp only [new_n, put_n]; omega) | (simp only [new_n, put_n] at *; omega), fun i hi => by simp (disch := first | assumption | omega | rfl | (refine id ?_; simp only [gxD, ne_eq, reduceCtorEq, not_false_eq_true, Nat.reduceAdd, *]; done) | (refine id ?_; simp only [gxD]; omega)) only [↓gxPre, gxPost, ↓reduceIte, Nat.reduceEqDiff, reduceCtorEq, Nat.reduceAdd, *]⟩, by simp only [new_n]; omega, by simp (disch := first | assumption | omega | rfl | (refine id ?_; simp only [gxD, ne_eq, reduceCtorEq, not_false_eq_true, Nat.reduceAdd, *]; done) | (refine id ?_; simp only [gxD]; omega)) only [↓gxPre, gxPost, ↓reduceIte, Nat.reduceEqDiff, reduceCtorEq, Nat.reduceAdd]; rfl⟩ ?_ ?_
  rotate_left
  · rintro i G hi ⟨hE, hG, hc⟩
    have hv1 := A1.rd.ext hE
    have hv2 := A2.rd.ext hE
    have l1 : (((List.range i).map f).map iv).length = i := by simp
    have hfi : IntKind.wrap .i64 (xs1.getD i 0 - evenByF a0 xs2 i) = f i := by rw [hf]; rfl
    have hm5 : ((List.range i).map f).map iv ++ [.int .i64 (f i)] = ((List.range (i + 1)).map f).map iv := by rw [iv_snoc', range_snoc]
    obtain ⟨f1, f2, f3, f4⟩ := push_at hE hc (Nat.le_refl _) (by omega) hm5
    simp (disch := first | assumption | omega | rfl | (refine id ?_; simp only [gxD, ne_eq, reduceCtorEq, not_false_eq_true, Nat.reduceAdd, *]; done) | (refine id ?_; simp only [gxD]; omega)) only [↓gxPre, gxPost, ↓reduceIte, Nat.reduceEqDiff, reduceCtorEq, Nat.reduceAdd, hv1.len, hv1.ia, hv1.ld]
    refine callR_pure (s_l02Gain_ok hv2 (by omega) (by omega) hod) (by first | exact .inl rfl | (simp (disch := first | assumption | omega | rfl | (refine id ?_; simp only [gxD, ne_eq, reduceCtorEq, not_false_eq_true, Nat.reduceAdd, *]; done) | (refine id ?_; simp only [gxD]; omega)) only [↓gxPre, gxPost, ↓reduceIte, Nat.reduceEqDiff, reduceCtorEq, Nat.reduceAdd, hv1.ia, hv1.ld]; done)) ?_
    simp (disch := first | assumption | omega | rfl | (refine id ?_; simp only [gxD, ne_eq, reduceCtorEq, not_false_eq_true, Nat.reduceAdd, *]; done) | (refine id ?_; simp only [gxD]; omega)) only [↓gxPre, gxPost, ↓reduceIte, Nat.reduceEqDiff, reduceCtorEq, Nat.reduceAdd, hv1.ia, hv1.ld, hc, hfi]
    exact ⟨by simp, f1, by omega, by rw [hm5]⟩
  rintro G ⟨hE, hG, hc⟩
  obtain ⟨ev, hv⟩ : ∃ ev, ev = dropE a0 xs1 xs2 := ⟨_, rfl⟩
  have lev : ev.length = xs1.length := by rw [hv]; exact dropE_length _ _ _
  have wev : I64 ev := by rw [hv]; exact i64_dropE _ _ _
  have hc2 : G.blk H.n = some ⟨true, t_int64, ev.map iv⟩ := by rw [hc, hv, hf]; rfl
  have hv1 := A1.rd.ext hE
  simp (disch := first | assumption | omega | rfl | (refine id ?_; simp only [gxD, ne_eq, reduceCtorEq, not_false_eq_true, Nat.reduceAdd, *]; done) | (refine id ?_; simp only [gxD]; omega)) only [↓gxPre, gxPost, ↓reduceIte, Nat.reduceEqDiff, reduceCtorEq, Nat.reduceAdd, Int.lt_irrefl, hv1.len]
  obtain ⟨od, hu⟩ : ∃ od, od = dropO a0 ev xs2 := ⟨_, rfl⟩
  have lod : od.length = xs2.length := by rw [hu]; exact dropO_length _ _ _
  have hL : dropI a0 xs1 xs2 = wovL 0 ev od ev.length := by unfold dropI; rw [← hv, ← hu, lev]
  have hwl := wovL_len (d := 0) (ev := ev) (od := od) ev.length
  have hO : dropOkI a0 xs1 xs2 = integersF (wovL 0 ev od ev.length) := by simp only [dropOkI, hL, h0, h1, h2, h3, Bool.false_and, Bool.true_and, Bool.and_true, Bool.and_false, Bool.or_true, Bool.true_or, Bool.false_or, Bool.or_false, Bool.and_self, Bool.or_self]
  rw [hL, hO]
  refine loop_forH ev.length (fun i => [.int .i64 a0, v2, .slice (some ⟨H.n, 0, none⟩) xs1.length xs1.length, .slice (some ⟨G.n, 0, none⟩) (wovL 0 ev od i).length (wovL 0 ev od i).length, .int .i64 i])
    (fun i K => Ext G K ∧ G.n + 1 ≤ K.n ∧ K.blk G.n = some ⟨true, t_int64, (wovL 0 ev od i).map iv⟩) rfl ⟨⟨by first | omega | (simp only [new_n, put_n]; omega) | (simp only [new_n, put_n] at *; omega), fun i hi => by simp (disch := first | assumption | omega | rfl | (refine id ?_; simp only [gxD, ne_eq, reduceCtorEq, not_false_eq_true, Nat.reduceAdd, *]; done) | (refine id ?_; simp only [gxD]; omega)) only [↓gxPre, gxPost, ↓reduceIte, Nat.reduceEqDiff, reduceCtorEq, Nat.reduceAdd, *]⟩, by simp only [new_n]; omega, by simp (disch := first | assumption | omega | rfl | (refine id ?_; simp only [gxD, ne_eq, reduceCtorEq, not_false_eq_true, Nat.reduceAdd, *]; done) | (refine id ?_; simp only [gxD]; omega)) only [↓gxPre, gxPost, ↓reduceIte, Nat.reduceEqDiff, reduceCtorEq, Nat.reduceAdd]; rfl⟩ ?_ ?_
  · rintro K ⟨eK, nK, hw⟩
    have hlt : ¬ ((ev.length : Nat) : Int) < xs1.length := by omega
    simp (disch := first | assumption | omega | rfl | (refine id ?_; simp only [gxD, ne_eq, reduceCtorEq, not_false_eq_true, Nat.reduceAdd, *]; done) | (refine id ?_; simp only [gxD]; omega)) only [↓gxPre, gxPost, ↓reduceIte, Nat.reduceEqDiff, reduceCtorEq, Nat.reduceAdd, hlt]
    refine callR_pure (s_l02Integers_ok (IS.own hw (by omega) rfl) (by omega)) (.inl rfl) ?_
    have hEn := hE.n
    cases hf : integersF (wovL 0 ev od ev.length)
    · simp (disch := first | assumption | omega | rfl | (refine id ?_; simp only [gxD, ne_eq, reduceCtorEq, not_false_eq_true, Nat.reduceAdd, *]; done) | (refine id ?_; simp only [gxD]; omega)) only [↓gxPre, gxPost, ↓reduceIte, Nat.reduceEqDiff, reduceCtorEq, Nat.reduceAdd]
      exact .no rfl (hE.trans eK)
    · simp (disch := first | assumption | omega | rfl | (refine id ?_; simp only [gxD, ne_eq, reduceCtorEq, not_false_eq_true, Nat.reduceAdd, *]; done) | (refine id ?_; simp only [gxD]; omega)) only [↓gxPre, gxPost, ↓reduceIte, Nat.reduceEqDiff, reduceCtorEq, Nat.reduceAdd]
      exact .yes rfl (hE.trans eK) (.mk hw (by simp) (by omega) (by omega) (by omega)) (by omega)
  · rintro i K hi ⟨eK, nK, hw⟩
    have hev := (IS.own (n := xs1.length) hc2 (by omega) lev).ext eK
    have hod' := (A2.rd.ext hE).ext eK
    have hwi := wovL_len (d := 0) (ev := ev) (od := od) i
    have l1 : ((wovL 0 ev od i).map iv).length = (wovL 0 ev od i).length := by rw [lMapI]
    have l2 : ((wovL 0 ev od i).map iv ++ [Value.int .i64 (ev.getD i 0)]).length = (wovL 0 ev od i).length + 1 := by simp
    obtain ⟨f1, f2, f3, f4⟩ := push_at (x := .int .i64 (ev.getD i 0)) eK hw (Nat.le_refl _) (by omega) rfl
    have hev2 := (IS.own (n := xs1.length) hc2 (by omega) lev).ext f1
    have hod2 := (A2.rd.ext hE).ext f1
    have hic : ((i : Nat) : Int) < xs1.length := by omega
    by_cases h2 : i < xs2.length
    · have hc3 : ((i : Nat) : Int) < xs2.length := by omega
      obtain ⟨g1, g2, g3, g4⟩ := push_at (x := .int .i64 (od.getD i 0)) f1 f2 (Nat.le_refl _) (by rw [f3]; omega) rfl
      have hgi : IntKind.wrap .i64 (xs2.getD i 0 + oddByF a0 ev i) = od.getD i 0 := by rw [hu, dropO, getD_range_map h2]; rfl
      have hm5 : (wovL 0 ev od i).map iv ++ [Value.int .i64 (ev.getD i 0)] ++ [Value.int .i64 (od.getD i 0)] = (wovL 0 ev od (i + 1)).map iv := by rw [wovL_both (by omega), iv_snoc', iv_snoc']
      have hl5 : (wovL 0 ev od (i + 1)).length = (wovL 0 ev od i).length + 1 + 1 := by rw [wovL_both (by omega)]; simp
      simp (disch := first | assumption | omega | rfl | (refine id ?_; simp only [gxD, ne_eq, reduceCtorEq, not_false_eq_true, Nat.reduceAdd, *]; done) | (refine id ?_; simp only [gxD]; omega)) only [↓gxPre, gxPost, ↓reduceIte, Nat.reduceEqDiff, reduceCtorEq, Nat.reduceAdd, hev.ia, hev.ld, hod2.len, hw, hod2.ia, hod2.ld, hc3, rd1_at, hic]
      refine callR_pure (s_l02Guess_ok hev2 (by omega) (by omega) wev) (by first | exact .inl rfl | (simp (disch := first | assumption | omega | rfl | (refine id ?_; simp only [gxD, ne_eq, reduceCtorEq, not_false_eq_true, Nat.reduceAdd, *]; done) | (refine id ?_; simp only [gxD]; omega)) only [↓gxPre, gxPost, ↓reduceIte, Nat.reduceEqDiff, reduceCtorEq, Nat.reduceAdd, hod2.ia, hod2.ld]; done)) ?_
      simp (disch := first | assumption | omega | rfl | (refine id ?_; simp only [gxD, ne_eq, reduceCtorEq, not_false_eq_true, Nat.reduceAdd, *]; done) | (refine id ?_; simp only [gxD]; omega)) only [↓gxPre, gxPost, ↓reduceIte, Nat.reduceEqDiff, reduceCtorEq, Nat.reduceAdd, hod2.ia, hod2.ld, hw, rd1_at, hgi]
      refine ⟨by rw [hl5]; simp, g1, by omega, ?_⟩
      rw [← hm5]
    · have hc3 : ¬ ((i : Nat) : Int) < xs2.length := by omega
      have hm5 : (wovL 0 ev od i).map iv ++ [Value.int .i64 (ev.getD i 0)] = (wovL 0 ev od (i + 1)).map iv := by rw [wovL_one (by omega), iv_snoc']
      have hl5 : (wovL 0 ev od (i + 1)).length = (wovL 0 ev od i).length + 1 := by rw [wovL_one (by omega)]; simp
      simp (disch := first | assumption | omega | rfl | (refine id ?_; simp only [gxD, ne_eq, reduceCtorEq, not_false_eq_true, Nat.reduceAdd, *]; done) | (refine id ?_; simp only [gxD]; omega)) only [↓gxPre, gxPost, ↓reduceIte, Nat.reduceEqDiff, reduceCtorEq, Nat.reduceAdd, hev.ia, hev.ld, hod2.len, hw, hc3, hic]
      refine ⟨by rw [hl5]; simp, f1, by omega, ?_⟩
      rw [← hm5]
end Go.Proofs.Ytkojmlpaamdhoae
