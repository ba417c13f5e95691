/- The laws' helpers, over lists of lists. -/
import Derived.Test.YtkojmlpaamdhoacFrameOfG
namespace Go.Proofs.Ytkojmlpaamdhoac
open Go.Gx
set_option maxRecDepth 100000
set_option linter.unusedSimpArgs false
set_option linter.unusedVariables false

theorem w_eqFloat32SS_ow {H : Heap} {v u : Value} {xss : List (List Nat)} (hv : SS H v xss) (hu : SS H u xss) (hn : totL xss ≤ 2 ^ 40) :
    ACalls Try.prog n_w_eqFloat32SS [v, u] H fun r H' => r = .bool true ∧ Ext H H' := by
  refine acalls_ext ?_
  obtain ⟨vs, hv, hvl, hvs⟩ := hv
  obtain ⟨us, hu, hul, hus⟩ := hu
  have hx : xss.length ≤ 2 ^ 40 := by unfold totL at hn; omega
  refine k_w_eqFloat32SS.run rfl ?_
  unfold c_w_eqFloat32SS
  ((try simp (disch := first | assumption | omega | rfl | (refine id ?_; simp only [gxD, ne_eq, reduceCtorEq, not_false_eq_true, Nat.reduceAdd, *]; done) | (refine id ?_; simp only [gxD]; omega)) only [↓gxPre, gxPost, ↓reduceIte, Nat.reduceEqDiff, reduceCtorEq, Nat.reduceAdd, hv.len, hu.len, hvl, hul, ne_eq, not_true, not_false_eq_true, *]); repeat' (first | (refine grdR_split (fun _ => ?_) (fun _ => ?_) <;> simp (disch := first | assumption | omega | rfl | (refine id ?_; simp only [gxD, ne_eq, reduceCtorEq, not_false_eq_true, Nat.reduceAdd, *]; done) | (refine id ?_; simp only [gxD]; omega)) only [↓gxPre, gxPost, ↓reduceIte, Nat.reduceEqDiff, reduceCtorEq, Nat.reduceAdd, hv.len, hu.len, hvl, hul, ne_eq, not_true, not_false_eq_true, *]) | (refine condR_split (fun _ => ?_) (fun _ => ?_) <;> simp (disch := first | assumption | omega | rfl | (refine id ?_; simp only [gxD, ne_eq, reduceCtorEq, not_false_eq_true, Nat.reduceAdd, *]; done) | (refine id ?_; simp only [gxD]; omega)) only [↓gxPre, gxPost, ↓reduceIte, Nat.reduceEqDiff, reduceCtorEq, Nat.reduceAdd, hv.len, hu.len, hvl, hul, ne_eq, not_true, not_false_eq_true, *])))
  refine loop_for xss.length (fun i => [v, u, .int .i64 i]) rfl ?_ ?_
  · ((try simp (disch := first | assumption | omega | rfl | (refine id ?_; simp only [gxD, ne_eq, reduceCtorEq, not_false_eq_true, Nat.reduceAdd, *]; done) | (refine id ?_; simp only [gxD]; omega)) only [↓gxPre, gxPost, ↓reduceIte, Nat.reduceEqDiff, reduceCtorEq, Nat.reduceAdd, hv.len, hu.len, hvl, hul, Int.lt_irrefl, *]); repeat' (first | (refine grdR_split (fun _ => ?_) (fun _ => ?_) <;> simp (disch := first | assumption | omega | rfl | (refine id ?_; simp only [gxD, ne_eq, reduceCtorEq, not_false_eq_true, Nat.reduceAdd, *]; done) | (refine id ?_; simp only [gxD]; omega)) only [↓gxPre, gxPost, ↓reduceIte, Nat.reduceEqDiff, reduceCtorEq, Nat.reduceAdd, hv.len, hu.len, hvl, hul, Int.lt_irrefl, *]) | (refine condR_split (fun _ => ?_) (fun _ => ?_) <;> simp (disch := first | assumption | omega | rfl | (refine id ?_; simp only [gxD, ne_eq, reduceCtorEq, not_false_eq_true, Nat.reduceAdd, *]; done) | (refine id ?_; simp only [gxD]; omega)) only [↓gxPre, gxPost, ↓reduceIte, Nat.reduceEqDiff, reduceCtorEq, Nat.reduceAdd, hv.len, hu.len, hvl, hul, Int.lt_irrefl, *])))
  · intro i hi
    ((try simp (disch := first | assumption | omega | rfl | (refine id ?_; simp only [gxD, ne_eq, reduceCtorEq, not_false_eq_true, Nat.reduceAdd, *]; done) | (refine id ?_; simp only [gxD]; omega)) only [↓gxPre, gxPost, ↓reduceIte, Nat.reduceEqDiff, reduceCtorEq, Nat.reduceAdd, hv.len, hu.len, hvl, hul, hv.ia, hu.ia, hv.ldD, hu.ldD, *]); repeat' (first | (refine grdR_split (fun _ => ?_) (fun _ => ?_) <;> simp (disch := first | assumption | omega | rfl | (refine id ?_; simp only [gxD, ne_eq, reduceCtorEq, not_false_eq_true, Nat.reduceAdd, *]; done) | (refine id ?_; simp only [gxD]; omega)) only [↓gxPre, gxPost, ↓reduceIte, Nat.reduceEqDiff, reduceCtorEq, Nat.reduceAdd, hv.len, hu.len, hvl, hul, hv.ia, hu.ia, hv.ldD, hu.ldD, *]) | (refine condR_split (fun _ => ?_) (fun _ => ?_) <;> simp (disch := first | assumption | omega | rfl | (refine id ?_; simp only [gxD, ne_eq, reduceCtorEq, not_false_eq_true, Nat.reduceAdd, *]; done) | (refine id ?_; simp only [gxD]; omega)) only [↓gxPre, gxPost, ↓reduceIte, Nat.reduceEqDiff, reduceCtorEq, Nat.reduceAdd, hv.len, hu.len, hvl, hul, hv.ia, hu.ia, hv.ldD, hu.ldD, *]) | (refine callR_pure (w_eqFloat32S_ok (hvs i hi) (hus i hi) (totL_row hn i)) (by first | exact Or.inl rfl | (simp (disch := first | assumption | omega | rfl | (refine id ?_; simp only [gxD, ne_eq, reduceCtorEq, not_false_eq_true, Nat.reduceAdd, *]; done) | (refine id ?_; simp only [gxD]; omega)) only [↓gxPre, gxPost, ↓reduceIte, Nat.reduceEqDiff, reduceCtorEq, Nat.reduceAdd, hv.len, hu.len, hvl, hul, hv.ia, hu.ia, hv.ldD, hu.ldD, *]; done)) ?_; simp (disch := first | assumption | omega | rfl | (refine id ?_; simp only [gxD, ne_eq, reduceCtorEq, not_false_eq_true, Nat.reduceAdd, *]; done) | (refine id ?_; simp only [gxD]; omega)) only [↓gxPre, gxPost, ↓reduceIte, Nat.reduceEqDiff, reduceCtorEq, Nat.reduceAdd, hv.len, hu.len, hvl, hul, hv.ia, hu.ia, hv.ldD, hu.ldD, *])))
    all_goals simp
theorem w_markFloat32SS_fam {lo hi : Nat} {H : Heap} {v : Value} {vs : List Value} {ls : List (List Value)} {k : Int} (ov : OwL lo hi H t_sfloat32 v vs) (on : OwN lo hi H t_float32 vs ls) (h0 : 0 ≤ k) (h1 : k ≤ 2 ^ 60) (hn : totL ls ≤ 2 ^ 41) :
    ACalls Try.prog n_w_markFloat32SS [v, .int .i64 k] H fun r H' => r = .int .i64 (k + (offN ls ls.length : Nat)) ∧ OwL lo hi H' t_sfloat32 v vs ∧ OwN lo hi H' t_float32 vs (marked markF k ls ls.length) ∧ Off lo hi H H' ∧ H'.n = H.n ∧
      ∀ h, (∀ i, i < ls.length → hdl (vs.getD i undef) ≠ some h) → H'.blk h = H.blk h := by
  have hvl : vs.length = ls.length := on.1
  refine k_w_markFloat32SS.run rfl ?_
  unfold c_w_markFloat32SS
  have hx : ls.length ≤ 2 ^ 41 := by unfold totL at hn; omega
  simp (disch := first | assumption | omega | rfl | (refine id ?_; simp only [gxD, ne_eq, reduceCtorEq, not_false_eq_true, Nat.reduceAdd, *]; done) | (refine id ?_; simp only [gxD]; omega)) only [↓gxPre, gxPost, ↓reduceIte, Nat.reduceEqDiff, reduceCtorEq, Nat.reduceAdd]
  refine loop_forH ls.length (fun i => [v, .int .i64 (k + (offN ls i : Nat)), .int .i64 i])
    (fun i H' => Off lo hi H H' ∧ OwL lo hi H' t_sfloat32 v vs ∧ OwN lo hi H' t_float32 vs (marked markF k ls i) ∧ H'.n = H.n ∧ ∀ h, (∀ i, i < ls.length → hdl (vs.getD i undef) ≠ some h) → H'.blk h = H.blk h)
    (by simp [offN_zero]) ⟨.refl _ _ _, ov, by rw [marked_zero]; exact on, rfl, fun _ _ => rfl⟩ ?_ ?_
  · rintro G ⟨hF, ov, on, hN, hB⟩
    simp (disch := first | assumption | omega | rfl | (refine id ?_; simp only [gxD, ne_eq, reduceCtorEq, not_false_eq_true, Nat.reduceAdd, *]; done) | (refine id ?_; simp only [gxD]; omega)) only [↓gxPre, gxPost, ↓reduceIte, Nat.reduceEqDiff, reduceCtorEq, Nat.reduceAdd, ov.sl.len, hvl, Int.lt_irrefl]
    exact ⟨ov, on, hF, hN, hB⟩
  · rintro i G hlt ⟨hF, ov, on, hN, hB⟩
    have hrow := offN_row (ls := ls) hlt
    have hri := totL_row hn i
    have hto : offN ls ls.length ≤ 2 ^ 41 := by unfold totL at hn; omega
    simp (disch := first | assumption | omega | rfl | (refine id ?_; simp only [gxD, ne_eq, reduceCtorEq, not_false_eq_true, Nat.reduceAdd, *]; done) | (refine id ?_; simp only [gxD]; omega)) only [↓gxPre, gxPost, ↓reduceIte, Nat.reduceEqDiff, reduceCtorEq, Nat.reduceAdd, ov.sl.len, hvl, ov.sl.ia, ov.sl.ldD]
    have hi' : i < (marked markF k ls i).length := by rw [marked_length]; exact hlt
    have oi : OwL lo hi G t_float32 (vs.getD i undef) (ls.getD i []) := by
      have := on.2.1 i hi'
      rwa [marked_getD hlt, if_neg (Nat.lt_irrefl i)] at this
    refine callR_of (w_markFloat32S_ow oi (by omega) (by omega) (by omega)) ?_
    rintro _ G' ⟨rfl, p, f⟩
    simp (disch := first | assumption | omega | rfl | (refine id ?_; simp only [gxD, ne_eq, reduceCtorEq, not_false_eq_true, Nat.reduceAdd, *]; done) | (refine id ?_; simp only [gxD]; omega)) only [↓gxPre, gxPost, ↓reduceIte, Nat.reduceEqDiff, reduceCtorEq, Nat.reduceAdd]
    refine ⟨?_, hF.trans (f.off oi), on.outer ov (by decide) hi' f, ?_, f.n.trans hN, fun h hh => (f.blk h (hh i hlt)).trans (hB h hh)⟩
    · rw [offN_succ hlt]
      simp; omega
    · have := on.set hi' f p
      rwa [marked_set hlt] at this
theorem w_markFloat32SS_ow {lo hi : Nat} {H : Heap} {v : Value} {ls : List (List Value)} {k : Int} (o : OwS lo hi H t_sfloat32 t_float32 v ls) (h0 : 0 ≤ k) (h1 : k ≤ 2 ^ 60) (hn : totL ls ≤ 2 ^ 41) :
    ACalls Try.prog n_w_markFloat32SS [v, .int .i64 k] H fun r H' => r = .int .i64 (k + (offN ls ls.length : Nat)) ∧ OwS lo hi H' t_sfloat32 t_float32 v (marked markF k ls ls.length) ∧ Off lo hi H H' := by
  obtain ⟨vs, ov, on⟩ := o
  refine (w_markFloat32SS_fam ov on h0 h1 hn).mono ?_
  rintro _ H' ⟨rfl, a, b, c, _⟩
  exact ⟨rfl, ⟨vs, a, b⟩, c⟩
theorem w_heldFloat32SS_ow {lo hi : Nat} {H : Heap} {v : Value} {ls : List (List Value)} {k : Int} (o : OwS lo hi H t_sfloat32 t_float32 v (marked markF k ls ls.length)) (h0 : 0 ≤ k) (h1 : k ≤ 2 ^ 60) (hn : totL ls ≤ 2 ^ 41) :
    ACalls Try.prog n_w_heldFloat32SS [v, .int .i64 k] H fun r H' => r = .int .i64 (k + (offN ls ls.length : Nat)) ∧ Ext H H' := by
  obtain ⟨vs, ov, on⟩ := o
  have hvl : vs.length = ls.length := on.1.trans (marked_length _)
  refine k_w_heldFloat32SS.run rfl ?_
  unfold c_w_heldFloat32SS
  have hx : ls.length ≤ 2 ^ 41 := by unfold totL at hn; omega
  simp (disch := first | assumption | omega | rfl | (refine id ?_; simp only [gxD, ne_eq, reduceCtorEq, not_false_eq_true, Nat.reduceAdd, *]; done) | (refine id ?_; simp only [gxD]; omega)) only [↓gxPre, gxPost, ↓reduceIte, Nat.reduceEqDiff, reduceCtorEq, Nat.reduceAdd]
  refine loop_forH ls.length (fun i => [v, .int .i64 (k + (offN ls i : Nat)), .int .i64 i]) (fun i H' => Ext H H') (by simp [offN_zero]) (.refl _) ?_ ?_
  · rintro G hE
    have ov' := ov.ext hE
    simp (disch := first | assumption | omega | rfl | (refine id ?_; simp only [gxD, ne_eq, reduceCtorEq, not_false_eq_true, Nat.reduceAdd, *]; done) | (refine id ?_; simp only [gxD]; omega)) only [↓gxPre, gxPost, ↓reduceIte, Nat.reduceEqDiff, reduceCtorEq, Nat.reduceAdd, ov'.sl.len, hvl, Int.lt_irrefl]
    exact hE
  · rintro i G hlt hE
    have hrow := offN_row (ls := ls) hlt
    have hri := totL_row hn i
    have hto : offN ls ls.length ≤ 2 ^ 41 := by unfold totL at hn; omega
    have ov' := ov.ext hE
    simp (disch := first | assumption | omega | rfl | (refine id ?_; simp only [gxD, ne_eq, reduceCtorEq, not_false_eq_true, Nat.reduceAdd, *]; done) | (refine id ?_; simp only [gxD]; omega)) only [↓gxPre, gxPost, ↓reduceIte, Nat.reduceEqDiff, reduceCtorEq, Nat.reduceAdd, ov'.sl.len, hvl, ov'.sl.ia, ov'.sl.ldD]
    have oi : OwL lo hi G t_float32 (vs.getD i undef) ((List.range (ls.getD i []).length).map (markF (k + (offN ls i : Nat)))) := by
      have := (on.ext hE).2.1 i (by rw [marked_length]; exact hlt)
      rwa [marked_getD hlt, if_pos hlt] at this
    refine callR_of (w_heldFloat32S_ow oi (by omega) (by omega) (by omega)) ?_
    rintro _ G' ⟨rfl, e⟩
    have hk : ¬ (k + (offN ls i : Nat) + ((ls.getD i []).length : Nat) < 0) := by omega
    simp (disch := first | assumption | omega | rfl | (refine id ?_; simp only [gxD, ne_eq, reduceCtorEq, not_false_eq_true, Nat.reduceAdd, *]; done) | (refine id ?_; simp only [gxD]; omega)) only [↓gxPre, gxPost, ↓reduceIte, Nat.reduceEqDiff, reduceCtorEq, Nat.reduceAdd, hk]
    refine ⟨?_, hE.trans e⟩
    rw [offN_succ hlt]
    simp; omega
end Go.Proofs.Ytkojmlpaamdhoac
