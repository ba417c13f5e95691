/- The law FnExactRippleKernel, walked: it returns true. -/
import Derived.Test.YtkojmlpaamdhoaeRippleKernelXWToYE
namespace Go.Proofs.Ytkojmlpaamdhoae
open Go.Gx
set_option maxRecDepth 100000
set_option linter.unusedSimpArgs false
set_option linter.unusedVariables false
set_option maxHeartbeats 2000000
theorem w_FnExactRippleKernel_ok {H : Heap} {a0 : Nat} (b0 : a0 < 2 ^ 32) : ACalls Try.prog n_w_FnExactRippleKernel [.float .f32 a0] H fun r H' => r = .bool true := by
  refine k_w_FnExactRippleKernel.run rfl ?_
  unfold c_w_FnExactRippleKernel
  have E : Ext H H := Ext.refl H
  simp (disch := first | assumption | omega | rfl | (refine id ?_; simp only [gxD, ne_eq, reduceCtorEq, not_false_eq_true, Nat.reduceAdd, *]; done) | (refine id ?_; simp only [gxD]; omega)) only [↓gxPre, gxPost, ↓reduceIte, Nat.reduceEqDiff, reduceCtorEq, Nat.reduceAdd]
  refine callR_of (s_RippleKernel_law b0) ?_
  rintro _ H1 ⟨e1, y1, rfl, o1, q1⟩
  have n1 := e1.n
  replace E := E.trans e1
  simp (disch := first | assumption | omega | rfl | (refine id ?_; simp only [gxD, ne_eq, reduceCtorEq, not_false_eq_true, Nat.reduceAdd, *]; done) | (refine id ?_; simp only [gxD]; omega)) only [↓gxPre, gxPost, ↓reduceIte, Nat.reduceEqDiff, reduceCtorEq, Nat.reduceAdd]
  refine callR_of (i_RippleKernel_law b0) ?_
  rintro _ H2 ⟨e2, y2, rfl, o2, q2⟩
  have n2 := e2.n
  replace o1 := o1.ext e2
  replace E := E.trans e2
  simp (disch := first | assumption | omega | rfl | (refine id ?_; simp only [gxD, ne_eq, reduceCtorEq, not_false_eq_true, Nat.reduceAdd, *]; done) | (refine id ?_; simp only [gxD]; omega)) only [↓gxPre, gxPost, ↓reduceIte, Nat.reduceEqDiff, reduceCtorEq, Nat.reduceAdd]
  refine callR_ext (w_eqComplex64S_ow o2.sl o1.sl q2) ?_
  intro H3 n3 bb3
  have e3 : Ext H2 H3 := ⟨n3, bb3⟩
  replace o1 := o1.ext e3
  replace o2 := o2.ext e3
  replace E := E.trans e3
  simp (disch := first | assumption | omega | rfl | (refine id ?_; simp only [gxD, ne_eq, reduceCtorEq, not_false_eq_true, Nat.reduceAdd, *]; done) | (refine id ?_; simp only [gxD]; omega)) only [↓gxPre, gxPost, ↓reduceIte, Nat.reduceEqDiff, reduceCtorEq, Nat.reduceAdd, ne_eq, not_true]
  refine callR_of (w_markComplex64S_ow o2 (by first | omega | (simp only [List.length_map, List.length_range]; omega)) (by first | omega | (simp only [List.length_map, List.length_range]; omega)) (by first | omega | (simp only [List.length_map, List.length_range]; omega))) ?_
  rintro _ H4 ⟨rfl, p4, g4⟩
  have f4 := g4.off o2
  have n4 := f4.n
  replace o2 := p4
  replace o1 := o1.off f4 (by omega)
  replace E := E.mark f4 (by omega)
  simp (disch := first | assumption | omega | rfl | (refine id ?_; simp only [gxD, ne_eq, reduceCtorEq, not_false_eq_true, Nat.reduceAdd, *]; done) | (refine id ?_; simp only [gxD]; omega)) only [↓gxPre, gxPost, ↓reduceIte, Nat.reduceEqDiff, reduceCtorEq, Nat.reduceAdd, ne_eq, not_true]
  refine callR_ext (w_heldComplex64S_ow o2 (by first | omega | (simp only [List.length_map, List.length_range]; omega)) (by first | omega | (simp only [List.length_map, List.length_range]; omega)) (by first | omega | (simp only [List.length_map, List.length_range]; omega))) ?_
  intro H5 n5 bb5
  have e5 : Ext H4 H5 := ⟨n5, bb5⟩
  replace o1 := o1.ext e5
  replace o2 := o2.ext e5
  replace E := E.trans e5
  simp (disch := first | assumption | omega | rfl | (refine id ?_; simp only [gxD, ne_eq, reduceCtorEq, not_false_eq_true, Nat.reduceAdd, *]; done) | (refine id ?_; simp only [gxD]; omega)) only [↓gxPre, gxPost, ↓reduceIte, Nat.reduceEqDiff, reduceCtorEq, Nat.reduceAdd, ne_eq, not_true]
  refine callR_of (i_RippleKernel_law b0) ?_
  rintro _ H6 ⟨e6, y6, rfl, o6, q6⟩
  have n6 := e6.n
  replace o1 := o1.ext e6
  replace o2 := o2.ext e6
  replace E := E.trans e6
  simp (disch := first | assumption | omega | rfl | (refine id ?_; simp only [gxD, ne_eq, reduceCtorEq, not_false_eq_true, Nat.reduceAdd, *]; done) | (refine id ?_; simp only [gxD]; omega)) only [↓gxPre, gxPost, ↓reduceIte, Nat.reduceEqDiff, reduceCtorEq, Nat.reduceAdd]
  refine callR_ext (w_eqComplex64S_ow o6.sl o1.sl q6) ?_
  intro H7 n7 bb7
  have e7 : Ext H6 H7 := ⟨n7, bb7⟩
  replace o1 := o1.ext e7
  replace o2 := o2.ext e7
  replace o6 := o6.ext e7
  replace E := E.trans e7
  simp (disch := first | assumption | omega | rfl | (refine id ?_; simp only [gxD, ne_eq, reduceCtorEq, not_false_eq_true, Nat.reduceAdd, *]; done) | (refine id ?_; simp only [gxD]; omega)) only [↓gxPre, gxPost, ↓reduceIte, Nat.reduceEqDiff, reduceCtorEq, Nat.reduceAdd, ne_eq, not_true]
  refine callR_ext (w_heldComplex64S_ow o2 (by first | omega | (simp only [List.length_map, List.length_range]; omega)) (by first | omega | (simp only [List.length_map, List.length_range]; omega)) (by first | omega | (simp only [List.length_map, List.length_range]; omega))) ?_
  intro H8 n8 bb8
  have e8 : Ext H7 H8 := ⟨n8, bb8⟩
  replace o1 := o1.ext e8
  replace o2 := o2.ext e8
  replace o6 := o6.ext e8
  replace E := E.trans e8
  simp (disch := first | assumption | omega | rfl | (refine id ?_; simp only [gxD, ne_eq, reduceCtorEq, not_false_eq_true, Nat.reduceAdd, *]; done) | (refine id ?_; simp only [gxD]; omega)) only [↓gxPre, gxPost, ↓reduceIte, Nat.reduceEqDiff, reduceCtorEq, Nat.reduceAdd, ne_eq, not_true]
end Go.Proofs.Ytkojmlpaamdhoae
