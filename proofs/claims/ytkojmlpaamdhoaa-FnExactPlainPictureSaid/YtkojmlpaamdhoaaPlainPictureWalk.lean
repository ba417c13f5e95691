/- The law FnExactPlainPicture, walked: it returns true. -/
import Derived.Test.YtkojmlpaamdhoaaPlainPictureM
namespace Go.Proofs.Ytkojmlpaamdhoaa
open Go.Gx
set_option maxRecDepth 100000
set_option linter.unusedSimpArgs false
set_option linter.unusedVariables false
theorem w_FnExactPlainPicture_ok {H : Heap} {a0 : Int} (b0 : -9223372036854775808 ≤ a0 ∧ a0 ≤ 9223372036854775807) {a1 : Int} (b1 : -9223372036854775808 ≤ a1 ∧ a1 ≤ 9223372036854775807) {a2 : Nat} (b2 : a2 < 2 ^ 32) : ACalls Try.prog n_w_FnExactPlainPicture [.int .i64 a0, .int .i64 a1, .float .f32 a2] H fun r H' => r = .bool true := by
  refine k_w_FnExactPlainPicture.run rfl ?_
  unfold c_w_FnExactPlainPicture
  have E : Ext H H := Ext.refl H
  simp (disch := first | assumption | omega | rfl | (refine id ?_; simp only [gxD, ne_eq, reduceCtorEq, not_false_eq_true, Nat.reduceAdd, *]; done) | (refine id ?_; simp only [gxD]; omega)) only [↓gxPre, gxPost, ↓reduceIte, Nat.reduceEqDiff, reduceCtorEq, Nat.reduceAdd]
  refine callR_of (s_PlainPicture_law b0 b1 b2) ?_
  rintro _ H1 ⟨e1, y1, rfl, o1, q1⟩
  have n1 := e1.n
  replace E := E.trans e1
  have v1o := o1.one
  simp (disch := first | assumption | omega | rfl | (refine id ?_; simp only [gxD, ne_eq, reduceCtorEq, not_false_eq_true, Nat.reduceAdd, *]; done) | (refine id ?_; simp only [gxD]; omega)) only [↓gxPre, gxPost, ↓reduceIte, Nat.reduceEqDiff, reduceCtorEq, Nat.reduceAdd]
  refine callR_new ?_
  intro G1 e1g b1g n1g
  replace o1 := o1.ext e1g
  replace E := E.trans e1g
  refine callR_of (i_PlainPicture_law b0 b1 b2) ?_
  rintro _ H2 ⟨e2, y2, rfl, o2, q2⟩
  have n2 := e2.n
  replace b1g := (e2.blk _ (by omega)).trans b1g
  replace o1 := o1.ext e2
  replace E := E.trans e2
  have v2o := o2.one
  simp (disch := first | assumption | omega | rfl | (refine id ?_; simp only [gxD, ne_eq, reduceCtorEq, not_false_eq_true, Nat.reduceAdd, *]; done) | (refine id ?_; simp only [gxD]; omega)) only [↓gxPre, gxPost, ↓reduceIte, Nat.reduceEqDiff, reduceCtorEq, Nat.reduceAdd, b1g]
  refine callR_new ?_
  intro G2 e2g b2g n2g
  replace b1g := (e2g.blk _ (by omega)).trans b1g
  replace o1 := o1.ext e2g
  replace o2 := o2.ext e2g
  replace E := E.trans e2g
  refine callR_ext (w_eqPicture_ow o2.fs o1.fs q2) ?_
  intro H3 n3 bb3
  have e3 : Ext G2 H3 := ⟨n3, bb3⟩
  replace b1g := (e3.blk _ (by omega)).trans b1g
  replace b2g := (e3.blk _ (by omega)).trans b2g
  replace o1 := o1.ext e3
  replace o2 := o2.ext e3
  replace E := E.trans e3
  simp (disch := first | assumption | omega | rfl | (refine id ?_; simp only [gxD, ne_eq, reduceCtorEq, not_false_eq_true, Nat.reduceAdd, *]; done) | (refine id ?_; simp only [gxD]; omega)) only [↓gxPre, gxPost, ↓reduceIte, Nat.reduceEqDiff, reduceCtorEq, Nat.reduceAdd, b1g, b2g, ne_eq, not_true]
  refine callR_of (w_markPicture_ow o2 (by omega) (by omega) (by first | omega | (simp only [List.length_map, List.length_range]; omega))) ?_
  rintro _ H4 ⟨rfl, p4, f4⟩
  have n4 := f4.n
  replace o2 := p4
  replace b1g := (f4.blk _ (by omega) (by omega)).trans b1g
  replace b2g := (f4.blk _ (by omega) (by omega)).trans b2g
  replace o1 := o1.off f4 (by omega)
  replace E := E.mark f4 (by omega)
  simp (disch := first | assumption | omega | rfl | (refine id ?_; simp only [gxD, ne_eq, reduceCtorEq, not_false_eq_true, Nat.reduceAdd, *]; done) | (refine id ?_; simp only [gxD]; omega)) only [↓gxPre, gxPost, ↓reduceIte, Nat.reduceEqDiff, reduceCtorEq, Nat.reduceAdd, b1g, b2g, ne_eq, not_true]
  refine callR_ext (w_heldPicture_ow o2 (by omega) (by omega) (by first | omega | (simp only [List.length_map, List.length_range]; omega))) ?_
  intro H5 n5 bb5
  have e5 : Ext H4 H5 := ⟨n5, bb5⟩
  replace b1g := (e5.blk _ (by omega)).trans b1g
  replace b2g := (e5.blk _ (by omega)).trans b2g
  replace o1 := o1.ext e5
  replace o2 := o2.ext e5
  replace E := E.trans e5
  simp (disch := first | assumption | omega | rfl | (refine id ?_; simp only [gxD, ne_eq, reduceCtorEq, not_false_eq_true, Nat.reduceAdd, *]; done) | (refine id ?_; simp only [gxD]; omega)) only [↓gxPre, gxPost, ↓reduceIte, Nat.reduceEqDiff, reduceCtorEq, Nat.reduceAdd, b1g, b2g, ne_eq, not_true]
  refine callR_of (i_PlainPicture_law b0 b1 b2) ?_
  rintro _ H6 ⟨e6, y6, rfl, o6, q6⟩
  have n6 := e6.n
  replace b1g := (e6.blk _ (by omega)).trans b1g
  replace b2g := (e6.blk _ (by omega)).trans b2g
  replace o1 := o1.ext e6
  replace o2 := o2.ext e6
  replace E := E.trans e6
  have v6o := o6.one
  simp (disch := first | assumption | omega | rfl | (refine id ?_; simp only [gxD, ne_eq, reduceCtorEq, not_false_eq_true, Nat.reduceAdd, *]; done) | (refine id ?_; simp only [gxD]; omega)) only [↓gxPre, gxPost, ↓reduceIte, Nat.reduceEqDiff, reduceCtorEq, Nat.reduceAdd, b1g, b2g]
  refine callR_new ?_
  intro G6 e6g b6g n6g
  replace b1g := (e6g.blk _ (by omega)).trans b1g
  replace b2g := (e6g.blk _ (by omega)).trans b2g
  replace o1 := o1.ext e6g
  replace o2 := o2.ext e6g
  replace o6 := o6.ext e6g
  replace E := E.trans e6g
  refine callR_ext (w_eqPicture_ow o6.fs o1.fs q6) ?_
  intro H7 n7 bb7
  have e7 : Ext G6 H7 := ⟨n7, bb7⟩
  replace b1g := (e7.blk _ (by omega)).trans b1g
  replace b2g := (e7.blk _ (by omega)).trans b2g
  replace b6g := (e7.blk _ (by omega)).trans b6g
  replace o1 := o1.ext e7
  replace o2 := o2.ext e7
  replace o6 := o6.ext e7
  replace E := E.trans e7
  simp (disch := first | assumption | omega | rfl | (refine id ?_; simp only [gxD, ne_eq, reduceCtorEq, not_false_eq_true, Nat.reduceAdd, *]; done) | (refine id ?_; simp only [gxD]; omega)) only [↓gxPre, gxPost, ↓reduceIte, Nat.reduceEqDiff, reduceCtorEq, Nat.reduceAdd, b1g, b2g, b6g, ne_eq, not_true]
  refine callR_ext (w_heldPicture_ow o2 (by omega) (by omega) (by first | omega | (simp only [List.length_map, List.length_range]; omega))) ?_
  intro H8 n8 bb8
  have e8 : Ext H7 H8 := ⟨n8, bb8⟩
  replace b1g := (e8.blk _ (by omega)).trans b1g
  replace b2g := (e8.blk _ (by omega)).trans b2g
  replace b6g := (e8.blk _ (by omega)).trans b6g
  replace o1 := o1.ext e8
  replace o2 := o2.ext e8
  replace o6 := o6.ext e8
  replace E := E.trans e8
  simp (disch := first | assumption | omega | rfl | (refine id ?_; simp only [gxD, ne_eq, reduceCtorEq, not_false_eq_true, Nat.reduceAdd, *]; done) | (refine id ?_; simp only [gxD]; omega)) only [↓gxPre, gxPost, ↓reduceIte, Nat.reduceEqDiff, reduceCtorEq, Nat.reduceAdd, b1g, b2g, b6g, ne_eq, not_true]
end Go.Proofs.Ytkojmlpaamdhoaa
