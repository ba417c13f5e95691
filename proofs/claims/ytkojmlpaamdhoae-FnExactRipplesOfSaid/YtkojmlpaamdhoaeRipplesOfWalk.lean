/- The law FnExactRipplesOf, walked: it returns true. -/
import Derived.Test.YtkojmlpaamdhoaeRipplesOfYCToYF
namespace Go.Proofs.Ytkojmlpaamdhoae
open Go.Gx
set_option maxRecDepth 100000
set_option linter.unusedSimpArgs false
set_option linter.unusedVariables false
set_option maxHeartbeats 2000000
theorem w_FnExactRipplesOf_ok {H : Heap} {v0 : Value} {xs0 : List Nat} (hv0 : FS H v0 xs0) (hw0 : W32 xs0) (hl0 : xs0.length ≤ 9223372036854775807) {a1 : Nat} (b1 : a1 < 2 ^ 32) : ACalls Try.prog n_w_FnExactRipplesOf [v0, .float .f32 a1] H fun r H' => r = .bool true := by
  refine k_w_FnExactRipplesOf.run rfl ?_
  unfold c_w_FnExactRipplesOf
  have E : Ext H H := Ext.refl H
  have one0 := hv0.one
  simp (disch := first | assumption | omega | rfl | (refine id ?_; simp only [gxD, ne_eq, reduceCtorEq, not_false_eq_true, Nat.reduceAdd, *]; done) | (refine id ?_; simp only [gxD]; omega)) only [↓gxPre, gxPost, ↓reduceIte, Nat.reduceEqDiff, reduceCtorEq, Nat.reduceAdd]
  by_cases s1 : (1048576 : Int) < xs0.length
  · simp (disch := first | assumption | omega | rfl | (refine id ?_; simp only [gxD, ne_eq, reduceCtorEq, not_false_eq_true, Nat.reduceAdd, *]; done) | (refine id ?_; simp only [gxD]; omega)) only [↓gxPre, gxPost, ↓reduceIte, Nat.reduceEqDiff, reduceCtorEq, Nat.reduceAdd, hv0.len, s1]
  simp (disch := first | assumption | omega | rfl | (refine id ?_; simp only [gxD, ne_eq, reduceCtorEq, not_false_eq_true, Nat.reduceAdd, *]; done) | (refine id ?_; simp only [gxD]; omega)) only [↓gxPre, gxPost, ↓reduceIte, Nat.reduceEqDiff, reduceCtorEq, Nat.reduceAdd, hv0.len, s1]
  have m0 : xs0.length ≤ 2 ^ 40 := by omega
  refine callR_of (w_toFloat32S_ow (hv0.ext E) m0) ?_
  rintro y1 H1 ⟨e1, o1⟩
  have n1 := e1.n
  replace E := E.trans e1
  simp (disch := first | assumption | omega | rfl | (refine id ?_; simp only [gxD, ne_eq, reduceCtorEq, not_false_eq_true, Nat.reduceAdd, *]; done) | (refine id ?_; simp only [gxD]; omega)) only [↓gxPre, gxPost, ↓reduceIte, Nat.reduceEqDiff, reduceCtorEq, Nat.reduceAdd]
  refine callR_of (s_RipplesOf_law ⟨o1.fs, m0, hw0⟩ b1) ?_
  rintro _ H2 ⟨e2, y2, rfl, o2, q2⟩
  have n2 := e2.n
  replace E := E.trans e2
  simp (disch := first | assumption | omega | rfl | (refine id ?_; simp only [gxD, ne_eq, reduceCtorEq, not_false_eq_true, Nat.reduceAdd, *]; done) | (refine id ?_; simp only [gxD]; omega)) only [↓gxPre, gxPost, ↓reduceIte, Nat.reduceEqDiff, reduceCtorEq, Nat.reduceAdd]
  refine callR_of (w_toFloat32S_ow (hv0.ext E) m0) ?_
  rintro y3 H3 ⟨e3, o3⟩
  have n3 := e3.n
  replace o2 := o2.ext e3
  replace E := E.trans e3
  simp (disch := first | assumption | omega | rfl | (refine id ?_; simp only [gxD, ne_eq, reduceCtorEq, not_false_eq_true, Nat.reduceAdd, *]; done) | (refine id ?_; simp only [gxD]; omega)) only [↓gxPre, gxPost, ↓reduceIte, Nat.reduceEqDiff, reduceCtorEq, Nat.reduceAdd]
  refine callR_of (i_RipplesOf_law ⟨o3.fs, m0, hw0⟩ b1) ?_
  rintro _ H4 ⟨e4, y4, rfl, o4, q4⟩
  have n4 := e4.n
  replace o2 := o2.ext e4
  replace o3 := o3.ext e4
  replace E := E.trans e4
  simp (disch := first | assumption | omega | rfl | (refine id ?_; simp only [gxD, ne_eq, reduceCtorEq, not_false_eq_true, Nat.reduceAdd, *]; done) | (refine id ?_; simp only [gxD]; omega)) only [↓gxPre, gxPost, ↓reduceIte, Nat.reduceEqDiff, reduceCtorEq, Nat.reduceAdd]
  refine callR_ext (w_eqComplex64S_ow o4.sl o2.sl q4) ?_
  intro H5 n5 bb5
  have e5 : Ext H4 H5 := ⟨n5, bb5⟩
  replace o2 := o2.ext e5
  replace o3 := o3.ext e5
  replace o4 := o4.ext e5
  replace E := E.trans e5
  simp (disch := first | assumption | omega | rfl | (refine id ?_; simp only [gxD, ne_eq, reduceCtorEq, not_false_eq_true, Nat.reduceAdd, *]; done) | (refine id ?_; simp only [gxD]; omega)) only [↓gxPre, gxPost, ↓reduceIte, Nat.reduceEqDiff, reduceCtorEq, Nat.reduceAdd, ne_eq, not_true]
  refine callR_of (w_toFloat32S_ow (hv0.ext E) m0) ?_
  rintro y6 H6 ⟨e6, o6⟩
  have n6 := e6.n
  replace o2 := o2.ext e6
  replace o3 := o3.ext e6
  replace o4 := o4.ext e6
  replace E := E.trans e6
  simp (disch := first | assumption | omega | rfl | (refine id ?_; simp only [gxD, ne_eq, reduceCtorEq, not_false_eq_true, Nat.reduceAdd, *]; done) | (refine id ?_; simp only [gxD]; omega)) only [↓gxPre, gxPost, ↓reduceIte, Nat.reduceEqDiff, reduceCtorEq, Nat.reduceAdd]
  refine callR_ext (w_eqFloat32S_ow o3.fs o6.fs m0) ?_
  intro H7 n7 bb7
  have e7 : Ext H6 H7 := ⟨n7, bb7⟩
  replace o2 := o2.ext e7
  replace o3 := o3.ext e7
  replace o4 := o4.ext e7
  replace E := E.trans e7
  simp (disch := first | assumption | omega | rfl | (refine id ?_; simp only [gxD, ne_eq, reduceCtorEq, not_false_eq_true, Nat.reduceAdd, *]; done) | (refine id ?_; simp only [gxD]; omega)) only [↓gxPre, gxPost, ↓reduceIte, Nat.reduceEqDiff, reduceCtorEq, Nat.reduceAdd, ne_eq, not_true]
  refine callR_of (w_markFloat32S_ow o3 (by first | omega | (simp only [List.length_map, List.length_range]; omega)) (by first | omega | (simp only [List.length_map, List.length_range]; omega)) (by first | omega | (simp only [List.length_map, List.length_range]; omega))) ?_
  rintro _ H8 ⟨rfl, p8, g8⟩
  have f8 := g8.off o3
  have n8 := f8.n
  replace o3 := p8
  replace o2 := o2.off f8 (by omega)
  replace o4 := o4.off f8 (by omega)
  replace E := E.mark f8 (by omega)
  simp (disch := first | assumption | omega | rfl | (refine id ?_; simp only [gxD, ne_eq, reduceCtorEq, not_false_eq_true, Nat.reduceAdd, *]; done) | (refine id ?_; simp only [gxD]; omega)) only [↓gxPre, gxPost, ↓reduceIte, Nat.reduceEqDiff, reduceCtorEq, Nat.reduceAdd, ne_eq, not_true]
  refine callR_ext (w_eqComplex64S_ow o4.sl o2.sl q4) ?_
  intro H9 n9 bb9
  have e9 : Ext H8 H9 := ⟨n9, bb9⟩
  replace o2 := o2.ext e9
  replace o3 := o3.ext e9
  replace o4 := o4.ext e9
  replace E := E.trans e9
  simp (disch := first | assumption | omega | rfl | (refine id ?_; simp only [gxD, ne_eq, reduceCtorEq, not_false_eq_true, Nat.reduceAdd, *]; done) | (refine id ?_; simp only [gxD]; omega)) only [↓gxPre, gxPost, ↓reduceIte, Nat.reduceEqDiff, reduceCtorEq, Nat.reduceAdd, ne_eq, not_true]
  refine callR_of (w_markComplex64S_ow o4 (by first | omega | (simp only [List.length_map, List.length_range]; omega)) (by first | omega | (simp only [List.length_map, List.length_range]; omega)) (by first | omega | (simp only [List.length_map, List.length_range]; omega))) ?_
  rintro _ H10 ⟨rfl, p10, g10⟩
  have f10 := g10.off o4
  have n10 := f10.n
  replace o4 := p10
  replace o2 := o2.off f10 (by omega)
  replace o3 := o3.off f10 (by omega)
  replace E := E.mark f10 (by omega)
  simp (disch := first | assumption | omega | rfl | (refine id ?_; simp only [gxD, ne_eq, reduceCtorEq, not_false_eq_true, Nat.reduceAdd, *]; done) | (refine id ?_; simp only [gxD]; omega)) only [↓gxPre, gxPost, ↓reduceIte, Nat.reduceEqDiff, reduceCtorEq, Nat.reduceAdd, ne_eq, not_true]
  refine callR_ext (w_heldComplex64S_ow o4 (by first | omega | (simp only [List.length_map, List.length_range]; omega)) (by first | omega | (simp only [List.length_map, List.length_range]; omega)) (by first | omega | (simp only [List.length_map, List.length_range]; omega))) ?_
  intro H11 n11 bb11
  have e11 : Ext H10 H11 := ⟨n11, bb11⟩
  replace o2 := o2.ext e11
  replace o3 := o3.ext e11
  replace o4 := o4.ext e11
  replace E := E.trans e11
  simp (disch := first | assumption | omega | rfl | (refine id ?_; simp only [gxD, ne_eq, reduceCtorEq, not_false_eq_true, Nat.reduceAdd, *]; done) | (refine id ?_; simp only [gxD]; omega)) only [↓gxPre, gxPost, ↓reduceIte, Nat.reduceEqDiff, reduceCtorEq, Nat.reduceAdd, ne_eq, not_true]
  refine callR_of (w_toFloat32S_ow (hv0.ext E) m0) ?_
  rintro y12 H12 ⟨e12, o12⟩
  have n12 := e12.n
  replace o2 := o2.ext e12
  replace o3 := o3.ext e12
  replace o4 := o4.ext e12
  replace E := E.trans e12
  simp (disch := first | assumption | omega | rfl | (refine id ?_; simp only [gxD, ne_eq, reduceCtorEq, not_false_eq_true, Nat.reduceAdd, *]; done) | (refine id ?_; simp only [gxD]; omega)) only [↓gxPre, gxPost, ↓reduceIte, Nat.reduceEqDiff, reduceCtorEq, Nat.reduceAdd]
  refine callR_of (i_RipplesOf_law ⟨o12.fs, m0, hw0⟩ b1) ?_
  rintro _ H13 ⟨e13, y13, rfl, o13, q13⟩
  have n13 := e13.n
  replace o2 := o2.ext e13
  replace o3 := o3.ext e13
  replace o4 := o4.ext e13
  replace E := E.trans e13
  simp (disch := first | assumption | omega | rfl | (refine id ?_; simp only [gxD, ne_eq, reduceCtorEq, not_false_eq_true, Nat.reduceAdd, *]; done) | (refine id ?_; simp only [gxD]; omega)) only [↓gxPre, gxPost, ↓reduceIte, Nat.reduceEqDiff, reduceCtorEq, Nat.reduceAdd]
  refine callR_ext (w_eqComplex64S_ow o13.sl o2.sl q13) ?_
  intro H14 n14 bb14
  have e14 : Ext H13 H14 := ⟨n14, bb14⟩
  replace o2 := o2.ext e14
  replace o3 := o3.ext e14
  replace o4 := o4.ext e14
  replace o13 := o13.ext e14
  replace E := E.trans e14
  simp (disch := first | assumption | omega | rfl | (refine id ?_; simp only [gxD, ne_eq, reduceCtorEq, not_false_eq_true, Nat.reduceAdd, *]; done) | (refine id ?_; simp only [gxD]; omega)) only [↓gxPre, gxPost, ↓reduceIte, Nat.reduceEqDiff, reduceCtorEq, Nat.reduceAdd, ne_eq, not_true]
  refine callR_ext (w_heldComplex64S_ow o4 (by first | omega | (simp only [List.length_map, List.length_range]; omega)) (by first | omega | (simp only [List.length_map, List.length_range]; omega)) (by first | omega | (simp only [List.length_map, List.length_range]; omega))) ?_
  intro H15 n15 bb15
  have e15 : Ext H14 H15 := ⟨n15, bb15⟩
  replace o2 := o2.ext e15
  replace o3 := o3.ext e15
  replace o4 := o4.ext e15
  replace o13 := o13.ext e15
  replace E := E.trans e15
  simp (disch := first | assumption | omega | rfl | (refine id ?_; simp only [gxD, ne_eq, reduceCtorEq, not_false_eq_true, Nat.reduceAdd, *]; done) | (refine id ?_; simp only [gxD]; omega)) only [↓gxPre, gxPost, ↓reduceIte, Nat.reduceEqDiff, reduceCtorEq, Nat.reduceAdd, ne_eq, not_true]
end Go.Proofs.Ytkojmlpaamdhoae
