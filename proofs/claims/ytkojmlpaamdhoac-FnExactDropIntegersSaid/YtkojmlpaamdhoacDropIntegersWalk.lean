/- The law FnExactDropIntegers, walked: it returns true. -/
import Derived.Test.YtkojmlpaamdhoacDropIntegersXC
namespace Go.Proofs.Ytkojmlpaamdhoac
open Go.Gx
set_option maxRecDepth 100000
set_option linter.unusedSimpArgs false
set_option linter.unusedVariables false
theorem w_FnExactDropIntegers_ok {H : Heap} {a0 : Int} (b0 : -9223372036854775808 ≤ a0 ∧ a0 ≤ 9223372036854775807) {v1 : Value} {xs1 : List Int} (hv1 : IS H v1 xs1) (hw1 : I64 xs1) (hl1 : xs1.length ≤ 9223372036854775807) {v2 : Value} {xs2 : List Int} (hv2 : IS H v2 xs2) (hw2 : I64 xs2) (hl2 : xs2.length ≤ 9223372036854775807) : ACalls Try.prog n_w_FnExactDropIntegers [.int .i64 a0, v1, v2] H fun r H' => r = .bool true := by
  refine k_w_FnExactDropIntegers.run rfl ?_
  unfold c_w_FnExactDropIntegers
  have E : Ext H H := Ext.refl H
  have one1 := hv1.one
  have one2 := hv2.one
  simp (disch := first | assumption | omega | rfl | (refine id ?_; simp only [gxD, ne_eq, reduceCtorEq, not_false_eq_true, Nat.reduceAdd, *]; done) | (refine id ?_; simp only [gxD]; omega)) only [↓gxPre, gxPost, ↓reduceIte, Nat.reduceEqDiff, reduceCtorEq, Nat.reduceAdd]
  by_cases s1 : (1048576 : Int) < xs1.length
  · simp (disch := first | assumption | omega | rfl | (refine id ?_; simp only [gxD, ne_eq, reduceCtorEq, not_false_eq_true, Nat.reduceAdd, *]; done) | (refine id ?_; simp only [gxD]; omega)) only [↓gxPre, gxPost, ↓reduceIte, Nat.reduceEqDiff, reduceCtorEq, Nat.reduceAdd, hv1.len, s1]
  simp (disch := first | assumption | omega | rfl | (refine id ?_; simp only [gxD, ne_eq, reduceCtorEq, not_false_eq_true, Nat.reduceAdd, *]; done) | (refine id ?_; simp only [gxD]; omega)) only [↓gxPre, gxPost, ↓reduceIte, Nat.reduceEqDiff, reduceCtorEq, Nat.reduceAdd, hv1.len, s1]
  by_cases s2 : (1048576 : Int) < xs2.length
  · simp (disch := first | assumption | omega | rfl | (refine id ?_; simp only [gxD, ne_eq, reduceCtorEq, not_false_eq_true, Nat.reduceAdd, *]; done) | (refine id ?_; simp only [gxD]; omega)) only [↓gxPre, gxPost, ↓reduceIte, Nat.reduceEqDiff, reduceCtorEq, Nat.reduceAdd, hv2.len, s2]
  simp (disch := first | assumption | omega | rfl | (refine id ?_; simp only [gxD, ne_eq, reduceCtorEq, not_false_eq_true, Nat.reduceAdd, *]; done) | (refine id ?_; simp only [gxD]; omega)) only [↓gxPre, gxPost, ↓reduceIte, Nat.reduceEqDiff, reduceCtorEq, Nat.reduceAdd, hv2.len, s2]
  have m1 : xs1.length ≤ 2 ^ 40 := by omega
  have m2 : xs2.length ≤ 2 ^ 40 := by omega
  refine callR_of (w_toInt64S_ow (hv1.ext E) m1) ?_
  rintro y1 H1 ⟨e1, o1⟩
  have n1 := e1.n
  replace E := E.trans e1
  simp (disch := first | assumption | omega | rfl | (refine id ?_; simp only [gxD, ne_eq, reduceCtorEq, not_false_eq_true, Nat.reduceAdd, *]; done) | (refine id ?_; simp only [gxD]; omega)) only [↓gxPre, gxPost, ↓reduceIte, Nat.reduceEqDiff, reduceCtorEq, Nat.reduceAdd]
  refine callR_of (w_toInt64S_ow (hv2.ext E) m2) ?_
  rintro y2 H2 ⟨e2, o2⟩
  have n2 := e2.n
  replace o1 := o1.ext e2
  replace E := E.trans e2
  simp (disch := first | assumption | omega | rfl | (refine id ?_; simp only [gxD, ne_eq, reduceCtorEq, not_false_eq_true, Nat.reduceAdd, *]; done) | (refine id ?_; simp only [gxD]; omega)) only [↓gxPre, gxPost, ↓reduceIte, Nat.reduceEqDiff, reduceCtorEq, Nat.reduceAdd]
  refine callR_of (s_DropIntegers_law b0 ⟨o1.is, m1, hw1⟩ ⟨o2.is, m2, hw2⟩) ?_
  rintro _ H3 ⟨e3, y3, rfl, o3, q3⟩
  have n3 := e3.n
  replace E := E.trans e3
  simp (disch := first | assumption | omega | rfl | (refine id ?_; simp only [gxD, ne_eq, reduceCtorEq, not_false_eq_true, Nat.reduceAdd, *]; done) | (refine id ?_; simp only [gxD]; omega)) only [↓gxPre, gxPost, ↓reduceIte, Nat.reduceEqDiff, reduceCtorEq, Nat.reduceAdd]
  refine callR_of (w_toInt64S_ow (hv1.ext E) m1) ?_
  rintro y4 H4 ⟨e4, o4⟩
  have n4 := e4.n
  replace o3 := o3.ext e4
  replace E := E.trans e4
  simp (disch := first | assumption | omega | rfl | (refine id ?_; simp only [gxD, ne_eq, reduceCtorEq, not_false_eq_true, Nat.reduceAdd, *]; done) | (refine id ?_; simp only [gxD]; omega)) only [↓gxPre, gxPost, ↓reduceIte, Nat.reduceEqDiff, reduceCtorEq, Nat.reduceAdd]
  refine callR_of (w_toInt64S_ow (hv2.ext E) m2) ?_
  rintro y5 H5 ⟨e5, o5⟩
  have n5 := e5.n
  replace o3 := o3.ext e5
  replace o4 := o4.ext e5
  replace E := E.trans e5
  simp (disch := first | assumption | omega | rfl | (refine id ?_; simp only [gxD, ne_eq, reduceCtorEq, not_false_eq_true, Nat.reduceAdd, *]; done) | (refine id ?_; simp only [gxD]; omega)) only [↓gxPre, gxPost, ↓reduceIte, Nat.reduceEqDiff, reduceCtorEq, Nat.reduceAdd]
  refine callR_of (i_DropIntegers_law b0 ⟨o4.is, m1, hw1⟩ ⟨o5.is, m2, hw2⟩) ?_
  rintro _ H6 ⟨e6, y6, rfl, o6, q6⟩
  have n6 := e6.n
  replace o3 := o3.ext e6
  replace o4 := o4.ext e6
  replace o5 := o5.ext e6
  replace E := E.trans e6
  simp (disch := first | assumption | omega | rfl | (refine id ?_; simp only [gxD, ne_eq, reduceCtorEq, not_false_eq_true, Nat.reduceAdd, *]; done) | (refine id ?_; simp only [gxD]; omega)) only [↓gxPre, gxPost, ↓reduceIte, Nat.reduceEqDiff, reduceCtorEq, Nat.reduceAdd]
  refine callR_ext (w_eqInt64S_ow o6.is o3.is q6) ?_
  intro H7 n7 bb7
  have e7 : Ext H6 H7 := ⟨n7, bb7⟩
  replace o3 := o3.ext e7
  replace o4 := o4.ext e7
  replace o5 := o5.ext e7
  replace o6 := o6.ext e7
  replace E := E.trans e7
  simp (disch := first | assumption | omega | rfl | (refine id ?_; simp only [gxD, ne_eq, reduceCtorEq, not_false_eq_true, Nat.reduceAdd, *]; done) | (refine id ?_; simp only [gxD]; omega)) only [↓gxPre, gxPost, ↓reduceIte, Nat.reduceEqDiff, reduceCtorEq, Nat.reduceAdd, ne_eq, not_true]
  refine callR_of (w_toInt64S_ow (hv1.ext E) m1) ?_
  rintro y8 H8 ⟨e8, o8⟩
  have n8 := e8.n
  replace o3 := o3.ext e8
  replace o4 := o4.ext e8
  replace o5 := o5.ext e8
  replace o6 := o6.ext e8
  replace E := E.trans e8
  simp (disch := first | assumption | omega | rfl | (refine id ?_; simp only [gxD, ne_eq, reduceCtorEq, not_false_eq_true, Nat.reduceAdd, *]; done) | (refine id ?_; simp only [gxD]; omega)) only [↓gxPre, gxPost, ↓reduceIte, Nat.reduceEqDiff, reduceCtorEq, Nat.reduceAdd]
  refine callR_ext (w_eqInt64S_ow o4.is o8.is m1) ?_
  intro H9 n9 bb9
  have e9 : Ext H8 H9 := ⟨n9, bb9⟩
  replace o3 := o3.ext e9
  replace o4 := o4.ext e9
  replace o5 := o5.ext e9
  replace o6 := o6.ext e9
  replace E := E.trans e9
  simp (disch := first | assumption | omega | rfl | (refine id ?_; simp only [gxD, ne_eq, reduceCtorEq, not_false_eq_true, Nat.reduceAdd, *]; done) | (refine id ?_; simp only [gxD]; omega)) only [↓gxPre, gxPost, ↓reduceIte, Nat.reduceEqDiff, reduceCtorEq, Nat.reduceAdd, ne_eq, not_true]
  refine callR_of (w_toInt64S_ow (hv2.ext E) m2) ?_
  rintro y10 H10 ⟨e10, o10⟩
  have n10 := e10.n
  replace o3 := o3.ext e10
  replace o4 := o4.ext e10
  replace o5 := o5.ext e10
  replace o6 := o6.ext e10
  replace E := E.trans e10
  simp (disch := first | assumption | omega | rfl | (refine id ?_; simp only [gxD, ne_eq, reduceCtorEq, not_false_eq_true, Nat.reduceAdd, *]; done) | (refine id ?_; simp only [gxD]; omega)) only [↓gxPre, gxPost, ↓reduceIte, Nat.reduceEqDiff, reduceCtorEq, Nat.reduceAdd]
  refine callR_ext (w_eqInt64S_ow o5.is o10.is m2) ?_
  intro H11 n11 bb11
  have e11 : Ext H10 H11 := ⟨n11, bb11⟩
  replace o3 := o3.ext e11
  replace o4 := o4.ext e11
  replace o5 := o5.ext e11
  replace o6 := o6.ext e11
  replace E := E.trans e11
  simp (disch := first | assumption | omega | rfl | (refine id ?_; simp only [gxD, ne_eq, reduceCtorEq, not_false_eq_true, Nat.reduceAdd, *]; done) | (refine id ?_; simp only [gxD]; omega)) only [↓gxPre, gxPost, ↓reduceIte, Nat.reduceEqDiff, reduceCtorEq, Nat.reduceAdd, ne_eq, not_true]
  refine callR_of (w_markInt64S_ow o4 (by first | omega | (simp only [List.length_map, List.length_range]; omega)) (by first | omega | (simp only [List.length_map, List.length_range]; omega)) (by first | omega | (simp only [List.length_map, List.length_range]; omega))) ?_
  rintro _ H12 ⟨rfl, p12, g12⟩
  have f12 := g12.off o4
  have n12 := f12.n
  replace o4 := p12
  replace o3 := o3.off f12 (by omega)
  replace o5 := o5.off f12 (by omega)
  replace o6 := o6.off f12 (by omega)
  replace E := E.mark f12 (by omega)
  simp (disch := first | assumption | omega | rfl | (refine id ?_; simp only [gxD, ne_eq, reduceCtorEq, not_false_eq_true, Nat.reduceAdd, *]; done) | (refine id ?_; simp only [gxD]; omega)) only [↓gxPre, gxPost, ↓reduceIte, Nat.reduceEqDiff, reduceCtorEq, Nat.reduceAdd, ne_eq, not_true]
  refine callR_of (w_markInt64S_ow o5 (by first | omega | (simp only [List.length_map, List.length_range]; omega)) (by first | omega | (simp only [List.length_map, List.length_range]; omega)) (by first | omega | (simp only [List.length_map, List.length_range]; omega))) ?_
  rintro _ H13 ⟨rfl, p13, g13⟩
  have f13 := g13.off o5
  have n13 := f13.n
  replace o5 := p13
  replace o3 := o3.off f13 (by omega)
  replace o4 := o4.off f13 (by omega)
  replace o6 := o6.off f13 (by omega)
  replace E := E.mark f13 (by omega)
  simp (disch := first | assumption | omega | rfl | (refine id ?_; simp only [gxD, ne_eq, reduceCtorEq, not_false_eq_true, Nat.reduceAdd, *]; done) | (refine id ?_; simp only [gxD]; omega)) only [↓gxPre, gxPost, ↓reduceIte, Nat.reduceEqDiff, reduceCtorEq, Nat.reduceAdd, ne_eq, not_true]
  refine callR_ext (w_eqInt64S_ow o6.is o3.is q6) ?_
  intro H14 n14 bb14
  have e14 : Ext H13 H14 := ⟨n14, bb14⟩
  replace o3 := o3.ext e14
  replace o4 := o4.ext e14
  replace o5 := o5.ext e14
  replace o6 := o6.ext e14
  replace E := E.trans e14
  simp (disch := first | assumption | omega | rfl | (refine id ?_; simp only [gxD, ne_eq, reduceCtorEq, not_false_eq_true, Nat.reduceAdd, *]; done) | (refine id ?_; simp only [gxD]; omega)) only [↓gxPre, gxPost, ↓reduceIte, Nat.reduceEqDiff, reduceCtorEq, Nat.reduceAdd, ne_eq, not_true]
  refine callR_of (w_markInt64S_ow o6 (by first | omega | (simp only [List.length_map, List.length_range]; omega)) (by first | omega | (simp only [List.length_map, List.length_range]; omega)) (by first | omega | (simp only [List.length_map, List.length_range]; omega))) ?_
  rintro _ H15 ⟨rfl, p15, g15⟩
  have f15 := g15.off o6
  have n15 := f15.n
  replace o6 := p15
  replace o3 := o3.off f15 (by omega)
  replace o4 := o4.off f15 (by omega)
  replace o5 := o5.off f15 (by omega)
  replace E := E.mark f15 (by omega)
  simp (disch := first | assumption | omega | rfl | (refine id ?_; simp only [gxD, ne_eq, reduceCtorEq, not_false_eq_true, Nat.reduceAdd, *]; done) | (refine id ?_; simp only [gxD]; omega)) only [↓gxPre, gxPost, ↓reduceIte, Nat.reduceEqDiff, reduceCtorEq, Nat.reduceAdd, ne_eq, not_true]
  refine callR_ext (w_heldInt64S_ow o6 (by first | omega | (simp only [List.length_map, List.length_range]; omega)) (by first | omega | (simp only [List.length_map, List.length_range]; omega)) (by first | omega | (simp only [List.length_map, List.length_range]; omega))) ?_
  intro H16 n16 bb16
  have e16 : Ext H15 H16 := ⟨n16, bb16⟩
  replace o3 := o3.ext e16
  replace o4 := o4.ext e16
  replace o5 := o5.ext e16
  replace o6 := o6.ext e16
  replace E := E.trans e16
  simp (disch := first | assumption | omega | rfl | (refine id ?_; simp only [gxD, ne_eq, reduceCtorEq, not_false_eq_true, Nat.reduceAdd, *]; done) | (refine id ?_; simp only [gxD]; omega)) only [↓gxPre, gxPost, ↓reduceIte, Nat.reduceEqDiff, reduceCtorEq, Nat.reduceAdd, ne_eq, not_true]
  refine callR_of (w_toInt64S_ow (hv1.ext E) m1) ?_
  rintro y17 H17 ⟨e17, o17⟩
  have n17 := e17.n
  replace o3 := o3.ext e17
  replace o4 := o4.ext e17
  replace o5 := o5.ext e17
  replace o6 := o6.ext e17
  replace E := E.trans e17
  simp (disch := first | assumption | omega | rfl | (refine id ?_; simp only [gxD, ne_eq, reduceCtorEq, not_false_eq_true, Nat.reduceAdd, *]; done) | (refine id ?_; simp only [gxD]; omega)) only [↓gxPre, gxPost, ↓reduceIte, Nat.reduceEqDiff, reduceCtorEq, Nat.reduceAdd]
  refine callR_of (w_toInt64S_ow (hv2.ext E) m2) ?_
  rintro y18 H18 ⟨e18, o18⟩
  have n18 := e18.n
  replace o3 := o3.ext e18
  replace o4 := o4.ext e18
  replace o5 := o5.ext e18
  replace o6 := o6.ext e18
  replace o17 := o17.ext e18
  replace E := E.trans e18
  simp (disch := first | assumption | omega | rfl | (refine id ?_; simp only [gxD, ne_eq, reduceCtorEq, not_false_eq_true, Nat.reduceAdd, *]; done) | (refine id ?_; simp only [gxD]; omega)) only [↓gxPre, gxPost, ↓reduceIte, Nat.reduceEqDiff, reduceCtorEq, Nat.reduceAdd]
  refine callR_of (i_DropIntegers_law b0 ⟨o17.is, m1, hw1⟩ ⟨o18.is, m2, hw2⟩) ?_
  rintro _ H19 ⟨e19, y19, rfl, o19, q19⟩
  have n19 := e19.n
  replace o3 := o3.ext e19
  replace o4 := o4.ext e19
  replace o5 := o5.ext e19
  replace o6 := o6.ext e19
  replace E := E.trans e19
  simp (disch := first | assumption | omega | rfl | (refine id ?_; simp only [gxD, ne_eq, reduceCtorEq, not_false_eq_true, Nat.reduceAdd, *]; done) | (refine id ?_; simp only [gxD]; omega)) only [↓gxPre, gxPost, ↓reduceIte, Nat.reduceEqDiff, reduceCtorEq, Nat.reduceAdd]
  refine callR_ext (w_eqInt64S_ow o19.is o3.is q19) ?_
  intro H20 n20 bb20
  have e20 : Ext H19 H20 := ⟨n20, bb20⟩
  replace o3 := o3.ext e20
  replace o4 := o4.ext e20
  replace o5 := o5.ext e20
  replace o6 := o6.ext e20
  replace o19 := o19.ext e20
  replace E := E.trans e20
  simp (disch := first | assumption | omega | rfl | (refine id ?_; simp only [gxD, ne_eq, reduceCtorEq, not_false_eq_true, Nat.reduceAdd, *]; done) | (refine id ?_; simp only [gxD]; omega)) only [↓gxPre, gxPost, ↓reduceIte, Nat.reduceEqDiff, reduceCtorEq, Nat.reduceAdd, ne_eq, not_true]
  refine callR_ext (w_heldInt64S_ow o6 (by first | omega | (simp only [List.length_map, List.length_range]; omega)) (by first | omega | (simp only [List.length_map, List.length_range]; omega)) (by first | omega | (simp only [List.length_map, List.length_range]; omega))) ?_
  intro H21 n21 bb21
  have e21 : Ext H20 H21 := ⟨n21, bb21⟩
  replace o3 := o3.ext e21
  replace o4 := o4.ext e21
  replace o5 := o5.ext e21
  replace o6 := o6.ext e21
  replace o19 := o19.ext e21
  replace E := E.trans e21
  simp (disch := first | assumption | omega | rfl | (refine id ?_; simp only [gxD, ne_eq, reduceCtorEq, not_false_eq_true, Nat.reduceAdd, *]; done) | (refine id ?_; simp only [gxD]; omega)) only [↓gxPre, gxPost, ↓reduceIte, Nat.reduceEqDiff, reduceCtorEq, Nat.reduceAdd, ne_eq, not_true]
end Go.Proofs.Ytkojmlpaamdhoac
