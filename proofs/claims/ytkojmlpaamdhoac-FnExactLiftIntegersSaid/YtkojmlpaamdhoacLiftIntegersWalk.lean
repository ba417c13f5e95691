/- The law FnExactLiftIntegers, walked: it returns true. -/
import Derived.Test.YtkojmlpaamdhoacLiftIntegersV
namespace Go.Proofs.Ytkojmlpaamdhoac
open Go.Gx
set_option maxRecDepth 100000
set_option linter.unusedSimpArgs false
set_option linter.unusedVariables false
theorem w_FnExactLiftIntegers_ok {H : Heap} {a0 : Int} (b0 : -9223372036854775808 ≤ a0 ∧ a0 ≤ 9223372036854775807) {v1 : Value} {xs1 : List Int} (hv1 : IS H v1 xs1) (hw1 : I64 xs1) (hl1 : xs1.length ≤ 9223372036854775807) : ACalls Try.prog n_w_FnExactLiftIntegers [.int .i64 a0, v1] H fun r H' => r = .bool true := by
  refine k_w_FnExactLiftIntegers.run rfl ?_
  unfold c_w_FnExactLiftIntegers
  have E : Ext H H := Ext.refl H
  have one1 := hv1.one
  simp (disch := first | assumption | omega | rfl | (refine id ?_; simp only [gxD, ne_eq, reduceCtorEq, not_false_eq_true, Nat.reduceAdd, *]; done) | (refine id ?_; simp only [gxD]; omega)) only [↓gxPre, gxPost, ↓reduceIte, Nat.reduceEqDiff, reduceCtorEq, Nat.reduceAdd]
  by_cases s1 : (1048576 : Int) < xs1.length
  · simp (disch := first | assumption | omega | rfl | (refine id ?_; simp only [gxD, ne_eq, reduceCtorEq, not_false_eq_true, Nat.reduceAdd, *]; done) | (refine id ?_; simp only [gxD]; omega)) only [↓gxPre, gxPost, ↓reduceIte, Nat.reduceEqDiff, reduceCtorEq, Nat.reduceAdd, hv1.len, s1]
  simp (disch := first | assumption | omega | rfl | (refine id ?_; simp only [gxD, ne_eq, reduceCtorEq, not_false_eq_true, Nat.reduceAdd, *]; done) | (refine id ?_; simp only [gxD]; omega)) only [↓gxPre, gxPost, ↓reduceIte, Nat.reduceEqDiff, reduceCtorEq, Nat.reduceAdd, hv1.len, s1]
  have m1 : xs1.length ≤ 2 ^ 40 := by omega
  refine callR_of (w_toInt64S_ow (hv1.ext E) m1) ?_
  rintro y1 H1 ⟨e1, o1⟩
  have n1 := e1.n
  replace E := E.trans e1
  simp (disch := first | assumption | omega | rfl | (refine id ?_; simp only [gxD, ne_eq, reduceCtorEq, not_false_eq_true, Nat.reduceAdd, *]; done) | (refine id ?_; simp only [gxD]; omega)) only [↓gxPre, gxPost, ↓reduceIte, Nat.reduceEqDiff, reduceCtorEq, Nat.reduceAdd]
  refine callR_of (s_LiftIntegers_law b0 ⟨o1.is, m1, hw1⟩) ?_
  rintro _ H2 ⟨e2, y2, z2, rfl, o2, q2, r2⟩
  have n2 := e2.n
  replace E := E.trans e2
  simp (disch := first | assumption | omega | rfl | (refine id ?_; simp only [gxD, ne_eq, reduceCtorEq, not_false_eq_true, Nat.reduceAdd, *]; done) | (refine id ?_; simp only [gxD]; omega)) only [↓gxPre, gxPost, ↓reduceIte, Nat.reduceEqDiff, reduceCtorEq, Nat.reduceAdd]
  refine callR_of (w_toInt64S_ow (hv1.ext E) m1) ?_
  rintro y3 H3 ⟨e3, o3⟩
  have n3 := e3.n
  replace o2 := o2.ext e3
  replace E := E.trans e3
  simp (disch := first | assumption | omega | rfl | (refine id ?_; simp only [gxD, ne_eq, reduceCtorEq, not_false_eq_true, Nat.reduceAdd, *]; done) | (refine id ?_; simp only [gxD]; omega)) only [↓gxPre, gxPost, ↓reduceIte, Nat.reduceEqDiff, reduceCtorEq, Nat.reduceAdd]
  refine callR_of (i_LiftIntegers_law b0 ⟨o3.is, m1, hw1⟩) ?_
  rintro _ H4 ⟨e4, y4, z4, rfl, o4, q4, r4⟩
  have n4 := e4.n
  replace o2 := o2.ext e4
  replace o3 := o3.ext e4
  replace E := E.trans e4
  simp (disch := first | assumption | omega | rfl | (refine id ?_; simp only [gxD, ne_eq, reduceCtorEq, not_false_eq_true, Nat.reduceAdd, *]; done) | (refine id ?_; simp only [gxD]; omega)) only [↓gxPre, gxPost, ↓reduceIte, Nat.reduceEqDiff, reduceCtorEq, Nat.reduceAdd]
  refine callR_ext (w_eqInt64S_ow o4.fst.is o2.fst.is q4) ?_
  intro H5 n5 bb5
  have e5 : Ext H4 H5 := ⟨n5, bb5⟩
  replace o2 := o2.ext e5
  replace o3 := o3.ext e5
  replace o4 := o4.ext e5
  replace E := E.trans e5
  simp (disch := first | assumption | omega | rfl | (refine id ?_; simp only [gxD, ne_eq, reduceCtorEq, not_false_eq_true, Nat.reduceAdd, *]; done) | (refine id ?_; simp only [gxD]; omega)) only [↓gxPre, gxPost, ↓reduceIte, Nat.reduceEqDiff, reduceCtorEq, Nat.reduceAdd, ne_eq, not_true]
  refine callR_ext (w_eqInt64S_ow o4.snd.is o2.snd.is r4) ?_
  intro H6 n6 bb6
  have e6 : Ext H5 H6 := ⟨n6, bb6⟩
  replace o2 := o2.ext e6
  replace o3 := o3.ext e6
  replace o4 := o4.ext e6
  replace E := E.trans e6
  simp (disch := first | assumption | omega | rfl | (refine id ?_; simp only [gxD, ne_eq, reduceCtorEq, not_false_eq_true, Nat.reduceAdd, *]; done) | (refine id ?_; simp only [gxD]; omega)) only [↓gxPre, gxPost, ↓reduceIte, Nat.reduceEqDiff, reduceCtorEq, Nat.reduceAdd, ne_eq, not_true]
  refine callR_of (w_toInt64S_ow (hv1.ext E) m1) ?_
  rintro y7 H7 ⟨e7, o7⟩
  have n7 := e7.n
  replace o2 := o2.ext e7
  replace o3 := o3.ext e7
  replace o4 := o4.ext e7
  replace E := E.trans e7
  simp (disch := first | assumption | omega | rfl | (refine id ?_; simp only [gxD, ne_eq, reduceCtorEq, not_false_eq_true, Nat.reduceAdd, *]; done) | (refine id ?_; simp only [gxD]; omega)) only [↓gxPre, gxPost, ↓reduceIte, Nat.reduceEqDiff, reduceCtorEq, Nat.reduceAdd]
  refine callR_ext (w_eqInt64S_ow o3.is o7.is m1) ?_
  intro H8 n8 bb8
  have e8 : Ext H7 H8 := ⟨n8, bb8⟩
  replace o2 := o2.ext e8
  replace o3 := o3.ext e8
  replace o4 := o4.ext e8
  replace E := E.trans e8
  simp (disch := first | assumption | omega | rfl | (refine id ?_; simp only [gxD, ne_eq, reduceCtorEq, not_false_eq_true, Nat.reduceAdd, *]; done) | (refine id ?_; simp only [gxD]; omega)) only [↓gxPre, gxPost, ↓reduceIte, Nat.reduceEqDiff, reduceCtorEq, Nat.reduceAdd, ne_eq, not_true]
  refine callR_of (w_markInt64S_ow o3 (by first | omega | (simp only [List.length_map, List.length_range]; omega)) (by first | omega | (simp only [List.length_map, List.length_range]; omega)) (by first | omega | (simp only [List.length_map, List.length_range]; omega))) ?_
  rintro _ H9 ⟨rfl, p9, g9⟩
  have f9 := g9.off o3
  have n9 := f9.n
  replace o3 := p9
  replace o2 := o2.off f9 (by omega)
  replace o4 := o4.off f9 (by omega)
  replace E := E.mark f9 (by omega)
  simp (disch := first | assumption | omega | rfl | (refine id ?_; simp only [gxD, ne_eq, reduceCtorEq, not_false_eq_true, Nat.reduceAdd, *]; done) | (refine id ?_; simp only [gxD]; omega)) only [↓gxPre, gxPost, ↓reduceIte, Nat.reduceEqDiff, reduceCtorEq, Nat.reduceAdd, ne_eq, not_true]
  refine callR_ext (w_eqInt64S_ow o4.fst.is o2.fst.is q4) ?_
  intro H10 n10 bb10
  have e10 : Ext H9 H10 := ⟨n10, bb10⟩
  replace o2 := o2.ext e10
  replace o3 := o3.ext e10
  replace o4 := o4.ext e10
  replace E := E.trans e10
  simp (disch := first | assumption | omega | rfl | (refine id ?_; simp only [gxD, ne_eq, reduceCtorEq, not_false_eq_true, Nat.reduceAdd, *]; done) | (refine id ?_; simp only [gxD]; omega)) only [↓gxPre, gxPost, ↓reduceIte, Nat.reduceEqDiff, reduceCtorEq, Nat.reduceAdd, ne_eq, not_true]
  refine callR_ext (w_eqInt64S_ow o4.snd.is o2.snd.is r4) ?_
  intro H11 n11 bb11
  have e11 : Ext H10 H11 := ⟨n11, bb11⟩
  replace o2 := o2.ext e11
  replace o3 := o3.ext e11
  replace o4 := o4.ext e11
  replace E := E.trans e11
  simp (disch := first | assumption | omega | rfl | (refine id ?_; simp only [gxD, ne_eq, reduceCtorEq, not_false_eq_true, Nat.reduceAdd, *]; done) | (refine id ?_; simp only [gxD]; omega)) only [↓gxPre, gxPost, ↓reduceIte, Nat.reduceEqDiff, reduceCtorEq, Nat.reduceAdd, ne_eq, not_true]
  refine callR_of (w_markInt64S_ow o4.fst (by first | omega | (simp only [List.length_map, List.length_range]; omega)) (by first | omega | (simp only [List.length_map, List.length_range]; omega)) (by first | omega | (simp only [List.length_map, List.length_range]; omega))) ?_
  rintro _ H12 ⟨rfl, p12, g12⟩
  have f12 := g12.off o4.fst
  have n12 := f12.n
  replace o4 := o4.set0 g12 p12
  replace o2 := o2.off f12 (by omega)
  replace o3 := o3.off f12 (by omega)
  replace E := E.mark f12 (by omega)
  simp (disch := first | assumption | omega | rfl | (refine id ?_; simp only [gxD, ne_eq, reduceCtorEq, not_false_eq_true, Nat.reduceAdd, *]; done) | (refine id ?_; simp only [gxD]; omega)) only [↓gxPre, gxPost, ↓reduceIte, Nat.reduceEqDiff, reduceCtorEq, Nat.reduceAdd, ne_eq, not_true]
  refine callR_of (w_markInt64S_ow o4.snd (by first | omega | (simp only [List.length_map, List.length_range]; omega)) (by first | omega | (simp only [List.length_map, List.length_range]; omega)) (by first | omega | (simp only [List.length_map, List.length_range]; omega))) ?_
  rintro _ H13 ⟨rfl, p13, g13⟩
  have f13 := g13.off o4.snd
  have n13 := f13.n
  replace o4 := o4.set1 g13 p13
  replace o2 := o2.off f13 (by omega)
  replace o3 := o3.off f13 (by omega)
  replace E := E.mark f13 (by omega)
  simp (disch := first | assumption | omega | rfl | (refine id ?_; simp only [gxD, ne_eq, reduceCtorEq, not_false_eq_true, Nat.reduceAdd, *]; done) | (refine id ?_; simp only [gxD]; omega)) only [↓gxPre, gxPost, ↓reduceIte, Nat.reduceEqDiff, reduceCtorEq, Nat.reduceAdd, ne_eq, not_true]
  refine callR_ext (w_heldInt64S_ow o4.fst (by first | omega | (simp only [List.length_map, List.length_range]; omega)) (by first | omega | (simp only [List.length_map, List.length_range]; omega)) (by first | omega | (simp only [List.length_map, List.length_range]; omega))) ?_
  intro H14 n14 bb14
  have e14 : Ext H13 H14 := ⟨n14, bb14⟩
  replace o2 := o2.ext e14
  replace o3 := o3.ext e14
  replace o4 := o4.ext e14
  replace E := E.trans e14
  simp (disch := first | assumption | omega | rfl | (refine id ?_; simp only [gxD, ne_eq, reduceCtorEq, not_false_eq_true, Nat.reduceAdd, *]; done) | (refine id ?_; simp only [gxD]; omega)) only [↓gxPre, gxPost, ↓reduceIte, Nat.reduceEqDiff, reduceCtorEq, Nat.reduceAdd, ne_eq, not_true]
  refine callR_ext (w_heldInt64S_ow o4.snd (by first | omega | (simp only [List.length_map, List.length_range]; omega)) (by first | omega | (simp only [List.length_map, List.length_range]; omega)) (by first | omega | (simp only [List.length_map, List.length_range]; omega))) ?_
  intro H15 n15 bb15
  have e15 : Ext H14 H15 := ⟨n15, bb15⟩
  replace o2 := o2.ext e15
  replace o3 := o3.ext e15
  replace o4 := o4.ext e15
  replace E := E.trans e15
  simp (disch := first | assumption | omega | rfl | (refine id ?_; simp only [gxD, ne_eq, reduceCtorEq, not_false_eq_true, Nat.reduceAdd, *]; done) | (refine id ?_; simp only [gxD]; omega)) only [↓gxPre, gxPost, ↓reduceIte, Nat.reduceEqDiff, reduceCtorEq, Nat.reduceAdd, ne_eq, not_true]
  refine callR_of (w_toInt64S_ow (hv1.ext E) m1) ?_
  rintro y16 H16 ⟨e16, o16⟩
  have n16 := e16.n
  replace o2 := o2.ext e16
  replace o3 := o3.ext e16
  replace o4 := o4.ext e16
  replace E := E.trans e16
  simp (disch := first | assumption | omega | rfl | (refine id ?_; simp only [gxD, ne_eq, reduceCtorEq, not_false_eq_true, Nat.reduceAdd, *]; done) | (refine id ?_; simp only [gxD]; omega)) only [↓gxPre, gxPost, ↓reduceIte, Nat.reduceEqDiff, reduceCtorEq, Nat.reduceAdd]
  refine callR_of (i_LiftIntegers_law b0 ⟨o16.is, m1, hw1⟩) ?_
  rintro _ H17 ⟨e17, y17, z17, rfl, o17, q17, r17⟩
  have n17 := e17.n
  replace o2 := o2.ext e17
  replace o3 := o3.ext e17
  replace o4 := o4.ext e17
  replace E := E.trans e17
  simp (disch := first | assumption | omega | rfl | (refine id ?_; simp only [gxD, ne_eq, reduceCtorEq, not_false_eq_true, Nat.reduceAdd, *]; done) | (refine id ?_; simp only [gxD]; omega)) only [↓gxPre, gxPost, ↓reduceIte, Nat.reduceEqDiff, reduceCtorEq, Nat.reduceAdd]
  refine callR_ext (w_eqInt64S_ow o17.fst.is o2.fst.is q17) ?_
  intro H18 n18 bb18
  have e18 : Ext H17 H18 := ⟨n18, bb18⟩
  replace o2 := o2.ext e18
  replace o3 := o3.ext e18
  replace o4 := o4.ext e18
  replace o17 := o17.ext e18
  replace E := E.trans e18
  simp (disch := first | assumption | omega | rfl | (refine id ?_; simp only [gxD, ne_eq, reduceCtorEq, not_false_eq_true, Nat.reduceAdd, *]; done) | (refine id ?_; simp only [gxD]; omega)) only [↓gxPre, gxPost, ↓reduceIte, Nat.reduceEqDiff, reduceCtorEq, Nat.reduceAdd, ne_eq, not_true]
  refine callR_ext (w_eqInt64S_ow o17.snd.is o2.snd.is r17) ?_
  intro H19 n19 bb19
  have e19 : Ext H18 H19 := ⟨n19, bb19⟩
  replace o2 := o2.ext e19
  replace o3 := o3.ext e19
  replace o4 := o4.ext e19
  replace o17 := o17.ext e19
  replace E := E.trans e19
  simp (disch := first | assumption | omega | rfl | (refine id ?_; simp only [gxD, ne_eq, reduceCtorEq, not_false_eq_true, Nat.reduceAdd, *]; done) | (refine id ?_; simp only [gxD]; omega)) only [↓gxPre, gxPost, ↓reduceIte, Nat.reduceEqDiff, reduceCtorEq, Nat.reduceAdd, ne_eq, not_true]
  refine callR_ext (w_heldInt64S_ow o4.fst (by first | omega | (simp only [List.length_map, List.length_range]; omega)) (by first | omega | (simp only [List.length_map, List.length_range]; omega)) (by first | omega | (simp only [List.length_map, List.length_range]; omega))) ?_
  intro H20 n20 bb20
  have e20 : Ext H19 H20 := ⟨n20, bb20⟩
  replace o2 := o2.ext e20
  replace o3 := o3.ext e20
  replace o4 := o4.ext e20
  replace o17 := o17.ext e20
  replace E := E.trans e20
  simp (disch := first | assumption | omega | rfl | (refine id ?_; simp only [gxD, ne_eq, reduceCtorEq, not_false_eq_true, Nat.reduceAdd, *]; done) | (refine id ?_; simp only [gxD]; omega)) only [↓gxPre, gxPost, ↓reduceIte, Nat.reduceEqDiff, reduceCtorEq, Nat.reduceAdd, ne_eq, not_true]
  refine callR_ext (w_heldInt64S_ow o4.snd (by first | omega | (simp only [List.length_map, List.length_range]; omega)) (by first | omega | (simp only [List.length_map, List.length_range]; omega)) (by first | omega | (simp only [List.length_map, List.length_range]; omega))) ?_
  intro H21 n21 bb21
  have e21 : Ext H20 H21 := ⟨n21, bb21⟩
  replace o2 := o2.ext e21
  replace o3 := o3.ext e21
  replace o4 := o4.ext e21
  replace o17 := o17.ext e21
  replace E := E.trans e21
  simp (disch := first | assumption | omega | rfl | (refine id ?_; simp only [gxD, ne_eq, reduceCtorEq, not_false_eq_true, Nat.reduceAdd, *]; done) | (refine id ?_; simp only [gxD]; omega)) only [↓gxPre, gxPost, ↓reduceIte, Nat.reduceEqDiff, reduceCtorEq, Nat.reduceAdd, ne_eq, not_true]
end Go.Proofs.Ytkojmlpaamdhoac
