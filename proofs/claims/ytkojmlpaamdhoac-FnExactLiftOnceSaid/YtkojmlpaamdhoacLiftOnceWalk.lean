/- The law FnExactLiftOnce, walked: it returns true. -/
import Derived.Test.YtkojmlpaamdhoacLiftOnceXA
namespace Go.Proofs.Ytkojmlpaamdhoac
open Go.Gx
set_option maxRecDepth 100000
set_option linter.unusedSimpArgs false
set_option linter.unusedVariables false
theorem w_FnExactLiftOnce_ok {H : Heap} {a0 : Nat} (b0 : a0 < 2 ^ 32) {v0 : Value} {xs0 : List Nat} (hv0 : FS H v0 xs0) (hw0 : W32 xs0) (hl0 : xs0.length ≤ 9223372036854775807) {v1 : Value} {xs1 : List Nat} (hv1 : FS H v1 xs1) (hw1 : W32 xs1) (hl1 : xs1.length ≤ 9223372036854775807) : ACalls Try.prog n_w_FnExactLiftOnce [.agg #[v0, .float .f32 a0], v1] H fun r H' => r = .bool true := by
  refine k_w_FnExactLiftOnce.run rfl ?_
  unfold c_w_FnExactLiftOnce
  have E : Ext H H := Ext.refl H
  have one0 := hv0.one
  have one1 := hv1.one
  simp (disch := first | assumption | omega | rfl | (refine id ?_; simp only [gxD, ne_eq, reduceCtorEq, not_false_eq_true, Nat.reduceAdd, *]; done) | (refine id ?_; simp only [gxD]; omega)) only [↓gxPre, gxPost, ↓reduceIte, Nat.reduceEqDiff, reduceCtorEq, Nat.reduceAdd]
  by_cases s1 : (1048576 : Int) < xs1.length
  · simp (disch := first | assumption | omega | rfl | (refine id ?_; simp only [gxD, ne_eq, reduceCtorEq, not_false_eq_true, Nat.reduceAdd, *]; done) | (refine id ?_; simp only [gxD]; omega)) only [↓gxPre, gxPost, ↓reduceIte, Nat.reduceEqDiff, reduceCtorEq, Nat.reduceAdd, hv1.len, s1]
  simp (disch := first | assumption | omega | rfl | (refine id ?_; simp only [gxD, ne_eq, reduceCtorEq, not_false_eq_true, Nat.reduceAdd, *]; done) | (refine id ?_; simp only [gxD]; omega)) only [↓gxPre, gxPost, ↓reduceIte, Nat.reduceEqDiff, reduceCtorEq, Nat.reduceAdd, hv1.len, s1]
  refine callR_new ?_
  intro G0 e0g b0g n0g
  replace E := E.trans e0g
  by_cases s1 : (1048576 : Int) < xs0.length
  · refine callR_ext (w_szScheme_ow (hv0.ext E) (by omega) (by omega) hl0) ?_
    intro H1 n1 bb1
    simp (disch := first | assumption | omega | rfl | (refine id ?_; simp only [gxD, ne_eq, reduceCtorEq, not_false_eq_true, Nat.reduceAdd, *]; done) | (refine id ?_; simp only [gxD]; omega)) only [↓gxPre, gxPost, ↓reduceIte, Nat.reduceEqDiff, reduceCtorEq, Nat.reduceAdd, b0g, if_pos s1, Int.reduceLT]
  refine callR_ext (w_szScheme_ow (hv0.ext E) (by omega) (by omega) hl0) ?_
  intro H1 n1 bb1
  rw [if_neg s1]
  have e1 : Ext G0 H1 := ⟨n1, bb1⟩
  replace b0g := (e1.blk _ (by omega)).trans b0g
  replace E := E.trans e1
  have z1 : ¬ ((1048576 : Int) - xs0.length < 0) := by omega
  simp (disch := first | assumption | omega | rfl | (refine id ?_; simp only [gxD, ne_eq, reduceCtorEq, not_false_eq_true, Nat.reduceAdd, *]; done) | (refine id ?_; simp only [gxD]; omega)) only [↓gxPre, gxPost, ↓reduceIte, Nat.reduceEqDiff, reduceCtorEq, Nat.reduceAdd, b0g, z1]
  have m0 : xs0.length ≤ 2 ^ 40 := by omega
  have m1 : xs1.length ≤ 2 ^ 40 := by omega
  refine callR_of (w_toScheme_ow (hv0.ext E) m0) ?_
  rintro _ H2 ⟨e2, y2, rfl, o2⟩
  have n2 := e2.n
  replace b0g := (e2.blk _ (by omega)).trans b0g
  replace E := E.trans e2
  have v2o := o2.one
  simp (disch := first | assumption | omega | rfl | (refine id ?_; simp only [gxD, ne_eq, reduceCtorEq, not_false_eq_true, Nat.reduceAdd, *]; done) | (refine id ?_; simp only [gxD]; omega)) only [↓gxPre, gxPost, ↓reduceIte, Nat.reduceEqDiff, reduceCtorEq, Nat.reduceAdd, b0g]
  refine callR_of (w_toFloat32S_ow (hv1.ext E) m1) ?_
  rintro y3 H3 ⟨e3, o3⟩
  have n3 := e3.n
  replace b0g := (e3.blk _ (by omega)).trans b0g
  replace o2 := o2.ext e3
  replace E := E.trans e3
  simp (disch := first | assumption | omega | rfl | (refine id ?_; simp only [gxD, ne_eq, reduceCtorEq, not_false_eq_true, Nat.reduceAdd, *]; done) | (refine id ?_; simp only [gxD]; omega)) only [↓gxPre, gxPost, ↓reduceIte, Nat.reduceEqDiff, reduceCtorEq, Nat.reduceAdd, b0g]
  refine callR_of (s_LiftOnce_law ⟨o2.fs, m0, hw0⟩ b0 ⟨o3.fs, m1, hw1⟩) ?_
  rintro _ H4 ⟨e4, y4, z4, rfl, o4, q4, r4⟩
  have n4 := e4.n
  replace b0g := (e4.blk _ (by omega)).trans b0g
  replace E := E.trans e4
  simp (disch := first | assumption | omega | rfl | (refine id ?_; simp only [gxD, ne_eq, reduceCtorEq, not_false_eq_true, Nat.reduceAdd, *]; done) | (refine id ?_; simp only [gxD]; omega)) only [↓gxPre, gxPost, ↓reduceIte, Nat.reduceEqDiff, reduceCtorEq, Nat.reduceAdd, b0g]
  refine callR_of (w_toScheme_ow (hv0.ext E) m0) ?_
  rintro _ H5 ⟨e5, y5, rfl, o5⟩
  have n5 := e5.n
  replace b0g := (e5.blk _ (by omega)).trans b0g
  replace o4 := o4.ext e5
  replace E := E.trans e5
  have v5o := o5.one
  simp (disch := first | assumption | omega | rfl | (refine id ?_; simp only [gxD, ne_eq, reduceCtorEq, not_false_eq_true, Nat.reduceAdd, *]; done) | (refine id ?_; simp only [gxD]; omega)) only [↓gxPre, gxPost, ↓reduceIte, Nat.reduceEqDiff, reduceCtorEq, Nat.reduceAdd, b0g]
  refine callR_new ?_
  intro G5 e5g b5g n5g
  replace b0g := (e5g.blk _ (by omega)).trans b0g
  replace o4 := o4.ext e5g
  replace o5 := o5.ext e5g
  replace E := E.trans e5g
  refine callR_of (w_toFloat32S_ow (hv1.ext E) m1) ?_
  rintro y6 H6 ⟨e6, o6⟩
  have n6 := e6.n
  replace b0g := (e6.blk _ (by omega)).trans b0g
  replace b5g := (e6.blk _ (by omega)).trans b5g
  replace o4 := o4.ext e6
  replace o5 := o5.ext e6
  replace E := E.trans e6
  simp (disch := first | assumption | omega | rfl | (refine id ?_; simp only [gxD, ne_eq, reduceCtorEq, not_false_eq_true, Nat.reduceAdd, *]; done) | (refine id ?_; simp only [gxD]; omega)) only [↓gxPre, gxPost, ↓reduceIte, Nat.reduceEqDiff, reduceCtorEq, Nat.reduceAdd, b0g, b5g]
  refine callR_of (i_LiftOnce_law ⟨o5.fs, m0, hw0⟩ b0 ⟨o6.fs, m1, hw1⟩) ?_
  rintro _ H7 ⟨e7, y7, z7, rfl, o7, q7, r7⟩
  have n7 := e7.n
  replace b0g := (e7.blk _ (by omega)).trans b0g
  replace b5g := (e7.blk _ (by omega)).trans b5g
  replace o4 := o4.ext e7
  replace o5 := o5.ext e7
  replace o6 := o6.ext e7
  replace E := E.trans e7
  simp (disch := first | assumption | omega | rfl | (refine id ?_; simp only [gxD, ne_eq, reduceCtorEq, not_false_eq_true, Nat.reduceAdd, *]; done) | (refine id ?_; simp only [gxD]; omega)) only [↓gxPre, gxPost, ↓reduceIte, Nat.reduceEqDiff, reduceCtorEq, Nat.reduceAdd, b0g, b5g]
  refine callR_ext (w_eqFloat32S_ow o7.fst.fs o4.fst.fs q7) ?_
  intro H8 n8 bb8
  have e8 : Ext H7 H8 := ⟨n8, bb8⟩
  replace b0g := (e8.blk _ (by omega)).trans b0g
  replace b5g := (e8.blk _ (by omega)).trans b5g
  replace o4 := o4.ext e8
  replace o5 := o5.ext e8
  replace o6 := o6.ext e8
  replace o7 := o7.ext e8
  replace E := E.trans e8
  simp (disch := first | assumption | omega | rfl | (refine id ?_; simp only [gxD, ne_eq, reduceCtorEq, not_false_eq_true, Nat.reduceAdd, *]; done) | (refine id ?_; simp only [gxD]; omega)) only [↓gxPre, gxPost, ↓reduceIte, Nat.reduceEqDiff, reduceCtorEq, Nat.reduceAdd, b0g, b5g, ne_eq, not_true]
  refine callR_ext (w_eqFloat32S_ow o7.snd.fs o4.snd.fs r7) ?_
  intro H9 n9 bb9
  have e9 : Ext H8 H9 := ⟨n9, bb9⟩
  replace b0g := (e9.blk _ (by omega)).trans b0g
  replace b5g := (e9.blk _ (by omega)).trans b5g
  replace o4 := o4.ext e9
  replace o5 := o5.ext e9
  replace o6 := o6.ext e9
  replace o7 := o7.ext e9
  replace E := E.trans e9
  simp (disch := first | assumption | omega | rfl | (refine id ?_; simp only [gxD, ne_eq, reduceCtorEq, not_false_eq_true, Nat.reduceAdd, *]; done) | (refine id ?_; simp only [gxD]; omega)) only [↓gxPre, gxPost, ↓reduceIte, Nat.reduceEqDiff, reduceCtorEq, Nat.reduceAdd, b0g, b5g, ne_eq, not_true]
  refine callR_of (w_toScheme_ow (hv0.ext E) m0) ?_
  rintro _ H10 ⟨e10, y10, rfl, o10⟩
  have n10 := e10.n
  replace b0g := (e10.blk _ (by omega)).trans b0g
  replace b5g := (e10.blk _ (by omega)).trans b5g
  replace o4 := o4.ext e10
  replace o5 := o5.ext e10
  replace o6 := o6.ext e10
  replace o7 := o7.ext e10
  replace E := E.trans e10
  have v10o := o10.one
  simp (disch := first | assumption | omega | rfl | (refine id ?_; simp only [gxD, ne_eq, reduceCtorEq, not_false_eq_true, Nat.reduceAdd, *]; done) | (refine id ?_; simp only [gxD]; omega)) only [↓gxPre, gxPost, ↓reduceIte, Nat.reduceEqDiff, reduceCtorEq, Nat.reduceAdd, b0g, b5g]
  refine callR_ext (w_eqScheme_ow o5.fs o10.fs m0) ?_
  intro H11 n11 bb11
  have e11 : Ext H10 H11 := ⟨n11, bb11⟩
  replace b0g := (e11.blk _ (by omega)).trans b0g
  replace b5g := (e11.blk _ (by omega)).trans b5g
  replace o4 := o4.ext e11
  replace o5 := o5.ext e11
  replace o6 := o6.ext e11
  replace o7 := o7.ext e11
  replace E := E.trans e11
  simp (disch := first | assumption | omega | rfl | (refine id ?_; simp only [gxD, ne_eq, reduceCtorEq, not_false_eq_true, Nat.reduceAdd, *]; done) | (refine id ?_; simp only [gxD]; omega)) only [↓gxPre, gxPost, ↓reduceIte, Nat.reduceEqDiff, reduceCtorEq, Nat.reduceAdd, b0g, b5g, ne_eq, not_true]
  refine callR_of (w_toFloat32S_ow (hv1.ext E) m1) ?_
  rintro y12 H12 ⟨e12, o12⟩
  have n12 := e12.n
  replace b0g := (e12.blk _ (by omega)).trans b0g
  replace b5g := (e12.blk _ (by omega)).trans b5g
  replace o4 := o4.ext e12
  replace o5 := o5.ext e12
  replace o6 := o6.ext e12
  replace o7 := o7.ext e12
  replace E := E.trans e12
  simp (disch := first | assumption | omega | rfl | (refine id ?_; simp only [gxD, ne_eq, reduceCtorEq, not_false_eq_true, Nat.reduceAdd, *]; done) | (refine id ?_; simp only [gxD]; omega)) only [↓gxPre, gxPost, ↓reduceIte, Nat.reduceEqDiff, reduceCtorEq, Nat.reduceAdd, b0g, b5g]
  refine callR_ext (w_eqFloat32S_ow o6.fs o12.fs m1) ?_
  intro H13 n13 bb13
  have e13 : Ext H12 H13 := ⟨n13, bb13⟩
  replace b0g := (e13.blk _ (by omega)).trans b0g
  replace b5g := (e13.blk _ (by omega)).trans b5g
  replace o4 := o4.ext e13
  replace o5 := o5.ext e13
  replace o6 := o6.ext e13
  replace o7 := o7.ext e13
  replace E := E.trans e13
  simp (disch := first | assumption | omega | rfl | (refine id ?_; simp only [gxD, ne_eq, reduceCtorEq, not_false_eq_true, Nat.reduceAdd, *]; done) | (refine id ?_; simp only [gxD]; omega)) only [↓gxPre, gxPost, ↓reduceIte, Nat.reduceEqDiff, reduceCtorEq, Nat.reduceAdd, b0g, b5g, ne_eq, not_true]
  refine callR_of (w_markScheme_ow o5 (by first | omega | (simp only [List.length_map, List.length_range]; omega)) (by first | omega | (simp only [List.length_map, List.length_range]; omega)) (by first | omega | (simp only [List.length_map, List.length_range]; omega))) ?_
  rintro _ H14 ⟨rfl, p14, f14⟩
  have n14 := f14.n
  replace o5 := p14
  replace b0g := (f14.blk _ (by omega) (by omega)).trans b0g
  replace b5g := (f14.blk _ (by omega) (by omega)).trans b5g
  replace o4 := o4.off f14 (by omega)
  replace o6 := o6.off f14 (by omega)
  replace o7 := o7.off f14 (by omega)
  replace E := E.mark f14 (by omega)
  simp (disch := first | assumption | omega | rfl | (refine id ?_; simp only [gxD, ne_eq, reduceCtorEq, not_false_eq_true, Nat.reduceAdd, *]; done) | (refine id ?_; simp only [gxD]; omega)) only [↓gxPre, gxPost, ↓reduceIte, Nat.reduceEqDiff, reduceCtorEq, Nat.reduceAdd, b0g, b5g, ne_eq, not_true]
  refine callR_of (w_markFloat32S_ow o6 (by first | omega | (simp only [List.length_map, List.length_range]; omega)) (by first | omega | (simp only [List.length_map, List.length_range]; omega)) (by first | omega | (simp only [List.length_map, List.length_range]; omega))) ?_
  rintro _ H15 ⟨rfl, p15, g15⟩
  have f15 := g15.off o6
  have n15 := f15.n
  replace o6 := p15
  replace b0g := (f15.blk _ (by omega) (by omega)).trans b0g
  replace b5g := (f15.blk _ (by omega) (by omega)).trans b5g
  replace o4 := o4.off f15 (by omega)
  replace o5 := o5.off f15 (by omega)
  replace o7 := o7.off f15 (by omega)
  replace E := E.mark f15 (by omega)
  simp (disch := first | assumption | omega | rfl | (refine id ?_; simp only [gxD, ne_eq, reduceCtorEq, not_false_eq_true, Nat.reduceAdd, *]; done) | (refine id ?_; simp only [gxD]; omega)) only [↓gxPre, gxPost, ↓reduceIte, Nat.reduceEqDiff, reduceCtorEq, Nat.reduceAdd, b0g, b5g, ne_eq, not_true]
  refine callR_ext (w_eqFloat32S_ow o7.fst.fs o4.fst.fs q7) ?_
  intro H16 n16 bb16
  have e16 : Ext H15 H16 := ⟨n16, bb16⟩
  replace b0g := (e16.blk _ (by omega)).trans b0g
  replace b5g := (e16.blk _ (by omega)).trans b5g
  replace o4 := o4.ext e16
  replace o5 := o5.ext e16
  replace o6 := o6.ext e16
  replace o7 := o7.ext e16
  replace E := E.trans e16
  simp (disch := first | assumption | omega | rfl | (refine id ?_; simp only [gxD, ne_eq, reduceCtorEq, not_false_eq_true, Nat.reduceAdd, *]; done) | (refine id ?_; simp only [gxD]; omega)) only [↓gxPre, gxPost, ↓reduceIte, Nat.reduceEqDiff, reduceCtorEq, Nat.reduceAdd, b0g, b5g, ne_eq, not_true]
  refine callR_ext (w_eqFloat32S_ow o7.snd.fs o4.snd.fs r7) ?_
  intro H17 n17 bb17
  have e17 : Ext H16 H17 := ⟨n17, bb17⟩
  replace b0g := (e17.blk _ (by omega)).trans b0g
  replace b5g := (e17.blk _ (by omega)).trans b5g
  replace o4 := o4.ext e17
  replace o5 := o5.ext e17
  replace o6 := o6.ext e17
  replace o7 := o7.ext e17
  replace E := E.trans e17
  simp (disch := first | assumption | omega | rfl | (refine id ?_; simp only [gxD, ne_eq, reduceCtorEq, not_false_eq_true, Nat.reduceAdd, *]; done) | (refine id ?_; simp only [gxD]; omega)) only [↓gxPre, gxPost, ↓reduceIte, Nat.reduceEqDiff, reduceCtorEq, Nat.reduceAdd, b0g, b5g, ne_eq, not_true]
  refine callR_of (w_markFloat32S_ow o7.fst (by first | omega | (simp only [List.length_map, List.length_range]; omega)) (by first | omega | (simp only [List.length_map, List.length_range]; omega)) (by first | omega | (simp only [List.length_map, List.length_range]; omega))) ?_
  rintro _ H18 ⟨rfl, p18, g18⟩
  have f18 := g18.off o7.fst
  have n18 := f18.n
  replace o7 := o7.set0 g18 p18
  replace b0g := (f18.blk _ (by omega) (by omega)).trans b0g
  replace b5g := (f18.blk _ (by omega) (by omega)).trans b5g
  replace o4 := o4.off f18 (by omega)
  replace o5 := o5.off f18 (by omega)
  replace o6 := o6.off f18 (by omega)
  replace E := E.mark f18 (by omega)
  simp (disch := first | assumption | omega | rfl | (refine id ?_; simp only [gxD, ne_eq, reduceCtorEq, not_false_eq_true, Nat.reduceAdd, *]; done) | (refine id ?_; simp only [gxD]; omega)) only [↓gxPre, gxPost, ↓reduceIte, Nat.reduceEqDiff, reduceCtorEq, Nat.reduceAdd, b0g, b5g, ne_eq, not_true]
  refine callR_of (w_markFloat32S_ow o7.snd (by first | omega | (simp only [List.length_map, List.length_range]; omega)) (by first | omega | (simp only [List.length_map, List.length_range]; omega)) (by first | omega | (simp only [List.length_map, List.length_range]; omega))) ?_
  rintro _ H19 ⟨rfl, p19, g19⟩
  have f19 := g19.off o7.snd
  have n19 := f19.n
  replace o7 := o7.set1 g19 p19
  replace b0g := (f19.blk _ (by omega) (by omega)).trans b0g
  replace b5g := (f19.blk _ (by omega) (by omega)).trans b5g
  replace o4 := o4.off f19 (by omega)
  replace o5 := o5.off f19 (by omega)
  replace o6 := o6.off f19 (by omega)
  replace E := E.mark f19 (by omega)
  simp (disch := first | assumption | omega | rfl | (refine id ?_; simp only [gxD, ne_eq, reduceCtorEq, not_false_eq_true, Nat.reduceAdd, *]; done) | (refine id ?_; simp only [gxD]; omega)) only [↓gxPre, gxPost, ↓reduceIte, Nat.reduceEqDiff, reduceCtorEq, Nat.reduceAdd, b0g, b5g, ne_eq, not_true]
  refine callR_ext (w_heldFloat32S_ow o7.fst (by first | omega | (simp only [List.length_map, List.length_range]; omega)) (by first | omega | (simp only [List.length_map, List.length_range]; omega)) (by first | omega | (simp only [List.length_map, List.length_range]; omega))) ?_
  intro H20 n20 bb20
  have e20 : Ext H19 H20 := ⟨n20, bb20⟩
  replace b0g := (e20.blk _ (by omega)).trans b0g
  replace b5g := (e20.blk _ (by omega)).trans b5g
  replace o4 := o4.ext e20
  replace o5 := o5.ext e20
  replace o6 := o6.ext e20
  replace o7 := o7.ext e20
  replace E := E.trans e20
  simp (disch := first | assumption | omega | rfl | (refine id ?_; simp only [gxD, ne_eq, reduceCtorEq, not_false_eq_true, Nat.reduceAdd, *]; done) | (refine id ?_; simp only [gxD]; omega)) only [↓gxPre, gxPost, ↓reduceIte, Nat.reduceEqDiff, reduceCtorEq, Nat.reduceAdd, b0g, b5g, ne_eq, not_true]
  refine callR_ext (w_heldFloat32S_ow o7.snd (by first | omega | (simp only [List.length_map, List.length_range]; omega)) (by first | omega | (simp only [List.length_map, List.length_range]; omega)) (by first | omega | (simp only [List.length_map, List.length_range]; omega))) ?_
  intro H21 n21 bb21
  have e21 : Ext H20 H21 := ⟨n21, bb21⟩
  replace b0g := (e21.blk _ (by omega)).trans b0g
  replace b5g := (e21.blk _ (by omega)).trans b5g
  replace o4 := o4.ext e21
  replace o5 := o5.ext e21
  replace o6 := o6.ext e21
  replace o7 := o7.ext e21
  replace E := E.trans e21
  simp (disch := first | assumption | omega | rfl | (refine id ?_; simp only [gxD, ne_eq, reduceCtorEq, not_false_eq_true, Nat.reduceAdd, *]; done) | (refine id ?_; simp only [gxD]; omega)) only [↓gxPre, gxPost, ↓reduceIte, Nat.reduceEqDiff, reduceCtorEq, Nat.reduceAdd, b0g, b5g, ne_eq, not_true]
  refine callR_of (w_toScheme_ow (hv0.ext E) m0) ?_
  rintro _ H22 ⟨e22, y22, rfl, o22⟩
  have n22 := e22.n
  replace b0g := (e22.blk _ (by omega)).trans b0g
  replace b5g := (e22.blk _ (by omega)).trans b5g
  replace o4 := o4.ext e22
  replace o5 := o5.ext e22
  replace o6 := o6.ext e22
  replace o7 := o7.ext e22
  replace E := E.trans e22
  have v22o := o22.one
  simp (disch := first | assumption | omega | rfl | (refine id ?_; simp only [gxD, ne_eq, reduceCtorEq, not_false_eq_true, Nat.reduceAdd, *]; done) | (refine id ?_; simp only [gxD]; omega)) only [↓gxPre, gxPost, ↓reduceIte, Nat.reduceEqDiff, reduceCtorEq, Nat.reduceAdd, b0g, b5g]
  refine callR_of (w_toFloat32S_ow (hv1.ext E) m1) ?_
  rintro y23 H23 ⟨e23, o23⟩
  have n23 := e23.n
  replace b0g := (e23.blk _ (by omega)).trans b0g
  replace b5g := (e23.blk _ (by omega)).trans b5g
  replace o4 := o4.ext e23
  replace o5 := o5.ext e23
  replace o6 := o6.ext e23
  replace o7 := o7.ext e23
  replace o22 := o22.ext e23
  replace E := E.trans e23
  simp (disch := first | assumption | omega | rfl | (refine id ?_; simp only [gxD, ne_eq, reduceCtorEq, not_false_eq_true, Nat.reduceAdd, *]; done) | (refine id ?_; simp only [gxD]; omega)) only [↓gxPre, gxPost, ↓reduceIte, Nat.reduceEqDiff, reduceCtorEq, Nat.reduceAdd, b0g, b5g]
  refine callR_of (i_LiftOnce_law ⟨o22.fs, m0, hw0⟩ b0 ⟨o23.fs, m1, hw1⟩) ?_
  rintro _ H24 ⟨e24, y24, z24, rfl, o24, q24, r24⟩
  have n24 := e24.n
  replace b0g := (e24.blk _ (by omega)).trans b0g
  replace b5g := (e24.blk _ (by omega)).trans b5g
  replace o4 := o4.ext e24
  replace o5 := o5.ext e24
  replace o6 := o6.ext e24
  replace o7 := o7.ext e24
  replace E := E.trans e24
  simp (disch := first | assumption | omega | rfl | (refine id ?_; simp only [gxD, ne_eq, reduceCtorEq, not_false_eq_true, Nat.reduceAdd, *]; done) | (refine id ?_; simp only [gxD]; omega)) only [↓gxPre, gxPost, ↓reduceIte, Nat.reduceEqDiff, reduceCtorEq, Nat.reduceAdd, b0g, b5g]
  refine callR_ext (w_eqFloat32S_ow o24.fst.fs o4.fst.fs q24) ?_
  intro H25 n25 bb25
  have e25 : Ext H24 H25 := ⟨n25, bb25⟩
  replace b0g := (e25.blk _ (by omega)).trans b0g
  replace b5g := (e25.blk _ (by omega)).trans b5g
  replace o4 := o4.ext e25
  replace o5 := o5.ext e25
  replace o6 := o6.ext e25
  replace o7 := o7.ext e25
  replace o24 := o24.ext e25
  replace E := E.trans e25
  simp (disch := first | assumption | omega | rfl | (refine id ?_; simp only [gxD, ne_eq, reduceCtorEq, not_false_eq_true, Nat.reduceAdd, *]; done) | (refine id ?_; simp only [gxD]; omega)) only [↓gxPre, gxPost, ↓reduceIte, Nat.reduceEqDiff, reduceCtorEq, Nat.reduceAdd, b0g, b5g, ne_eq, not_true]
  refine callR_ext (w_eqFloat32S_ow o24.snd.fs o4.snd.fs r24) ?_
  intro H26 n26 bb26
  have e26 : Ext H25 H26 := ⟨n26, bb26⟩
  replace b0g := (e26.blk _ (by omega)).trans b0g
  replace b5g := (e26.blk _ (by omega)).trans b5g
  replace o4 := o4.ext e26
  replace o5 := o5.ext e26
  replace o6 := o6.ext e26
  replace o7 := o7.ext e26
  replace o24 := o24.ext e26
  replace E := E.trans e26
  simp (disch := first | assumption | omega | rfl | (refine id ?_; simp only [gxD, ne_eq, reduceCtorEq, not_false_eq_true, Nat.reduceAdd, *]; done) | (refine id ?_; simp only [gxD]; omega)) only [↓gxPre, gxPost, ↓reduceIte, Nat.reduceEqDiff, reduceCtorEq, Nat.reduceAdd, b0g, b5g, ne_eq, not_true]
  refine callR_ext (w_heldFloat32S_ow o7.fst (by first | omega | (simp only [List.length_map, List.length_range]; omega)) (by first | omega | (simp only [List.length_map, List.length_range]; omega)) (by first | omega | (simp only [List.length_map, List.length_range]; omega))) ?_
  intro H27 n27 bb27
  have e27 : Ext H26 H27 := ⟨n27, bb27⟩
  replace b0g := (e27.blk _ (by omega)).trans b0g
  replace b5g := (e27.blk _ (by omega)).trans b5g
  replace o4 := o4.ext e27
  replace o5 := o5.ext e27
  replace o6 := o6.ext e27
  replace o7 := o7.ext e27
  replace o24 := o24.ext e27
  replace E := E.trans e27
  simp (disch := first | assumption | omega | rfl | (refine id ?_; simp only [gxD, ne_eq, reduceCtorEq, not_false_eq_true, Nat.reduceAdd, *]; done) | (refine id ?_; simp only [gxD]; omega)) only [↓gxPre, gxPost, ↓reduceIte, Nat.reduceEqDiff, reduceCtorEq, Nat.reduceAdd, b0g, b5g, ne_eq, not_true]
  refine callR_ext (w_heldFloat32S_ow o7.snd (by first | omega | (simp only [List.length_map, List.length_range]; omega)) (by first | omega | (simp only [List.length_map, List.length_range]; omega)) (by first | omega | (simp only [List.length_map, List.length_range]; omega))) ?_
  intro H28 n28 bb28
  have e28 : Ext H27 H28 := ⟨n28, bb28⟩
  replace b0g := (e28.blk _ (by omega)).trans b0g
  replace b5g := (e28.blk _ (by omega)).trans b5g
  replace o4 := o4.ext e28
  replace o5 := o5.ext e28
  replace o6 := o6.ext e28
  replace o7 := o7.ext e28
  replace o24 := o24.ext e28
  replace E := E.trans e28
  simp (disch := first | assumption | omega | rfl | (refine id ?_; simp only [gxD, ne_eq, reduceCtorEq, not_false_eq_true, Nat.reduceAdd, *]; done) | (refine id ?_; simp only [gxD]; omega)) only [↓gxPre, gxPost, ↓reduceIte, Nat.reduceEqDiff, reduceCtorEq, Nat.reduceAdd, b0g, b5g, ne_eq, not_true]
end Go.Proofs.Ytkojmlpaamdhoac
