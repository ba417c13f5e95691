/- The law FnExactDropOnce, walked: it returns true. -/
import Derived.Test.YtkojmlpaamdhoacDropOnceXB
namespace Go.Proofs.Ytkojmlpaamdhoac
open Go.Gx
set_option maxRecDepth 100000
set_option linter.unusedSimpArgs false
set_option linter.unusedVariables false
theorem w_FnExactDropOnce_ok {H : Heap} {a0 : Nat} (b0 : a0 < 2 ^ 32) {v0 : Value} {xs0 : List Nat} (hv0 : FS H v0 xs0) (hw0 : W32 xs0) (hl0 : xs0.length ≤ 9223372036854775807) {v1 : Value} {xs1 : List Nat} (hv1 : FS H v1 xs1) (hw1 : W32 xs1) (hl1 : xs1.length ≤ 9223372036854775807) {v2 : Value} {xs2 : List Nat} (hv2 : FS H v2 xs2) (hw2 : W32 xs2) (hl2 : xs2.length ≤ 9223372036854775807) : ACalls Try.prog n_w_FnExactDropOnce [.agg #[v0, .float .f32 a0], v1, v2] H fun r H' => r = .bool true := by
  refine k_w_FnExactDropOnce.run rfl ?_
  unfold c_w_FnExactDropOnce
  have E : Ext H H := Ext.refl H
  have one0 := hv0.one
  have one1 := hv1.one
  have one2 := hv2.one
  simp (disch := first | assumption | omega | rfl | (refine id ?_; simp only [gxD, ne_eq, reduceCtorEq, not_false_eq_true, Nat.reduceAdd, *]; done) | (refine id ?_; simp only [gxD]; omega)) only [↓gxPre, gxPost, ↓reduceIte, Nat.reduceEqDiff, reduceCtorEq, Nat.reduceAdd]
  by_cases s1 : (1048576 : Int) < xs1.length
  · simp (disch := first | assumption | omega | rfl | (refine id ?_; simp only [gxD, ne_eq, reduceCtorEq, not_false_eq_true, Nat.reduceAdd, *]; done) | (refine id ?_; simp only [gxD]; omega)) only [↓gxPre, gxPost, ↓reduceIte, Nat.reduceEqDiff, reduceCtorEq, Nat.reduceAdd, hv1.len, s1]
  simp (disch := first | assumption | omega | rfl | (refine id ?_; simp only [gxD, ne_eq, reduceCtorEq, not_false_eq_true, Nat.reduceAdd, *]; done) | (refine id ?_; simp only [gxD]; omega)) only [↓gxPre, gxPost, ↓reduceIte, Nat.reduceEqDiff, reduceCtorEq, Nat.reduceAdd, hv1.len, s1]
  by_cases s2 : (1048576 : Int) < xs2.length
  · simp (disch := first | assumption | omega | rfl | (refine id ?_; simp only [gxD, ne_eq, reduceCtorEq, not_false_eq_true, Nat.reduceAdd, *]; done) | (refine id ?_; simp only [gxD]; omega)) only [↓gxPre, gxPost, ↓reduceIte, Nat.reduceEqDiff, reduceCtorEq, Nat.reduceAdd, hv2.len, s2]
  simp (disch := first | assumption | omega | rfl | (refine id ?_; simp only [gxD, ne_eq, reduceCtorEq, not_false_eq_true, Nat.reduceAdd, *]; done) | (refine id ?_; simp only [gxD]; omega)) only [↓gxPre, gxPost, ↓reduceIte, Nat.reduceEqDiff, reduceCtorEq, Nat.reduceAdd, hv2.len, s2]
  refine callR_new ?_
  intro G0 e0g b0g n0g
  replace E := E.trans e0g
  by_cases s1 : (1048576 : Int) < xs0.length
  · refine callR_ext (w_szScheme_ow (hv0.ext E) (by omega) (by omega) hl0) ?_
    intro H1 n1 bb1
    simp (disch := first | assumption | omega | rfl | (refine id ?_; simp only [gxD, ne_eq, reduceCtorEq, not_false_eq_true, Nat.reduceAdd, *]; done) | (refine id ?_; simp only [gxD]; omega)) only [↓gxPre, gxPost, ↓reduceIte, Nat.reduceEqDiff, reduceCtorEq, Nat.reduceAdd, b0g, if_pos s1, Int.reduceLT]
  refine callR_ext (w_szScheme_ow (hv0.ext E) (by omega) (by omega) hl0) ?_
  intro H1 n1 bb1
  rw [if_neg s1]
  have e1 : Ext G0 H1 := ⟨n1, bb1⟩
  replace b0g := (e1.blk _ (by omega)).trans b0g
  replace E := E.trans e1
  have z1 : ¬ ((1048576 : Int) - xs0.length < 0) := by omega
  simp (disch := first | assumption | omega | rfl | (refine id ?_; simp only [gxD, ne_eq, reduceCtorEq, not_false_eq_true, Nat.reduceAdd, *]; done) | (refine id ?_; simp only [gxD]; omega)) only [↓gxPre, gxPost, ↓reduceIte, Nat.reduceEqDiff, reduceCtorEq, Nat.reduceAdd, b0g, z1]
  have m0 : xs0.length ≤ 2 ^ 40 := by omega
  have m1 : xs1.length ≤ 2 ^ 40 := by omega
  have m2 : xs2.length ≤ 2 ^ 40 := by omega
  refine callR_of (w_toScheme_ow (hv0.ext E) m0) ?_
  rintro _ H2 ⟨e2, y2, rfl, o2⟩
  have n2 := e2.n
  replace b0g := (e2.blk _ (by omega)).trans b0g
  replace E := E.trans e2
  have v2o := o2.one
  simp (disch := first | assumption | omega | rfl | (refine id ?_; simp only [gxD, ne_eq, reduceCtorEq, not_false_eq_true, Nat.reduceAdd, *]; done) | (refine id ?_; simp only [gxD]; omega)) only [↓gxPre, gxPost, ↓reduceIte, Nat.reduceEqDiff, reduceCtorEq, Nat.reduceAdd, b0g]
  refine callR_of (w_toFloat32S_ow (hv1.ext E) m1) ?_
  rintro y3 H3 ⟨e3, o3⟩
  have n3 := e3.n
  replace b0g := (e3.blk _ (by omega)).trans b0g
  replace o2 := o2.ext e3
  replace E := E.trans e3
  simp (disch := first | assumption | omega | rfl | (refine id ?_; simp only [gxD, ne_eq, reduceCtorEq, not_false_eq_true, Nat.reduceAdd, *]; done) | (refine id ?_; simp only [gxD]; omega)) only [↓gxPre, gxPost, ↓reduceIte, Nat.reduceEqDiff, reduceCtorEq, Nat.reduceAdd, b0g]
  refine callR_of (w_toFloat32S_ow (hv2.ext E) m2) ?_
  rintro y4 H4 ⟨e4, o4⟩
  have n4 := e4.n
  replace b0g := (e4.blk _ (by omega)).trans b0g
  replace o2 := o2.ext e4
  replace o3 := o3.ext e4
  replace E := E.trans e4
  simp (disch := first | assumption | omega | rfl | (refine id ?_; simp only [gxD, ne_eq, reduceCtorEq, not_false_eq_true, Nat.reduceAdd, *]; done) | (refine id ?_; simp only [gxD]; omega)) only [↓gxPre, gxPost, ↓reduceIte, Nat.reduceEqDiff, reduceCtorEq, Nat.reduceAdd, b0g]
  refine callR_of (s_DropOnce_law ⟨o2.fs, m0, hw0⟩ b0 ⟨o3.fs, m1, hw1⟩ ⟨o4.fs, m2, hw2⟩) ?_
  rintro _ H5 ⟨e5, y5, rfl, o5, q5⟩
  have n5 := e5.n
  replace b0g := (e5.blk _ (by omega)).trans b0g
  replace E := E.trans e5
  simp (disch := first | assumption | omega | rfl | (refine id ?_; simp only [gxD, ne_eq, reduceCtorEq, not_false_eq_true, Nat.reduceAdd, *]; done) | (refine id ?_; simp only [gxD]; omega)) only [↓gxPre, gxPost, ↓reduceIte, Nat.reduceEqDiff, reduceCtorEq, Nat.reduceAdd, b0g]
  refine callR_of (w_toScheme_ow (hv0.ext E) m0) ?_
  rintro _ H6 ⟨e6, y6, rfl, o6⟩
  have n6 := e6.n
  replace b0g := (e6.blk _ (by omega)).trans b0g
  replace o5 := o5.ext e6
  replace E := E.trans e6
  have v6o := o6.one
  simp (disch := first | assumption | omega | rfl | (refine id ?_; simp only [gxD, ne_eq, reduceCtorEq, not_false_eq_true, Nat.reduceAdd, *]; done) | (refine id ?_; simp only [gxD]; omega)) only [↓gxPre, gxPost, ↓reduceIte, Nat.reduceEqDiff, reduceCtorEq, Nat.reduceAdd, b0g]
  refine callR_new ?_
  intro G6 e6g b6g n6g
  replace b0g := (e6g.blk _ (by omega)).trans b0g
  replace o5 := o5.ext e6g
  replace o6 := o6.ext e6g
  replace E := E.trans e6g
  refine callR_of (w_toFloat32S_ow (hv1.ext E) m1) ?_
  rintro y7 H7 ⟨e7, o7⟩
  have n7 := e7.n
  replace b0g := (e7.blk _ (by omega)).trans b0g
  replace b6g := (e7.blk _ (by omega)).trans b6g
  replace o5 := o5.ext e7
  replace o6 := o6.ext e7
  replace E := E.trans e7
  simp (disch := first | assumption | omega | rfl | (refine id ?_; simp only [gxD, ne_eq, reduceCtorEq, not_false_eq_true, Nat.reduceAdd, *]; done) | (refine id ?_; simp only [gxD]; omega)) only [↓gxPre, gxPost, ↓reduceIte, Nat.reduceEqDiff, reduceCtorEq, Nat.reduceAdd, b0g, b6g]
  refine callR_of (w_toFloat32S_ow (hv2.ext E) m2) ?_
  rintro y8 H8 ⟨e8, o8⟩
  have n8 := e8.n
  replace b0g := (e8.blk _ (by omega)).trans b0g
  replace b6g := (e8.blk _ (by omega)).trans b6g
  replace o5 := o5.ext e8
  replace o6 := o6.ext e8
  replace o7 := o7.ext e8
  replace E := E.trans e8
  simp (disch := first | assumption | omega | rfl | (refine id ?_; simp only [gxD, ne_eq, reduceCtorEq, not_false_eq_true, Nat.reduceAdd, *]; done) | (refine id ?_; simp only [gxD]; omega)) only [↓gxPre, gxPost, ↓reduceIte, Nat.reduceEqDiff, reduceCtorEq, Nat.reduceAdd, b0g, b6g]
  refine callR_of (i_DropOnce_law ⟨o6.fs, m0, hw0⟩ b0 ⟨o7.fs, m1, hw1⟩ ⟨o8.fs, m2, hw2⟩) ?_
  rintro _ H9 ⟨e9, y9, rfl, o9, q9⟩
  have n9 := e9.n
  replace b0g := (e9.blk _ (by omega)).trans b0g
  replace b6g := (e9.blk _ (by omega)).trans b6g
  replace o5 := o5.ext e9
  replace o6 := o6.ext e9
  replace o7 := o7.ext e9
  replace o8 := o8.ext e9
  replace E := E.trans e9
  simp (disch := first | assumption | omega | rfl | (refine id ?_; simp only [gxD, ne_eq, reduceCtorEq, not_false_eq_true, Nat.reduceAdd, *]; done) | (refine id ?_; simp only [gxD]; omega)) only [↓gxPre, gxPost, ↓reduceIte, Nat.reduceEqDiff, reduceCtorEq, Nat.reduceAdd, b0g, b6g]
  refine callR_ext (w_eqFloat32S_ow o9.fs o5.fs q9) ?_
  intro H10 n10 bb10
  have e10 : Ext H9 H10 := ⟨n10, bb10⟩
  replace b0g := (e10.blk _ (by omega)).trans b0g
  replace b6g := (e10.blk _ (by omega)).trans b6g
  replace o5 := o5.ext e10
  replace o6 := o6.ext e10
  replace o7 := o7.ext e10
  replace o8 := o8.ext e10
  replace o9 := o9.ext e10
  replace E := E.trans e10
  simp (disch := first | assumption | omega | rfl | (refine id ?_; simp only [gxD, ne_eq, reduceCtorEq, not_false_eq_true, Nat.reduceAdd, *]; done) | (refine id ?_; simp only [gxD]; omega)) only [↓gxPre, gxPost, ↓reduceIte, Nat.reduceEqDiff, reduceCtorEq, Nat.reduceAdd, b0g, b6g, ne_eq, not_true]
  refine callR_of (w_toScheme_ow (hv0.ext E) m0) ?_
  rintro _ H11 ⟨e11, y11, rfl, o11⟩
  have n11 := e11.n
  replace b0g := (e11.blk _ (by omega)).trans b0g
  replace b6g := (e11.blk _ (by omega)).trans b6g
  replace o5 := o5.ext e11
  replace o6 := o6.ext e11
  replace o7 := o7.ext e11
  replace o8 := o8.ext e11
  replace o9 := o9.ext e11
  replace E := E.trans e11
  have v11o := o11.one
  simp (disch := first | assumption | omega | rfl | (refine id ?_; simp only [gxD, ne_eq, reduceCtorEq, not_false_eq_true, Nat.reduceAdd, *]; done) | (refine id ?_; simp only [gxD]; omega)) only [↓gxPre, gxPost, ↓reduceIte, Nat.reduceEqDiff, reduceCtorEq, Nat.reduceAdd, b0g, b6g]
  refine callR_ext (w_eqScheme_ow o6.fs o11.fs m0) ?_
  intro H12 n12 bb12
  have e12 : Ext H11 H12 := ⟨n12, bb12⟩
  replace b0g := (e12.blk _ (by omega)).trans b0g
  replace b6g := (e12.blk _ (by omega)).trans b6g
  replace o5 := o5.ext e12
  replace o6 := o6.ext e12
  replace o7 := o7.ext e12
  replace o8 := o8.ext e12
  replace o9 := o9.ext e12
  replace E := E.trans e12
  simp (disch := first | assumption | omega | rfl | (refine id ?_; simp only [gxD, ne_eq, reduceCtorEq, not_false_eq_true, Nat.reduceAdd, *]; done) | (refine id ?_; simp only [gxD]; omega)) only [↓gxPre, gxPost, ↓reduceIte, Nat.reduceEqDiff, reduceCtorEq, Nat.reduceAdd, b0g, b6g, ne_eq, not_true]
  refine callR_of (w_toFloat32S_ow (hv1.ext E) m1) ?_
  rintro y13 H13 ⟨e13, o13⟩
  have n13 := e13.n
  replace b0g := (e13.blk _ (by omega)).trans b0g
  replace b6g := (e13.blk _ (by omega)).trans b6g
  replace o5 := o5.ext e13
  replace o6 := o6.ext e13
  replace o7 := o7.ext e13
  replace o8 := o8.ext e13
  replace o9 := o9.ext e13
  replace E := E.trans e13
  simp (disch := first | assumption | omega | rfl | (refine id ?_; simp only [gxD, ne_eq, reduceCtorEq, not_false_eq_true, Nat.reduceAdd, *]; done) | (refine id ?_; simp only [gxD]; omega)) only [↓gxPre, gxPost, ↓reduceIte, Nat.reduceEqDiff, reduceCtorEq, Nat.reduceAdd, b0g, b6g]
  refine callR_ext (w_eqFloat32S_ow o7.fs o13.fs m1) ?_
  intro H14 n14 bb14
  have e14 : Ext H13 H14 := ⟨n14, bb14⟩
  replace b0g := (e14.blk _ (by omega)).trans b0g
  replace b6g := (e14.blk _ (by omega)).trans b6g
  replace o5 := o5.ext e14
  replace o6 := o6.ext e14
  replace o7 := o7.ext e14
  replace o8 := o8.ext e14
  replace o9 := o9.ext e14
  replace E := E.trans e14
  simp (disch := first | assumption | omega | rfl | (refine id ?_; simp only [gxD, ne_eq, reduceCtorEq, not_false_eq_true, Nat.reduceAdd, *]; done) | (refine id ?_; simp only [gxD]; omega)) only [↓gxPre, gxPost, ↓reduceIte, Nat.reduceEqDiff, reduceCtorEq, Nat.reduceAdd, b0g, b6g, ne_eq, not_true]
  refine callR_of (w_toFloat32S_ow (hv2.ext E) m2) ?_
  rintro y15 H15 ⟨e15, o15⟩
  have n15 := e15.n
  replace b0g := (e15.blk _ (by omega)).trans b0g
  replace b6g := (e15.blk _ (by omega)).trans b6g
  replace o5 := o5.ext e15
  replace o6 := o6.ext e15
  replace o7 := o7.ext e15
  replace o8 := o8.ext e15
  replace o9 := o9.ext e15
  replace E := E.trans e15
  simp (disch := first | assumption | omega | rfl | (refine id ?_; simp only [gxD, ne_eq, reduceCtorEq, not_false_eq_true, Nat.reduceAdd, *]; done) | (refine id ?_; simp only [gxD]; omega)) only [↓gxPre, gxPost, ↓reduceIte, Nat.reduceEqDiff, reduceCtorEq, Nat.reduceAdd, b0g, b6g]
  refine callR_ext (w_eqFloat32S_ow o8.fs o15.fs m2) ?_
  intro H16 n16 bb16
  have e16 : Ext H15 H16 := ⟨n16, bb16⟩
  replace b0g := (e16.blk _ (by omega)).trans b0g
  replace b6g := (e16.blk _ (by omega)).trans b6g
  replace o5 := o5.ext e16
  replace o6 := o6.ext e16
  replace o7 := o7.ext e16
  replace o8 := o8.ext e16
  replace o9 := o9.ext e16
  replace E := E.trans e16
  simp (disch := first | assumption | omega | rfl | (refine id ?_; simp only [gxD, ne_eq, reduceCtorEq, not_false_eq_true, Nat.reduceAdd, *]; done) | (refine id ?_; simp only [gxD]; omega)) only [↓gxPre, gxPost, ↓reduceIte, Nat.reduceEqDiff, reduceCtorEq, Nat.reduceAdd, b0g, b6g, ne_eq, not_true]
  refine callR_of (w_markScheme_ow o6 (by first | omega | (simp only [List.length_map, List.length_range]; omega)) (by first | omega | (simp only [List.length_map, List.length_range]; omega)) (by first | omega | (simp only [List.length_map, List.length_range]; omega))) ?_
  rintro _ H17 ⟨rfl, p17, f17⟩
  have n17 := f17.n
  replace o6 := p17
  replace b0g := (f17.blk _ (by omega) (by omega)).trans b0g
  replace b6g := (f17.blk _ (by omega) (by omega)).trans b6g
  replace o5 := o5.off f17 (by omega)
  replace o7 := o7.off f17 (by omega)
  replace o8 := o8.off f17 (by omega)
  replace o9 := o9.off f17 (by omega)
  replace E := E.mark f17 (by omega)
  simp (disch := first | assumption | omega | rfl | (refine id ?_; simp only [gxD, ne_eq, reduceCtorEq, not_false_eq_true, Nat.reduceAdd, *]; done) | (refine id ?_; simp only [gxD]; omega)) only [↓gxPre, gxPost, ↓reduceIte, Nat.reduceEqDiff, reduceCtorEq, Nat.reduceAdd, b0g, b6g, ne_eq, not_true]
  refine callR_of (w_markFloat32S_ow o7 (by first | omega | (simp only [List.length_map, List.length_range]; omega)) (by first | omega | (simp only [List.length_map, List.length_range]; omega)) (by first | omega | (simp only [List.length_map, List.length_range]; omega))) ?_
  rintro _ H18 ⟨rfl, p18, g18⟩
  have f18 := g18.off o7
  have n18 := f18.n
  replace o7 := p18
  replace b0g := (f18.blk _ (by omega) (by omega)).trans b0g
  replace b6g := (f18.blk _ (by omega) (by omega)).trans b6g
  replace o5 := o5.off f18 (by omega)
  replace o6 := o6.off f18 (by omega)
  replace o8 := o8.off f18 (by omega)
  replace o9 := o9.off f18 (by omega)
  replace E := E.mark f18 (by omega)
  simp (disch := first | assumption | omega | rfl | (refine id ?_; simp only [gxD, ne_eq, reduceCtorEq, not_false_eq_true, Nat.reduceAdd, *]; done) | (refine id ?_; simp only [gxD]; omega)) only [↓gxPre, gxPost, ↓reduceIte, Nat.reduceEqDiff, reduceCtorEq, Nat.reduceAdd, b0g, b6g, ne_eq, not_true]
  refine callR_of (w_markFloat32S_ow o8 (by first | omega | (simp only [List.length_map, List.length_range]; omega)) (by first | omega | (simp only [List.length_map, List.length_range]; omega)) (by first | omega | (simp only [List.length_map, List.length_range]; omega))) ?_
  rintro _ H19 ⟨rfl, p19, g19⟩
  have f19 := g19.off o8
  have n19 := f19.n
  replace o8 := p19
  replace b0g := (f19.blk _ (by omega) (by omega)).trans b0g
  replace b6g := (f19.blk _ (by omega) (by omega)).trans b6g
  replace o5 := o5.off f19 (by omega)
  replace o6 := o6.off f19 (by omega)
  replace o7 := o7.off f19 (by omega)
  replace o9 := o9.off f19 (by omega)
  replace E := E.mark f19 (by omega)
  simp (disch := first | assumption | omega | rfl | (refine id ?_; simp only [gxD, ne_eq, reduceCtorEq, not_false_eq_true, Nat.reduceAdd, *]; done) | (refine id ?_; simp only [gxD]; omega)) only [↓gxPre, gxPost, ↓reduceIte, Nat.reduceEqDiff, reduceCtorEq, Nat.reduceAdd, b0g, b6g, ne_eq, not_true]
  refine callR_ext (w_eqFloat32S_ow o9.fs o5.fs q9) ?_
  intro H20 n20 bb20
  have e20 : Ext H19 H20 := ⟨n20, bb20⟩
  replace b0g := (e20.blk _ (by omega)).trans b0g
  replace b6g := (e20.blk _ (by omega)).trans b6g
  replace o5 := o5.ext e20
  replace o6 := o6.ext e20
  replace o7 := o7.ext e20
  replace o8 := o8.ext e20
  replace o9 := o9.ext e20
  replace E := E.trans e20
  simp (disch := first | assumption | omega | rfl | (refine id ?_; simp only [gxD, ne_eq, reduceCtorEq, not_false_eq_true, Nat.reduceAdd, *]; done) | (refine id ?_; simp only [gxD]; omega)) only [↓gxPre, gxPost, ↓reduceIte, Nat.reduceEqDiff, reduceCtorEq, Nat.reduceAdd, b0g, b6g, ne_eq, not_true]
  refine callR_of (w_markFloat32S_ow o9 (by first | omega | (simp only [List.length_map, List.length_range]; omega)) (by first | omega | (simp only [List.length_map, List.length_range]; omega)) (by first | omega | (simp only [List.length_map, List.length_range]; omega))) ?_
  rintro _ H21 ⟨rfl, p21, g21⟩
  have f21 := g21.off o9
  have n21 := f21.n
  replace o9 := p21
  replace b0g := (f21.blk _ (by omega) (by omega)).trans b0g
  replace b6g := (f21.blk _ (by omega) (by omega)).trans b6g
  replace o5 := o5.off f21 (by omega)
  replace o6 := o6.off f21 (by omega)
  replace o7 := o7.off f21 (by omega)
  replace o8 := o8.off f21 (by omega)
  replace E := E.mark f21 (by omega)
  simp (disch := first | assumption | omega | rfl | (refine id ?_; simp only [gxD, ne_eq, reduceCtorEq, not_false_eq_true, Nat.reduceAdd, *]; done) | (refine id ?_; simp only [gxD]; omega)) only [↓gxPre, gxPost, ↓reduceIte, Nat.reduceEqDiff, reduceCtorEq, Nat.reduceAdd, b0g, b6g, ne_eq, not_true]
  refine callR_ext (w_heldFloat32S_ow o9 (by first | omega | (simp only [List.length_map, List.length_range]; omega)) (by first | omega | (simp only [List.length_map, List.length_range]; omega)) (by first | omega | (simp only [List.length_map, List.length_range]; omega))) ?_
  intro H22 n22 bb22
  have e22 : Ext H21 H22 := ⟨n22, bb22⟩
  replace b0g := (e22.blk _ (by omega)).trans b0g
  replace b6g := (e22.blk _ (by omega)).trans b6g
  replace o5 := o5.ext e22
  replace o6 := o6.ext e22
  replace o7 := o7.ext e22
  replace o8 := o8.ext e22
  replace o9 := o9.ext e22
  replace E := E.trans e22
  simp (disch := first | assumption | omega | rfl | (refine id ?_; simp only [gxD, ne_eq, reduceCtorEq, not_false_eq_true, Nat.reduceAdd, *]; done) | (refine id ?_; simp only [gxD]; omega)) only [↓gxPre, gxPost, ↓reduceIte, Nat.reduceEqDiff, reduceCtorEq, Nat.reduceAdd, b0g, b6g, ne_eq, not_true]
  refine callR_of (w_toScheme_ow (hv0.ext E) m0) ?_
  rintro _ H23 ⟨e23, y23, rfl, o23⟩
  have n23 := e23.n
  replace b0g := (e23.blk _ (by omega)).trans b0g
  replace b6g := (e23.blk _ (by omega)).trans b6g
  replace o5 := o5.ext e23
  replace o6 := o6.ext e23
  replace o7 := o7.ext e23
  replace o8 := o8.ext e23
  replace o9 := o9.ext e23
  replace E := E.trans e23
  have v23o := o23.one
  simp (disch := first | assumption | omega | rfl | (refine id ?_; simp only [gxD, ne_eq, reduceCtorEq, not_false_eq_true, Nat.reduceAdd, *]; done) | (refine id ?_; simp only [gxD]; omega)) only [↓gxPre, gxPost, ↓reduceIte, Nat.reduceEqDiff, reduceCtorEq, Nat.reduceAdd, b0g, b6g]
  refine callR_of (w_toFloat32S_ow (hv1.ext E) m1) ?_
  rintro y24 H24 ⟨e24, o24⟩
  have n24 := e24.n
  replace b0g := (e24.blk _ (by omega)).trans b0g
  replace b6g := (e24.blk _ (by omega)).trans b6g
  replace o5 := o5.ext e24
  replace o6 := o6.ext e24
  replace o7 := o7.ext e24
  replace o8 := o8.ext e24
  replace o9 := o9.ext e24
  replace o23 := o23.ext e24
  replace E := E.trans e24
  simp (disch := first | assumption | omega | rfl | (refine id ?_; simp only [gxD, ne_eq, reduceCtorEq, not_false_eq_true, Nat.reduceAdd, *]; done) | (refine id ?_; simp only [gxD]; omega)) only [↓gxPre, gxPost, ↓reduceIte, Nat.reduceEqDiff, reduceCtorEq, Nat.reduceAdd, b0g, b6g]
  refine callR_of (w_toFloat32S_ow (hv2.ext E) m2) ?_
  rintro y25 H25 ⟨e25, o25⟩
  have n25 := e25.n
  replace b0g := (e25.blk _ (by omega)).trans b0g
  replace b6g := (e25.blk _ (by omega)).trans b6g
  replace o5 := o5.ext e25
  replace o6 := o6.ext e25
  replace o7 := o7.ext e25
  replace o8 := o8.ext e25
  replace o9 := o9.ext e25
  replace o23 := o23.ext e25
  replace o24 := o24.ext e25
  replace E := E.trans e25
  simp (disch := first | assumption | omega | rfl | (refine id ?_; simp only [gxD, ne_eq, reduceCtorEq, not_false_eq_true, Nat.reduceAdd, *]; done) | (refine id ?_; simp only [gxD]; omega)) only [↓gxPre, gxPost, ↓reduceIte, Nat.reduceEqDiff, reduceCtorEq, Nat.reduceAdd, b0g, b6g]
  refine callR_of (i_DropOnce_law ⟨o23.fs, m0, hw0⟩ b0 ⟨o24.fs, m1, hw1⟩ ⟨o25.fs, m2, hw2⟩) ?_
  rintro _ H26 ⟨e26, y26, rfl, o26, q26⟩
  have n26 := e26.n
  replace b0g := (e26.blk _ (by omega)).trans b0g
  replace b6g := (e26.blk _ (by omega)).trans b6g
  replace o5 := o5.ext e26
  replace o6 := o6.ext e26
  replace o7 := o7.ext e26
  replace o8 := o8.ext e26
  replace o9 := o9.ext e26
  replace E := E.trans e26
  simp (disch := first | assumption | omega | rfl | (refine id ?_; simp only [gxD, ne_eq, reduceCtorEq, not_false_eq_true, Nat.reduceAdd, *]; done) | (refine id ?_; simp only [gxD]; omega)) only [↓gxPre, gxPost, ↓reduceIte, Nat.reduceEqDiff, reduceCtorEq, Nat.reduceAdd, b0g, b6g]
  refine callR_ext (w_eqFloat32S_ow o26.fs o5.fs q26) ?_
  intro H27 n27 bb27
  have e27 : Ext H26 H27 := ⟨n27, bb27⟩
  replace b0g := (e27.blk _ (by omega)).trans b0g
  replace b6g := (e27.blk _ (by omega)).trans b6g
  replace o5 := o5.ext e27
  replace o6 := o6.ext e27
  replace o7 := o7.ext e27
  replace o8 := o8.ext e27
  replace o9 := o9.ext e27
  replace o26 := o26.ext e27
  replace E := E.trans e27
  simp (disch := first | assumption | omega | rfl | (refine id ?_; simp only [gxD, ne_eq, reduceCtorEq, not_false_eq_true, Nat.reduceAdd, *]; done) | (refine id ?_; simp only [gxD]; omega)) only [↓gxPre, gxPost, ↓reduceIte, Nat.reduceEqDiff, reduceCtorEq, Nat.reduceAdd, b0g, b6g, ne_eq, not_true]
  refine callR_ext (w_heldFloat32S_ow o9 (by first | omega | (simp only [List.length_map, List.length_range]; omega)) (by first | omega | (simp only [List.length_map, List.length_range]; omega)) (by first | omega | (simp only [List.length_map, List.length_range]; omega))) ?_
  intro H28 n28 bb28
  have e28 : Ext H27 H28 := ⟨n28, bb28⟩
  replace b0g := (e28.blk _ (by omega)).trans b0g
  replace b6g := (e28.blk _ (by omega)).trans b6g
  replace o5 := o5.ext e28
  replace o6 := o6.ext e28
  replace o7 := o7.ext e28
  replace o8 := o8.ext e28
  replace o9 := o9.ext e28
  replace o26 := o26.ext e28
  replace E := E.trans e28
  simp (disch := first | assumption | omega | rfl | (refine id ?_; simp only [gxD, ne_eq, reduceCtorEq, not_false_eq_true, Nat.reduceAdd, *]; done) | (refine id ?_; simp only [gxD]; omega)) only [↓gxPre, gxPost, ↓reduceIte, Nat.reduceEqDiff, reduceCtorEq, Nat.reduceAdd, b0g, b6g, ne_eq, not_true]
end Go.Proofs.Ytkojmlpaamdhoac
