/- The law FnExactBandAlone, walked: it returns true. -/
import Derived.Test.YtkojmlpaamdhoaeBandAloneXFToXS
namespace Go.Proofs.Ytkojmlpaamdhoae
open Go.Gx
set_option maxRecDepth 100000
set_option linter.unusedSimpArgs false
set_option linter.unusedVariables false
set_option maxHeartbeats 2000000
theorem w_FnExactBandAlone_ok {H : Heap} {v0 : Value} {xs0 : List Nat} (hv0 : FS H v0 xs0) (hw0 : W32 xs0) (hl0 : xs0.length ≤ 9223372036854775807) {u0 : Value} {ys0 : List (List Nat)} (hu0 : SS H u0 ys0) (hx0 : W32S ys0) (hm0 : ys0.length ≤ 9223372036854775807) (hr0 : ∀ j, (ys0.getD j []).length ≤ 9223372036854775807) {v1 : Value} {xs1 : List Nat} (hv1 : FS H v1 xs1) (hw1 : W32 xs1) (hl1 : xs1.length ≤ 9223372036854775807) {a2 : Int} (b2 : -9223372036854775808 ≤ a2 ∧ a2 ≤ 9223372036854775807) : ACalls Try.prog n_w_FnExactBandAlone [.agg #[v0, u0], .agg #[v1], .int .i64 a2] H fun r H' => r = .bool true := by
  refine k_w_FnExactBandAlone.run rfl ?_
  unfold c_w_FnExactBandAlone
  have E : Ext H H := Ext.refl H
  have one0 := hv0.one
  have two0 := hu0.one'
  have one1 := hv1.one
  simp (disch := first | assumption | omega | rfl | (refine id ?_; simp only [gxD, ne_eq, reduceCtorEq, not_false_eq_true, Nat.reduceAdd, *]; done) | (refine id ?_; simp only [gxD]; omega)) only [↓gxPre, gxPost, ↓reduceIte, Nat.reduceEqDiff, reduceCtorEq, Nat.reduceAdd]
  refine callR_new2 ?_
  intro G0 e0g b0g b0h n0g
  replace E := E.trans e0g
  by_cases s1 : (1048576 : Int) < (xs0.length + totL ys0 : Nat)
  · refine callR_ext (w_szBands_ow (hv0.ext E) (hu0.ext E) (by omega) (by omega) hl0 hm0 hr0) ?_
    intro H1 n1 bb1
    simp (disch := first | assumption | omega | rfl | (refine id ?_; simp only [gxD, ne_eq, reduceCtorEq, not_false_eq_true, Nat.reduceAdd, *]; done) | (refine id ?_; simp only [gxD]; omega)) only [↓gxPre, gxPost, ↓reduceIte, Nat.reduceEqDiff, reduceCtorEq, Nat.reduceAdd, b0g, b0h, if_pos s1, Int.reduceLT]
  refine callR_ext (w_szBands_ow (hv0.ext E) (hu0.ext E) (by omega) (by omega) hl0 hm0 hr0) ?_
  intro H1 n1 bb1
  rw [if_neg s1]
  have e1 : Ext G0 H1 := ⟨n1, bb1⟩
  replace b0g := (e1.blk _ (by omega)).trans b0g
  replace b0h := (e1.blk _ (by omega)).trans b0h
  replace E := E.trans e1
  have z1 : ¬ ((1048576 : Int) - (xs0.length + totL ys0 : Nat) < 0) := by omega
  simp (disch := first | assumption | omega | rfl | (refine id ?_; simp only [gxD, ne_eq, reduceCtorEq, not_false_eq_true, Nat.reduceAdd, *]; done) | (refine id ?_; simp only [gxD]; omega)) only [↓gxPre, gxPost, ↓reduceIte, Nat.reduceEqDiff, reduceCtorEq, Nat.reduceAdd, b0g, b0h, z1]
  by_cases s2 : ((1048576 - (xs0.length + totL ys0 : Nat)) : Int) < xs1.length
  · refine callR_ext (w_szPair_ow (hv1.ext E) (by omega) (by omega) hl1) ?_
    intro H2 n2 bb2
    simp (disch := first | assumption | omega | rfl | (refine id ?_; simp only [gxD, ne_eq, reduceCtorEq, not_false_eq_true, Nat.reduceAdd, *]; done) | (refine id ?_; simp only [gxD]; omega)) only [↓gxPre, gxPost, ↓reduceIte, Nat.reduceEqDiff, reduceCtorEq, Nat.reduceAdd, b0g, b0h, if_pos s2, Int.reduceLT]
  refine callR_ext (w_szPair_ow (hv1.ext E) (by omega) (by omega) hl1) ?_
  intro H2 n2 bb2
  rw [if_neg s2]
  have e2 : Ext H1 H2 := ⟨n2, bb2⟩
  replace b0g := (e2.blk _ (by omega)).trans b0g
  replace b0h := (e2.blk _ (by omega)).trans b0h
  replace E := E.trans e2
  have z2 : ¬ (((1048576 - (xs0.length + totL ys0 : Nat)) : Int) - xs1.length < 0) := by omega
  simp (disch := first | assumption | omega | rfl | (refine id ?_; simp only [gxD, ne_eq, reduceCtorEq, not_false_eq_true, Nat.reduceAdd, *]; done) | (refine id ?_; simp only [gxD]; omega)) only [↓gxPre, gxPost, ↓reduceIte, Nat.reduceEqDiff, reduceCtorEq, Nat.reduceAdd, b0g, b0h, z2]
  have m0 : xs0.length ≤ 2 ^ 40 := by omega
  have t0 : totL ys0 ≤ 2 ^ 40 := by omega
  have m1 : xs1.length ≤ 2 ^ 40 := by omega
  refine callR_of (w_toBands_ow (hv0.ext E) (hu0.ext E) m0 t0) ?_
  rintro _ H3 ⟨e3, y3, z3, rfl, o3⟩
  have n3 := e3.n
  replace b0g := (e3.blk _ (by omega)).trans b0g
  replace b0h := (e3.blk _ (by omega)).trans b0h
  replace E := E.trans e3
  have v3o := o3.co.one
  have v3d := o3.de.one
  simp (disch := first | assumption | omega | rfl | (refine id ?_; simp only [gxD, ne_eq, reduceCtorEq, not_false_eq_true, Nat.reduceAdd, *]; done) | (refine id ?_; simp only [gxD]; omega)) only [↓gxPre, gxPost, ↓reduceIte, Nat.reduceEqDiff, reduceCtorEq, Nat.reduceAdd, b0g, b0h]
  refine callR_of (w_toPair_ow (hv1.ext E) m1) ?_
  rintro _ H4 ⟨e4, y4, rfl, o4⟩
  have n4 := e4.n
  replace b0g := (e4.blk _ (by omega)).trans b0g
  replace b0h := (e4.blk _ (by omega)).trans b0h
  replace o3 := o3.ext e4
  replace E := E.trans e4
  have v4o := o4.one
  simp (disch := first | assumption | omega | rfl | (refine id ?_; simp only [gxD, ne_eq, reduceCtorEq, not_false_eq_true, Nat.reduceAdd, *]; done) | (refine id ?_; simp only [gxD]; omega)) only [↓gxPre, gxPost, ↓reduceIte, Nat.reduceEqDiff, reduceCtorEq, Nat.reduceAdd, b0g, b0h]
  refine callR_of (s_BandAlone_law ⟨o3.fs, m0, hw0⟩ ⟨o3.ss, t0, hx0⟩ ⟨o4.fs, m1, hw1⟩ b2) ?_
  rintro _ H5 ⟨e5, y5, rfl, o5, q5⟩
  have n5 := e5.n
  replace b0g := (e5.blk _ (by omega)).trans b0g
  replace b0h := (e5.blk _ (by omega)).trans b0h
  replace E := E.trans e5
  simp (disch := first | assumption | omega | rfl | (refine id ?_; simp only [gxD, ne_eq, reduceCtorEq, not_false_eq_true, Nat.reduceAdd, *]; done) | (refine id ?_; simp only [gxD]; omega)) only [↓gxPre, gxPost, ↓reduceIte, Nat.reduceEqDiff, reduceCtorEq, Nat.reduceAdd, b0g, b0h]
  refine callR_of (w_toBands_ow (hv0.ext E) (hu0.ext E) m0 t0) ?_
  rintro _ H6 ⟨e6, y6, z6, rfl, o6⟩
  have n6 := e6.n
  replace b0g := (e6.blk _ (by omega)).trans b0g
  replace b0h := (e6.blk _ (by omega)).trans b0h
  replace o5 := o5.ext e6
  replace E := E.trans e6
  have v6o := o6.co.one
  have v6d := o6.de.one
  simp (disch := first | assumption | omega | rfl | (refine id ?_; simp only [gxD, ne_eq, reduceCtorEq, not_false_eq_true, Nat.reduceAdd, *]; done) | (refine id ?_; simp only [gxD]; omega)) only [↓gxPre, gxPost, ↓reduceIte, Nat.reduceEqDiff, reduceCtorEq, Nat.reduceAdd, b0g, b0h]
  refine callR_new ?_
  intro G6 e6g b6g n6g
  replace b0g := (e6g.blk _ (by omega)).trans b0g
  replace b0h := (e6g.blk _ (by omega)).trans b0h
  replace o5 := o5.ext e6g
  replace o6 := o6.ext e6g
  replace E := E.trans e6g
  refine callR_of (w_toPair_ow (hv1.ext E) m1) ?_
  rintro _ H7 ⟨e7, y7, rfl, o7⟩
  have n7 := e7.n
  replace b0g := (e7.blk _ (by omega)).trans b0g
  replace b0h := (e7.blk _ (by omega)).trans b0h
  replace b6g := (e7.blk _ (by omega)).trans b6g
  replace o5 := o5.ext e7
  replace o6 := o6.ext e7
  replace E := E.trans e7
  have v7o := o7.one
  simp (disch := first | assumption | omega | rfl | (refine id ?_; simp only [gxD, ne_eq, reduceCtorEq, not_false_eq_true, Nat.reduceAdd, *]; done) | (refine id ?_; simp only [gxD]; omega)) only [↓gxPre, gxPost, ↓reduceIte, Nat.reduceEqDiff, reduceCtorEq, Nat.reduceAdd, b0g, b0h, b6g]
  refine callR_new ?_
  intro G7 e7g b7g n7g
  replace b0g := (e7g.blk _ (by omega)).trans b0g
  replace b0h := (e7g.blk _ (by omega)).trans b0h
  replace b6g := (e7g.blk _ (by omega)).trans b6g
  replace o5 := o5.ext e7g
  replace o6 := o6.ext e7g
  replace o7 := o7.ext e7g
  replace E := E.trans e7g
  refine callR_of (i_BandAlone_law ⟨o6.fs, m0, hw0⟩ ⟨o6.ss, t0, hx0⟩ ⟨o7.fs, m1, hw1⟩ b2) ?_
  rintro _ H8 ⟨e8, y8, rfl, o8, q8⟩
  have n8 := e8.n
  replace b0g := (e8.blk _ (by omega)).trans b0g
  replace b0h := (e8.blk _ (by omega)).trans b0h
  replace b6g := (e8.blk _ (by omega)).trans b6g
  replace b7g := (e8.blk _ (by omega)).trans b7g
  replace o5 := o5.ext e8
  replace o6 := o6.ext e8
  replace o7 := o7.ext e8
  replace E := E.trans e8
  simp (disch := first | assumption | omega | rfl | (refine id ?_; simp only [gxD, ne_eq, reduceCtorEq, not_false_eq_true, Nat.reduceAdd, *]; done) | (refine id ?_; simp only [gxD]; omega)) only [↓gxPre, gxPost, ↓reduceIte, Nat.reduceEqDiff, reduceCtorEq, Nat.reduceAdd, b0g, b0h, b6g, b7g]
  refine callR_ext (w_eqFloat32S_ow o8.fs o5.fs q8) ?_
  intro H9 n9 bb9
  have e9 : Ext H8 H9 := ⟨n9, bb9⟩
  replace b0g := (e9.blk _ (by omega)).trans b0g
  replace b0h := (e9.blk _ (by omega)).trans b0h
  replace b6g := (e9.blk _ (by omega)).trans b6g
  replace b7g := (e9.blk _ (by omega)).trans b7g
  replace o5 := o5.ext e9
  replace o6 := o6.ext e9
  replace o7 := o7.ext e9
  replace o8 := o8.ext e9
  replace E := E.trans e9
  simp (disch := first | assumption | omega | rfl | (refine id ?_; simp only [gxD, ne_eq, reduceCtorEq, not_false_eq_true, Nat.reduceAdd, *]; done) | (refine id ?_; simp only [gxD]; omega)) only [↓gxPre, gxPost, ↓reduceIte, Nat.reduceEqDiff, reduceCtorEq, Nat.reduceAdd, b0g, b0h, b6g, b7g, ne_eq, not_true]
  refine callR_of (w_toBands_ow (hv0.ext E) (hu0.ext E) m0 t0) ?_
  rintro _ H10 ⟨e10, y10, z10, rfl, o10⟩
  have n10 := e10.n
  replace b0g := (e10.blk _ (by omega)).trans b0g
  replace b0h := (e10.blk _ (by omega)).trans b0h
  replace b6g := (e10.blk _ (by omega)).trans b6g
  replace b7g := (e10.blk _ (by omega)).trans b7g
  replace o5 := o5.ext e10
  replace o6 := o6.ext e10
  replace o7 := o7.ext e10
  replace o8 := o8.ext e10
  replace E := E.trans e10
  have v10o := o10.co.one
  have v10d := o10.de.one
  simp (disch := first | assumption | omega | rfl | (refine id ?_; simp only [gxD, ne_eq, reduceCtorEq, not_false_eq_true, Nat.reduceAdd, *]; done) | (refine id ?_; simp only [gxD]; omega)) only [↓gxPre, gxPost, ↓reduceIte, Nat.reduceEqDiff, reduceCtorEq, Nat.reduceAdd, b0g, b0h, b6g, b7g]
  refine callR_ext (w_eqBands_ow o6.fs o6.ss o10.fs o10.ss m0 t0) ?_
  intro H11 n11 bb11
  have e11 : Ext H10 H11 := ⟨n11, bb11⟩
  replace b0g := (e11.blk _ (by omega)).trans b0g
  replace b0h := (e11.blk _ (by omega)).trans b0h
  replace b6g := (e11.blk _ (by omega)).trans b6g
  replace b7g := (e11.blk _ (by omega)).trans b7g
  replace o5 := o5.ext e11
  replace o6 := o6.ext e11
  replace o7 := o7.ext e11
  replace o8 := o8.ext e11
  replace E := E.trans e11
  simp (disch := first | assumption | omega | rfl | (refine id ?_; simp only [gxD, ne_eq, reduceCtorEq, not_false_eq_true, Nat.reduceAdd, *]; done) | (refine id ?_; simp only [gxD]; omega)) only [↓gxPre, gxPost, ↓reduceIte, Nat.reduceEqDiff, reduceCtorEq, Nat.reduceAdd, b0g, b0h, b6g, b7g, ne_eq, not_true]
  refine callR_of (w_toPair_ow (hv1.ext E) m1) ?_
  rintro _ H12 ⟨e12, y12, rfl, o12⟩
  have n12 := e12.n
  replace b0g := (e12.blk _ (by omega)).trans b0g
  replace b0h := (e12.blk _ (by omega)).trans b0h
  replace b6g := (e12.blk _ (by omega)).trans b6g
  replace b7g := (e12.blk _ (by omega)).trans b7g
  replace o5 := o5.ext e12
  replace o6 := o6.ext e12
  replace o7 := o7.ext e12
  replace o8 := o8.ext e12
  replace E := E.trans e12
  have v12o := o12.one
  simp (disch := first | assumption | omega | rfl | (refine id ?_; simp only [gxD, ne_eq, reduceCtorEq, not_false_eq_true, Nat.reduceAdd, *]; done) | (refine id ?_; simp only [gxD]; omega)) only [↓gxPre, gxPost, ↓reduceIte, Nat.reduceEqDiff, reduceCtorEq, Nat.reduceAdd, b0g, b0h, b6g, b7g]
  refine callR_ext (w_eqPair_ow o7.fs o12.fs m1) ?_
  intro H13 n13 bb13
  have e13 : Ext H12 H13 := ⟨n13, bb13⟩
  replace b0g := (e13.blk _ (by omega)).trans b0g
  replace b0h := (e13.blk _ (by omega)).trans b0h
  replace b6g := (e13.blk _ (by omega)).trans b6g
  replace b7g := (e13.blk _ (by omega)).trans b7g
  replace o5 := o5.ext e13
  replace o6 := o6.ext e13
  replace o7 := o7.ext e13
  replace o8 := o8.ext e13
  replace E := E.trans e13
  simp (disch := first | assumption | omega | rfl | (refine id ?_; simp only [gxD, ne_eq, reduceCtorEq, not_false_eq_true, Nat.reduceAdd, *]; done) | (refine id ?_; simp only [gxD]; omega)) only [↓gxPre, gxPost, ↓reduceIte, Nat.reduceEqDiff, reduceCtorEq, Nat.reduceAdd, b0g, b0h, b6g, b7g, ne_eq, not_true]
  refine callR_of (w_markBands_ow o6 (by first | omega | (simp only [List.length_map, List.length_range]; omega)) (by first | omega | (simp only [List.length_map, List.length_range]; omega)) (by first | exact tot_bd m0 t0)) ?_
  rintro _ H14 ⟨rfl, p14, f14⟩
  have n14 := f14.n
  replace o6 := p14
  have hz14 := tot_bd m0 t0
  unfold totL at hz14
  replace b0g := (f14.blk _ (by omega) (by omega)).trans b0g
  replace b0h := (f14.blk _ (by omega) (by omega)).trans b0h
  replace b6g := (f14.blk _ (by omega) (by omega)).trans b6g
  replace b7g := (f14.blk _ (by omega) (by omega)).trans b7g
  replace o5 := o5.off f14 (by omega)
  replace o7 := o7.off f14 (by omega)
  replace o8 := o8.off f14 (by omega)
  replace E := E.mark f14 (by omega)
  simp (disch := first | assumption | omega | rfl | (refine id ?_; simp only [gxD, ne_eq, reduceCtorEq, not_false_eq_true, Nat.reduceAdd, *]; done) | (refine id ?_; simp only [gxD]; omega)) only [↓gxPre, gxPost, ↓reduceIte, Nat.reduceEqDiff, reduceCtorEq, Nat.reduceAdd, b0g, b0h, b6g, b7g, ne_eq, not_true]
  refine callR_of (w_markPair_ow o7 (by first | omega | (simp only [List.length_map, List.length_range]; omega)) (by first | omega | (simp only [List.length_map, List.length_range]; omega)) (by first | omega | (simp only [List.length_map, List.length_range]; omega))) ?_
  rintro _ H15 ⟨rfl, p15, f15⟩
  have n15 := f15.n
  replace o7 := p15
  replace b0g := (f15.blk _ (by omega) (by omega)).trans b0g
  replace b0h := (f15.blk _ (by omega) (by omega)).trans b0h
  replace b6g := (f15.blk _ (by omega) (by omega)).trans b6g
  replace b7g := (f15.blk _ (by omega) (by omega)).trans b7g
  replace o5 := o5.off f15 (by omega)
  replace o6 := o6.off f15 (by omega)
  replace o8 := o8.off f15 (by omega)
  replace E := E.mark f15 (by omega)
  simp (disch := first | assumption | omega | rfl | (refine id ?_; simp only [gxD, ne_eq, reduceCtorEq, not_false_eq_true, Nat.reduceAdd, *]; done) | (refine id ?_; simp only [gxD]; omega)) only [↓gxPre, gxPost, ↓reduceIte, Nat.reduceEqDiff, reduceCtorEq, Nat.reduceAdd, b0g, b0h, b6g, b7g, ne_eq, not_true]
  refine callR_ext (w_eqFloat32S_ow o8.fs o5.fs q8) ?_
  intro H16 n16 bb16
  have e16 : Ext H15 H16 := ⟨n16, bb16⟩
  replace b0g := (e16.blk _ (by omega)).trans b0g
  replace b0h := (e16.blk _ (by omega)).trans b0h
  replace b6g := (e16.blk _ (by omega)).trans b6g
  replace b7g := (e16.blk _ (by omega)).trans b7g
  replace o5 := o5.ext e16
  replace o6 := o6.ext e16
  replace o7 := o7.ext e16
  replace o8 := o8.ext e16
  replace E := E.trans e16
  simp (disch := first | assumption | omega | rfl | (refine id ?_; simp only [gxD, ne_eq, reduceCtorEq, not_false_eq_true, Nat.reduceAdd, *]; done) | (refine id ?_; simp only [gxD]; omega)) only [↓gxPre, gxPost, ↓reduceIte, Nat.reduceEqDiff, reduceCtorEq, Nat.reduceAdd, b0g, b0h, b6g, b7g, ne_eq, not_true]
  refine callR_of (w_markFloat32S_ow o8 (by first | omega | (simp only [List.length_map, List.length_range]; omega)) (by first | omega | (simp only [List.length_map, List.length_range]; omega)) (by first | omega | (simp only [List.length_map, List.length_range]; omega))) ?_
  rintro _ H17 ⟨rfl, p17, g17⟩
  have f17 := g17.off o8
  have n17 := f17.n
  replace o8 := p17
  replace b0g := (f17.blk _ (by omega) (by omega)).trans b0g
  replace b0h := (f17.blk _ (by omega) (by omega)).trans b0h
  replace b6g := (f17.blk _ (by omega) (by omega)).trans b6g
  replace b7g := (f17.blk _ (by omega) (by omega)).trans b7g
  replace o5 := o5.off f17 (by omega)
  replace o6 := o6.off f17 (by omega)
  replace o7 := o7.off f17 (by omega)
  replace E := E.mark f17 (by omega)
  simp (disch := first | assumption | omega | rfl | (refine id ?_; simp only [gxD, ne_eq, reduceCtorEq, not_false_eq_true, Nat.reduceAdd, *]; done) | (refine id ?_; simp only [gxD]; omega)) only [↓gxPre, gxPost, ↓reduceIte, Nat.reduceEqDiff, reduceCtorEq, Nat.reduceAdd, b0g, b0h, b6g, b7g, ne_eq, not_true]
  refine callR_ext (w_heldFloat32S_ow o8 (by first | omega | (simp only [List.length_map, List.length_range]; omega)) (by first | omega | (simp only [List.length_map, List.length_range]; omega)) (by first | omega | (simp only [List.length_map, List.length_range]; omega))) ?_
  intro H18 n18 bb18
  have e18 : Ext H17 H18 := ⟨n18, bb18⟩
  replace b0g := (e18.blk _ (by omega)).trans b0g
  replace b0h := (e18.blk _ (by omega)).trans b0h
  replace b6g := (e18.blk _ (by omega)).trans b6g
  replace b7g := (e18.blk _ (by omega)).trans b7g
  replace o5 := o5.ext e18
  replace o6 := o6.ext e18
  replace o7 := o7.ext e18
  replace o8 := o8.ext e18
  replace E := E.trans e18
  simp (disch := first | assumption | omega | rfl | (refine id ?_; simp only [gxD, ne_eq, reduceCtorEq, not_false_eq_true, Nat.reduceAdd, *]; done) | (refine id ?_; simp only [gxD]; omega)) only [↓gxPre, gxPost, ↓reduceIte, Nat.reduceEqDiff, reduceCtorEq, Nat.reduceAdd, b0g, b0h, b6g, b7g, ne_eq, not_true]
  refine callR_of (w_toBands_ow (hv0.ext E) (hu0.ext E) m0 t0) ?_
  rintro _ H19 ⟨e19, y19, z19, rfl, o19⟩
  have n19 := e19.n
  replace b0g := (e19.blk _ (by omega)).trans b0g
  replace b0h := (e19.blk _ (by omega)).trans b0h
  replace b6g := (e19.blk _ (by omega)).trans b6g
  replace b7g := (e19.blk _ (by omega)).trans b7g
  replace o5 := o5.ext e19
  replace o6 := o6.ext e19
  replace o7 := o7.ext e19
  replace o8 := o8.ext e19
  replace E := E.trans e19
  have v19o := o19.co.one
  have v19d := o19.de.one
  simp (disch := first | assumption | omega | rfl | (refine id ?_; simp only [gxD, ne_eq, reduceCtorEq, not_false_eq_true, Nat.reduceAdd, *]; done) | (refine id ?_; simp only [gxD]; omega)) only [↓gxPre, gxPost, ↓reduceIte, Nat.reduceEqDiff, reduceCtorEq, Nat.reduceAdd, b0g, b0h, b6g, b7g]
  refine callR_of (w_toPair_ow (hv1.ext E) m1) ?_
  rintro _ H20 ⟨e20, y20, rfl, o20⟩
  have n20 := e20.n
  replace b0g := (e20.blk _ (by omega)).trans b0g
  replace b0h := (e20.blk _ (by omega)).trans b0h
  replace b6g := (e20.blk _ (by omega)).trans b6g
  replace b7g := (e20.blk _ (by omega)).trans b7g
  replace o5 := o5.ext e20
  replace o6 := o6.ext e20
  replace o7 := o7.ext e20
  replace o8 := o8.ext e20
  replace o19 := o19.ext e20
  replace E := E.trans e20
  have v20o := o20.one
  simp (disch := first | assumption | omega | rfl | (refine id ?_; simp only [gxD, ne_eq, reduceCtorEq, not_false_eq_true, Nat.reduceAdd, *]; done) | (refine id ?_; simp only [gxD]; omega)) only [↓gxPre, gxPost, ↓reduceIte, Nat.reduceEqDiff, reduceCtorEq, Nat.reduceAdd, b0g, b0h, b6g, b7g]
  refine callR_of (i_BandAlone_law ⟨o19.fs, m0, hw0⟩ ⟨o19.ss, t0, hx0⟩ ⟨o20.fs, m1, hw1⟩ b2) ?_
  rintro _ H21 ⟨e21, y21, rfl, o21, q21⟩
  have n21 := e21.n
  replace b0g := (e21.blk _ (by omega)).trans b0g
  replace b0h := (e21.blk _ (by omega)).trans b0h
  replace b6g := (e21.blk _ (by omega)).trans b6g
  replace b7g := (e21.blk _ (by omega)).trans b7g
  replace o5 := o5.ext e21
  replace o6 := o6.ext e21
  replace o7 := o7.ext e21
  replace o8 := o8.ext e21
  replace E := E.trans e21
  simp (disch := first | assumption | omega | rfl | (refine id ?_; simp only [gxD, ne_eq, reduceCtorEq, not_false_eq_true, Nat.reduceAdd, *]; done) | (refine id ?_; simp only [gxD]; omega)) only [↓gxPre, gxPost, ↓reduceIte, Nat.reduceEqDiff, reduceCtorEq, Nat.reduceAdd, b0g, b0h, b6g, b7g]
  refine callR_ext (w_eqFloat32S_ow o21.fs o5.fs q21) ?_
  intro H22 n22 bb22
  have e22 : Ext H21 H22 := ⟨n22, bb22⟩
  replace b0g := (e22.blk _ (by omega)).trans b0g
  replace b0h := (e22.blk _ (by omega)).trans b0h
  replace b6g := (e22.blk _ (by omega)).trans b6g
  replace b7g := (e22.blk _ (by omega)).trans b7g
  replace o5 := o5.ext e22
  replace o6 := o6.ext e22
  replace o7 := o7.ext e22
  replace o8 := o8.ext e22
  replace o21 := o21.ext e22
  replace E := E.trans e22
  simp (disch := first | assumption | omega | rfl | (refine id ?_; simp only [gxD, ne_eq, reduceCtorEq, not_false_eq_true, Nat.reduceAdd, *]; done) | (refine id ?_; simp only [gxD]; omega)) only [↓gxPre, gxPost, ↓reduceIte, Nat.reduceEqDiff, reduceCtorEq, Nat.reduceAdd, b0g, b0h, b6g, b7g, ne_eq, not_true]
  refine callR_ext (w_heldFloat32S_ow o8 (by first | omega | (simp only [List.length_map, List.length_range]; omega)) (by first | omega | (simp only [List.length_map, List.length_range]; omega)) (by first | omega | (simp only [List.length_map, List.length_range]; omega))) ?_
  intro H23 n23 bb23
  have e23 : Ext H22 H23 := ⟨n23, bb23⟩
  replace b0g := (e23.blk _ (by omega)).trans b0g
  replace b0h := (e23.blk _ (by omega)).trans b0h
  replace b6g := (e23.blk _ (by omega)).trans b6g
  replace b7g := (e23.blk _ (by omega)).trans b7g
  replace o5 := o5.ext e23
  replace o6 := o6.ext e23
  replace o7 := o7.ext e23
  replace o8 := o8.ext e23
  replace o21 := o21.ext e23
  replace E := E.trans e23
  simp (disch := first | assumption | omega | rfl | (refine id ?_; simp only [gxD, ne_eq, reduceCtorEq, not_false_eq_true, Nat.reduceAdd, *]; done) | (refine id ?_; simp only [gxD]; omega)) only [↓gxPre, gxPost, ↓reduceIte, Nat.reduceEqDiff, reduceCtorEq, Nat.reduceAdd, b0g, b0h, b6g, b7g, ne_eq, not_true]
end Go.Proofs.Ytkojmlpaamdhoae
