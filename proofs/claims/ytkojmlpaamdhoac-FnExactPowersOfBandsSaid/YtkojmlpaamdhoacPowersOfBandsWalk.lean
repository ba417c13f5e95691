/- The law FnExactPowersOfBands, walked: it returns true. -/
import Derived.Test.YtkojmlpaamdhoacPowersOfBandsP
namespace Go.Proofs.Ytkojmlpaamdhoac
open Go.Gx
set_option maxRecDepth 100000
set_option linter.unusedSimpArgs false
set_option linter.unusedVariables false
theorem w_FnExactPowersOfBands_ok {H : Heap} {v0 : Value} {xs0 : List Nat} (hv0 : FS H v0 xs0) (hw0 : W32 xs0) (hl0 : xs0.length ≤ 9223372036854775807) {u0 : Value} {ys0 : List (List Nat)} (hu0 : SS H u0 ys0) (hx0 : W32S ys0) (hm0 : ys0.length ≤ 9223372036854775807) (hr0 : ∀ j, (ys0.getD j []).length ≤ 9223372036854775807) : ACalls Try.prog n_w_FnExactPowersOfBands [.agg #[v0, u0]] H fun r H' => r = .bool true := by
  refine k_w_FnExactPowersOfBands.run rfl ?_
  unfold c_w_FnExactPowersOfBands
  have E : Ext H H := Ext.refl H
  have one0 := hv0.one
  have two0 := hu0.one'
  simp (disch := first | assumption | omega | rfl | (refine id ?_; simp only [gxD, ne_eq, reduceCtorEq, not_false_eq_true, Nat.reduceAdd, *]; done) | (refine id ?_; simp only [gxD]; omega)) only [↓gxPre, gxPost, ↓reduceIte, Nat.reduceEqDiff, reduceCtorEq, Nat.reduceAdd]
  refine callR_new ?_
  intro G0 e0g b0g n0g
  replace E := E.trans e0g
  by_cases s1 : (1048576 : Int) < (xs0.length + totL ys0 : Nat)
  · refine callR_ext (w_szBands_ow (hv0.ext E) (hu0.ext E) (by omega) (by omega) hl0 hm0 hr0) ?_
    intro H1 n1 bb1
    simp (disch := first | assumption | omega | rfl | (refine id ?_; simp only [gxD, ne_eq, reduceCtorEq, not_false_eq_true, Nat.reduceAdd, *]; done) | (refine id ?_; simp only [gxD]; omega)) only [↓gxPre, gxPost, ↓reduceIte, Nat.reduceEqDiff, reduceCtorEq, Nat.reduceAdd, b0g, if_pos s1, Int.reduceLT]
  refine callR_ext (w_szBands_ow (hv0.ext E) (hu0.ext E) (by omega) (by omega) hl0 hm0 hr0) ?_
  intro H1 n1 bb1
  rw [if_neg s1]
  have e1 : Ext G0 H1 := ⟨n1, bb1⟩
  replace b0g := (e1.blk _ (by omega)).trans b0g
  replace E := E.trans e1
  have z1 : ¬ ((1048576 : Int) - (xs0.length + totL ys0 : Nat) < 0) := by omega
  simp (disch := first | assumption | omega | rfl | (refine id ?_; simp only [gxD, ne_eq, reduceCtorEq, not_false_eq_true, Nat.reduceAdd, *]; done) | (refine id ?_; simp only [gxD]; omega)) only [↓gxPre, gxPost, ↓reduceIte, Nat.reduceEqDiff, reduceCtorEq, Nat.reduceAdd, b0g, z1]
  have m0 : xs0.length ≤ 2 ^ 40 := by omega
  have t0 : totL ys0 ≤ 2 ^ 40 := by omega
  refine callR_of (w_toBands_ow (hv0.ext E) (hu0.ext E) m0 t0) ?_
  rintro _ H2 ⟨e2, y2, z2, rfl, o2⟩
  have n2 := e2.n
  replace b0g := (e2.blk _ (by omega)).trans b0g
  replace E := E.trans e2
  have v2o := o2.co.one
  have v2d := o2.de.one
  simp (disch := first | assumption | omega | rfl | (refine id ?_; simp only [gxD, ne_eq, reduceCtorEq, not_false_eq_true, Nat.reduceAdd, *]; done) | (refine id ?_; simp only [gxD]; omega)) only [↓gxPre, gxPost, ↓reduceIte, Nat.reduceEqDiff, reduceCtorEq, Nat.reduceAdd, b0g]
  refine callR_of (s_PowersOfBands_law ⟨o2.fs, m0, hw0⟩ ⟨o2.ss, t0, hx0⟩) ?_
  rintro _ H3 ⟨e3, y3, rfl, o3, q3⟩
  have n3 := e3.n
  replace b0g := (e3.blk _ (by omega)).trans b0g
  replace E := E.trans e3
  simp (disch := first | assumption | omega | rfl | (refine id ?_; simp only [gxD, ne_eq, reduceCtorEq, not_false_eq_true, Nat.reduceAdd, *]; done) | (refine id ?_; simp only [gxD]; omega)) only [↓gxPre, gxPost, ↓reduceIte, Nat.reduceEqDiff, reduceCtorEq, Nat.reduceAdd, b0g]
  refine callR_of (w_toBands_ow (hv0.ext E) (hu0.ext E) m0 t0) ?_
  rintro _ H4 ⟨e4, y4, z4, rfl, o4⟩
  have n4 := e4.n
  replace b0g := (e4.blk _ (by omega)).trans b0g
  replace o3 := o3.ext e4
  replace E := E.trans e4
  have v4o := o4.co.one
  have v4d := o4.de.one
  simp (disch := first | assumption | omega | rfl | (refine id ?_; simp only [gxD, ne_eq, reduceCtorEq, not_false_eq_true, Nat.reduceAdd, *]; done) | (refine id ?_; simp only [gxD]; omega)) only [↓gxPre, gxPost, ↓reduceIte, Nat.reduceEqDiff, reduceCtorEq, Nat.reduceAdd, b0g]
  refine callR_new ?_
  intro G4 e4g b4g n4g
  replace b0g := (e4g.blk _ (by omega)).trans b0g
  replace o3 := o3.ext e4g
  replace o4 := o4.ext e4g
  replace E := E.trans e4g
  refine callR_of (i_PowersOfBands_law ⟨o4.fs, m0, hw0⟩ ⟨o4.ss, t0, hx0⟩) ?_
  rintro _ H5 ⟨e5, y5, rfl, o5, q5⟩
  have n5 := e5.n
  replace b0g := (e5.blk _ (by omega)).trans b0g
  replace b4g := (e5.blk _ (by omega)).trans b4g
  replace o3 := o3.ext e5
  replace o4 := o4.ext e5
  replace E := E.trans e5
  simp (disch := first | assumption | omega | rfl | (refine id ?_; simp only [gxD, ne_eq, reduceCtorEq, not_false_eq_true, Nat.reduceAdd, *]; done) | (refine id ?_; simp only [gxD]; omega)) only [↓gxPre, gxPost, ↓reduceIte, Nat.reduceEqDiff, reduceCtorEq, Nat.reduceAdd, b0g, b4g]
  refine callR_ext (w_eqFloat32S_ow o5.fs o3.fs q5) ?_
  intro H6 n6 bb6
  have e6 : Ext H5 H6 := ⟨n6, bb6⟩
  replace b0g := (e6.blk _ (by omega)).trans b0g
  replace b4g := (e6.blk _ (by omega)).trans b4g
  replace o3 := o3.ext e6
  replace o4 := o4.ext e6
  replace o5 := o5.ext e6
  replace E := E.trans e6
  simp (disch := first | assumption | omega | rfl | (refine id ?_; simp only [gxD, ne_eq, reduceCtorEq, not_false_eq_true, Nat.reduceAdd, *]; done) | (refine id ?_; simp only [gxD]; omega)) only [↓gxPre, gxPost, ↓reduceIte, Nat.reduceEqDiff, reduceCtorEq, Nat.reduceAdd, b0g, b4g, ne_eq, not_true]
  refine callR_of (w_toBands_ow (hv0.ext E) (hu0.ext E) m0 t0) ?_
  rintro _ H7 ⟨e7, y7, z7, rfl, o7⟩
  have n7 := e7.n
  replace b0g := (e7.blk _ (by omega)).trans b0g
  replace b4g := (e7.blk _ (by omega)).trans b4g
  replace o3 := o3.ext e7
  replace o4 := o4.ext e7
  replace o5 := o5.ext e7
  replace E := E.trans e7
  have v7o := o7.co.one
  have v7d := o7.de.one
  simp (disch := first | assumption | omega | rfl | (refine id ?_; simp only [gxD, ne_eq, reduceCtorEq, not_false_eq_true, Nat.reduceAdd, *]; done) | (refine id ?_; simp only [gxD]; omega)) only [↓gxPre, gxPost, ↓reduceIte, Nat.reduceEqDiff, reduceCtorEq, Nat.reduceAdd, b0g, b4g]
  refine callR_ext (w_eqBands_ow o4.fs o4.ss o7.fs o7.ss m0 t0) ?_
  intro H8 n8 bb8
  have e8 : Ext H7 H8 := ⟨n8, bb8⟩
  replace b0g := (e8.blk _ (by omega)).trans b0g
  replace b4g := (e8.blk _ (by omega)).trans b4g
  replace o3 := o3.ext e8
  replace o4 := o4.ext e8
  replace o5 := o5.ext e8
  replace E := E.trans e8
  simp (disch := first | assumption | omega | rfl | (refine id ?_; simp only [gxD, ne_eq, reduceCtorEq, not_false_eq_true, Nat.reduceAdd, *]; done) | (refine id ?_; simp only [gxD]; omega)) only [↓gxPre, gxPost, ↓reduceIte, Nat.reduceEqDiff, reduceCtorEq, Nat.reduceAdd, b0g, b4g, ne_eq, not_true]
  refine callR_of (w_markBands_ow o4 (by omega) (by omega) (by first | exact tot_bd m0 t0)) ?_
  rintro _ H9 ⟨rfl, p9, f9⟩
  have n9 := f9.n
  replace o4 := p9
  replace b0g := (f9.blk _ (by omega) (by omega)).trans b0g
  replace b4g := (f9.blk _ (by omega) (by omega)).trans b4g
  replace o3 := o3.off f9 (by omega)
  replace o5 := o5.off f9 (by omega)
  replace E := E.mark f9 (by omega)
  simp (disch := first | assumption | omega | rfl | (refine id ?_; simp only [gxD, ne_eq, reduceCtorEq, not_false_eq_true, Nat.reduceAdd, *]; done) | (refine id ?_; simp only [gxD]; omega)) only [↓gxPre, gxPost, ↓reduceIte, Nat.reduceEqDiff, reduceCtorEq, Nat.reduceAdd, b0g, b4g, ne_eq, not_true]
  refine callR_ext (w_eqFloat32S_ow o5.fs o3.fs q5) ?_
  intro H10 n10 bb10
  have e10 : Ext H9 H10 := ⟨n10, bb10⟩
  replace b0g := (e10.blk _ (by omega)).trans b0g
  replace b4g := (e10.blk _ (by omega)).trans b4g
  replace o3 := o3.ext e10
  replace o4 := o4.ext e10
  replace o5 := o5.ext e10
  replace E := E.trans e10
  simp (disch := first | assumption | omega | rfl | (refine id ?_; simp only [gxD, ne_eq, reduceCtorEq, not_false_eq_true, Nat.reduceAdd, *]; done) | (refine id ?_; simp only [gxD]; omega)) only [↓gxPre, gxPost, ↓reduceIte, Nat.reduceEqDiff, reduceCtorEq, Nat.reduceAdd, b0g, b4g, ne_eq, not_true]
  refine callR_of (w_markFloat32S_ow o5 (by omega) (by omega) (by first | omega | (simp only [List.length_map, List.length_range]; omega))) ?_
  rintro _ H11 ⟨rfl, p11, g11⟩
  have f11 := g11.off o5
  have n11 := f11.n
  replace o5 := p11
  replace b0g := (f11.blk _ (by omega) (by omega)).trans b0g
  replace b4g := (f11.blk _ (by omega) (by omega)).trans b4g
  replace o3 := o3.off f11 (by omega)
  replace o4 := o4.off f11 (by omega)
  replace E := E.mark f11 (by omega)
  simp (disch := first | assumption | omega | rfl | (refine id ?_; simp only [gxD, ne_eq, reduceCtorEq, not_false_eq_true, Nat.reduceAdd, *]; done) | (refine id ?_; simp only [gxD]; omega)) only [↓gxPre, gxPost, ↓reduceIte, Nat.reduceEqDiff, reduceCtorEq, Nat.reduceAdd, b0g, b4g, ne_eq, not_true]
  refine callR_ext (w_heldFloat32S_ow o5 (by omega) (by omega) (by first | omega | (simp only [List.length_map, List.length_range]; omega))) ?_
  intro H12 n12 bb12
  have e12 : Ext H11 H12 := ⟨n12, bb12⟩
  replace b0g := (e12.blk _ (by omega)).trans b0g
  replace b4g := (e12.blk _ (by omega)).trans b4g
  replace o3 := o3.ext e12
  replace o4 := o4.ext e12
  replace o5 := o5.ext e12
  replace E := E.trans e12
  simp (disch := first | assumption | omega | rfl | (refine id ?_; simp only [gxD, ne_eq, reduceCtorEq, not_false_eq_true, Nat.reduceAdd, *]; done) | (refine id ?_; simp only [gxD]; omega)) only [↓gxPre, gxPost, ↓reduceIte, Nat.reduceEqDiff, reduceCtorEq, Nat.reduceAdd, b0g, b4g, ne_eq, not_true]
  refine callR_of (w_toBands_ow (hv0.ext E) (hu0.ext E) m0 t0) ?_
  rintro _ H13 ⟨e13, y13, z13, rfl, o13⟩
  have n13 := e13.n
  replace b0g := (e13.blk _ (by omega)).trans b0g
  replace b4g := (e13.blk _ (by omega)).trans b4g
  replace o3 := o3.ext e13
  replace o4 := o4.ext e13
  replace o5 := o5.ext e13
  replace E := E.trans e13
  have v13o := o13.co.one
  have v13d := o13.de.one
  simp (disch := first | assumption | omega | rfl | (refine id ?_; simp only [gxD, ne_eq, reduceCtorEq, not_false_eq_true, Nat.reduceAdd, *]; done) | (refine id ?_; simp only [gxD]; omega)) only [↓gxPre, gxPost, ↓reduceIte, Nat.reduceEqDiff, reduceCtorEq, Nat.reduceAdd, b0g, b4g]
  refine callR_of (i_PowersOfBands_law ⟨o13.fs, m0, hw0⟩ ⟨o13.ss, t0, hx0⟩) ?_
  rintro _ H14 ⟨e14, y14, rfl, o14, q14⟩
  have n14 := e14.n
  replace b0g := (e14.blk _ (by omega)).trans b0g
  replace b4g := (e14.blk _ (by omega)).trans b4g
  replace o3 := o3.ext e14
  replace o4 := o4.ext e14
  replace o5 := o5.ext e14
  replace E := E.trans e14
  simp (disch := first | assumption | omega | rfl | (refine id ?_; simp only [gxD, ne_eq, reduceCtorEq, not_false_eq_true, Nat.reduceAdd, *]; done) | (refine id ?_; simp only [gxD]; omega)) only [↓gxPre, gxPost, ↓reduceIte, Nat.reduceEqDiff, reduceCtorEq, Nat.reduceAdd, b0g, b4g]
  refine callR_ext (w_eqFloat32S_ow o14.fs o3.fs q14) ?_
  intro H15 n15 bb15
  have e15 : Ext H14 H15 := ⟨n15, bb15⟩
  replace b0g := (e15.blk _ (by omega)).trans b0g
  replace b4g := (e15.blk _ (by omega)).trans b4g
  replace o3 := o3.ext e15
  replace o4 := o4.ext e15
  replace o5 := o5.ext e15
  replace o14 := o14.ext e15
  replace E := E.trans e15
  simp (disch := first | assumption | omega | rfl | (refine id ?_; simp only [gxD, ne_eq, reduceCtorEq, not_false_eq_true, Nat.reduceAdd, *]; done) | (refine id ?_; simp only [gxD]; omega)) only [↓gxPre, gxPost, ↓reduceIte, Nat.reduceEqDiff, reduceCtorEq, Nat.reduceAdd, b0g, b4g, ne_eq, not_true]
  refine callR_ext (w_heldFloat32S_ow o5 (by omega) (by omega) (by first | omega | (simp only [List.length_map, List.length_range]; omega))) ?_
  intro H16 n16 bb16
  have e16 : Ext H15 H16 := ⟨n16, bb16⟩
  replace b0g := (e16.blk _ (by omega)).trans b0g
  replace b4g := (e16.blk _ (by omega)).trans b4g
  replace o3 := o3.ext e16
  replace o4 := o4.ext e16
  replace o5 := o5.ext e16
  replace o14 := o14.ext e16
  replace E := E.trans e16
  simp (disch := first | assumption | omega | rfl | (refine id ?_; simp only [gxD, ne_eq, reduceCtorEq, not_false_eq_true, Nat.reduceAdd, *]; done) | (refine id ?_; simp only [gxD]; omega)) only [↓gxPre, gxPost, ↓reduceIte, Nat.reduceEqDiff, reduceCtorEq, Nat.reduceAdd, b0g, b4g, ne_eq, not_true]
end Go.Proofs.Ytkojmlpaamdhoac
