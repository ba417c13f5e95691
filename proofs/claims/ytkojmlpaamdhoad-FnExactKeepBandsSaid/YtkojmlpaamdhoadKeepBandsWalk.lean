/- The law FnExactKeepBands, walked: it returns true. -/
import Derived.Test.YtkojmlpaamdhoadKeepBandsZToXN
namespace Go.Proofs.Ytkojmlpaamdhoad
open Go.Gx
set_option maxRecDepth 100000
set_option linter.unusedSimpArgs false
set_option linter.unusedVariables false
theorem w_FnExactKeepBands_ok {H : Heap} {v0 : Value} {xs0 : List Nat} (hv0 : FS H v0 xs0) (hw0 : W32 xs0) (hl0 : xs0.length ≤ 9223372036854775807) {u0 : Value} {ys0 : List (List Nat)} (hu0 : SS H u0 ys0) (hx0 : W32S ys0) (hm0 : ys0.length ≤ 9223372036854775807) (hr0 : ∀ j, (ys0.getD j []).length ≤ 9223372036854775807) {a1 : Bool} {v2 : Value} {xs2 : List Bool} (hv2 : BS H v2 xs2) (hl2 : xs2.length ≤ 9223372036854775807) : ACalls Try.prog n_w_FnExactKeepBands [.agg #[v0, u0], .bool a1, v2] H fun r H' => r = .bool true := by
  refine k_w_FnExactKeepBands.run rfl ?_
  unfold c_w_FnExactKeepBands
  have E : Ext H H := Ext.refl H
  have one0 := hv0.one
  have two0 := hu0.one'
  have one2 := hv2.one
  simp (disch := first | assumption | omega | rfl | (refine id ?_; simp only [gxD, ne_eq, reduceCtorEq, not_false_eq_true, Nat.reduceAdd, *]; done) | (refine id ?_; simp only [gxD]; omega)) only [↓gxPre, gxPost, ↓reduceIte, Nat.reduceEqDiff, reduceCtorEq, Nat.reduceAdd]
  by_cases s1 : (1048576 : Int) < xs2.length
  · simp (disch := first | assumption | omega | rfl | (refine id ?_; simp only [gxD, ne_eq, reduceCtorEq, not_false_eq_true, Nat.reduceAdd, *]; done) | (refine id ?_; simp only [gxD]; omega)) only [↓gxPre, gxPost, ↓reduceIte, Nat.reduceEqDiff, reduceCtorEq, Nat.reduceAdd, hv2.len, s1]
  simp (disch := first | assumption | omega | rfl | (refine id ?_; simp only [gxD, ne_eq, reduceCtorEq, not_false_eq_true, Nat.reduceAdd, *]; done) | (refine id ?_; simp only [gxD]; omega)) only [↓gxPre, gxPost, ↓reduceIte, Nat.reduceEqDiff, reduceCtorEq, Nat.reduceAdd, hv2.len, s1]
  refine callR_new ?_
  intro G0 e0g b0g n0g
  replace E := E.trans e0g
  by_cases s1 : (1048576 : Int) < (xs0.length + totL ys0 : Nat)
  · refine callR_ext (w_szBands_ow (hv0.ext E) (hu0.ext E) (by omega) (by omega) hl0 hm0 hr0) ?_
    intro H1 n1 bb1
    simp (disch := first | assumption | omega | rfl | (refine id ?_; simp only [gxD, ne_eq, reduceCtorEq, not_false_eq_true, Nat.reduceAdd, *]; done) | (refine id ?_; simp only [gxD]; omega)) only [↓gxPre, gxPost, ↓reduceIte, Nat.reduceEqDiff, reduceCtorEq, Nat.reduceAdd, b0g, if_pos s1, Int.reduceLT]
  refine callR_ext (w_szBands_ow (hv0.ext E) (hu0.ext E) (by omega) (by omega) hl0 hm0 hr0) ?_
  intro H1 n1 bb1
  rw [if_neg s1]
  have e1 : Ext G0 H1 := ⟨n1, bb1⟩
  replace b0g := (e1.blk _ (by omega)).trans b0g
  replace E := E.trans e1
  have z1 : ¬ ((1048576 : Int) - (xs0.length + totL ys0 : Nat) < 0) := by omega
  simp (disch := first | assumption | omega | rfl | (refine id ?_; simp only [gxD, ne_eq, reduceCtorEq, not_false_eq_true, Nat.reduceAdd, *]; done) | (refine id ?_; simp only [gxD]; omega)) only [↓gxPre, gxPost, ↓reduceIte, Nat.reduceEqDiff, reduceCtorEq, Nat.reduceAdd, b0g, z1]
  have m0 : xs0.length ≤ 2 ^ 40 := by omega
  have t0 : totL ys0 ≤ 2 ^ 40 := by omega
  have m2 : xs2.length ≤ 2 ^ 40 := by omega
  refine callR_of (w_toBands_ow (hv0.ext E) (hu0.ext E) m0 t0) ?_
  rintro _ H2 ⟨e2, y2, z2, rfl, o2⟩
  have n2 := e2.n
  replace b0g := (e2.blk _ (by omega)).trans b0g
  replace E := E.trans e2
  have v2o := o2.co.one
  have v2d := o2.de.one
  simp (disch := first | assumption | omega | rfl | (refine id ?_; simp only [gxD, ne_eq, reduceCtorEq, not_false_eq_true, Nat.reduceAdd, *]; done) | (refine id ?_; simp only [gxD]; omega)) only [↓gxPre, gxPost, ↓reduceIte, Nat.reduceEqDiff, reduceCtorEq, Nat.reduceAdd, b0g]
  refine callR_of (w_toBoolS_ow (hv2.ext E) m2) ?_
  rintro y3 H3 ⟨e3, o3⟩
  have n3 := e3.n
  replace b0g := (e3.blk _ (by omega)).trans b0g
  replace o2 := o2.ext e3
  replace E := E.trans e3
  simp (disch := first | assumption | omega | rfl | (refine id ?_; simp only [gxD, ne_eq, reduceCtorEq, not_false_eq_true, Nat.reduceAdd, *]; done) | (refine id ?_; simp only [gxD]; omega)) only [↓gxPre, gxPost, ↓reduceIte, Nat.reduceEqDiff, reduceCtorEq, Nat.reduceAdd, b0g]
  refine callR_of (s_KeepBands_law ⟨o2.fs, m0, hw0⟩ ⟨o2.ss, t0, hx0⟩ (a1 := a1) ⟨o3.bs, m2⟩) ?_
  rintro _ H4 ⟨e4, y4, z4, rfl, o4, q4, r4⟩
  have n4 := e4.n
  replace b0g := (e4.blk _ (by omega)).trans b0g
  replace E := E.trans e4
  have v4o := o4.co.one
  have v4d := o4.de.one
  simp (disch := first | assumption | omega | rfl | (refine id ?_; simp only [gxD, ne_eq, reduceCtorEq, not_false_eq_true, Nat.reduceAdd, *]; done) | (refine id ?_; simp only [gxD]; omega)) only [↓gxPre, gxPost, ↓reduceIte, Nat.reduceEqDiff, reduceCtorEq, Nat.reduceAdd, b0g]
  refine callR_new ?_
  intro G4 e4g b4g n4g
  replace b0g := (e4g.blk _ (by omega)).trans b0g
  replace o4 := o4.ext e4g
  replace E := E.trans e4g
  refine callR_of (w_toBands_ow (hv0.ext E) (hu0.ext E) m0 t0) ?_
  rintro _ H5 ⟨e5, y5, z5, rfl, o5⟩
  have n5 := e5.n
  replace b0g := (e5.blk _ (by omega)).trans b0g
  replace b4g := (e5.blk _ (by omega)).trans b4g
  replace o4 := o4.ext e5
  replace E := E.trans e5
  have v5o := o5.co.one
  have v5d := o5.de.one
  simp (disch := first | assumption | omega | rfl | (refine id ?_; simp only [gxD, ne_eq, reduceCtorEq, not_false_eq_true, Nat.reduceAdd, *]; done) | (refine id ?_; simp only [gxD]; omega)) only [↓gxPre, gxPost, ↓reduceIte, Nat.reduceEqDiff, reduceCtorEq, Nat.reduceAdd, b0g, b4g]
  refine callR_new ?_
  intro G5 e5g b5g n5g
  replace b0g := (e5g.blk _ (by omega)).trans b0g
  replace b4g := (e5g.blk _ (by omega)).trans b4g
  replace o4 := o4.ext e5g
  replace o5 := o5.ext e5g
  replace E := E.trans e5g
  refine callR_of (w_toBoolS_ow (hv2.ext E) m2) ?_
  rintro y6 H6 ⟨e6, o6⟩
  have n6 := e6.n
  replace b0g := (e6.blk _ (by omega)).trans b0g
  replace b4g := (e6.blk _ (by omega)).trans b4g
  replace b5g := (e6.blk _ (by omega)).trans b5g
  replace o4 := o4.ext e6
  replace o5 := o5.ext e6
  replace E := E.trans e6
  simp (disch := first | assumption | omega | rfl | (refine id ?_; simp only [gxD, ne_eq, reduceCtorEq, not_false_eq_true, Nat.reduceAdd, *]; done) | (refine id ?_; simp only [gxD]; omega)) only [↓gxPre, gxPost, ↓reduceIte, Nat.reduceEqDiff, reduceCtorEq, Nat.reduceAdd, b0g, b4g, b5g]
  refine callR_of (i_KeepBands_law ⟨o5.fs, m0, hw0⟩ ⟨o5.ss, t0, hx0⟩ (a1 := a1) ⟨o6.bs, m2⟩) ?_
  rintro _ H7 ⟨e7, y7, z7, rfl, o7, q7, r7⟩
  have n7 := e7.n
  replace b0g := (e7.blk _ (by omega)).trans b0g
  replace b4g := (e7.blk _ (by omega)).trans b4g
  replace b5g := (e7.blk _ (by omega)).trans b5g
  replace o4 := o4.ext e7
  replace o5 := o5.ext e7
  replace o6 := o6.ext e7
  replace E := E.trans e7
  have v7o := o7.co.one
  have v7d := o7.de.one
  simp (disch := first | assumption | omega | rfl | (refine id ?_; simp only [gxD, ne_eq, reduceCtorEq, not_false_eq_true, Nat.reduceAdd, *]; done) | (refine id ?_; simp only [gxD]; omega)) only [↓gxPre, gxPost, ↓reduceIte, Nat.reduceEqDiff, reduceCtorEq, Nat.reduceAdd, b0g, b4g, b5g]
  refine callR_new ?_
  intro G7 e7g b7g n7g
  replace b0g := (e7g.blk _ (by omega)).trans b0g
  replace b4g := (e7g.blk _ (by omega)).trans b4g
  replace b5g := (e7g.blk _ (by omega)).trans b5g
  replace o4 := o4.ext e7g
  replace o5 := o5.ext e7g
  replace o6 := o6.ext e7g
  replace o7 := o7.ext e7g
  replace E := E.trans e7g
  refine callR_ext (w_eqBands_ow o7.fs o7.ss o4.fs o4.ss q7 r7) ?_
  intro H8 n8 bb8
  have e8 : Ext G7 H8 := ⟨n8, bb8⟩
  replace b0g := (e8.blk _ (by omega)).trans b0g
  replace b4g := (e8.blk _ (by omega)).trans b4g
  replace b5g := (e8.blk _ (by omega)).trans b5g
  replace b7g := (e8.blk _ (by omega)).trans b7g
  replace o4 := o4.ext e8
  replace o5 := o5.ext e8
  replace o6 := o6.ext e8
  replace o7 := o7.ext e8
  replace E := E.trans e8
  simp (disch := first | assumption | omega | rfl | (refine id ?_; simp only [gxD, ne_eq, reduceCtorEq, not_false_eq_true, Nat.reduceAdd, *]; done) | (refine id ?_; simp only [gxD]; omega)) only [↓gxPre, gxPost, ↓reduceIte, Nat.reduceEqDiff, reduceCtorEq, Nat.reduceAdd, b0g, b4g, b5g, b7g, ne_eq, not_true]
  refine callR_of (w_toBands_ow (hv0.ext E) (hu0.ext E) m0 t0) ?_
  rintro _ H9 ⟨e9, y9, z9, rfl, o9⟩
  have n9 := e9.n
  replace b0g := (e9.blk _ (by omega)).trans b0g
  replace b4g := (e9.blk _ (by omega)).trans b4g
  replace b5g := (e9.blk _ (by omega)).trans b5g
  replace b7g := (e9.blk _ (by omega)).trans b7g
  replace o4 := o4.ext e9
  replace o5 := o5.ext e9
  replace o6 := o6.ext e9
  replace o7 := o7.ext e9
  replace E := E.trans e9
  have v9o := o9.co.one
  have v9d := o9.de.one
  simp (disch := first | assumption | omega | rfl | (refine id ?_; simp only [gxD, ne_eq, reduceCtorEq, not_false_eq_true, Nat.reduceAdd, *]; done) | (refine id ?_; simp only [gxD]; omega)) only [↓gxPre, gxPost, ↓reduceIte, Nat.reduceEqDiff, reduceCtorEq, Nat.reduceAdd, b0g, b4g, b5g, b7g]
  refine callR_ext (w_eqBands_ow o5.fs o5.ss o9.fs o9.ss m0 t0) ?_
  intro H10 n10 bb10
  have e10 : Ext H9 H10 := ⟨n10, bb10⟩
  replace b0g := (e10.blk _ (by omega)).trans b0g
  replace b4g := (e10.blk _ (by omega)).trans b4g
  replace b5g := (e10.blk _ (by omega)).trans b5g
  replace b7g := (e10.blk _ (by omega)).trans b7g
  replace o4 := o4.ext e10
  replace o5 := o5.ext e10
  replace o6 := o6.ext e10
  replace o7 := o7.ext e10
  replace E := E.trans e10
  simp (disch := first | assumption | omega | rfl | (refine id ?_; simp only [gxD, ne_eq, reduceCtorEq, not_false_eq_true, Nat.reduceAdd, *]; done) | (refine id ?_; simp only [gxD]; omega)) only [↓gxPre, gxPost, ↓reduceIte, Nat.reduceEqDiff, reduceCtorEq, Nat.reduceAdd, b0g, b4g, b5g, b7g, ne_eq, not_true]
  refine callR_of (w_toBoolS_ow (hv2.ext E) m2) ?_
  rintro y11 H11 ⟨e11, o11⟩
  have n11 := e11.n
  replace b0g := (e11.blk _ (by omega)).trans b0g
  replace b4g := (e11.blk _ (by omega)).trans b4g
  replace b5g := (e11.blk _ (by omega)).trans b5g
  replace b7g := (e11.blk _ (by omega)).trans b7g
  replace o4 := o4.ext e11
  replace o5 := o5.ext e11
  replace o6 := o6.ext e11
  replace o7 := o7.ext e11
  replace E := E.trans e11
  simp (disch := first | assumption | omega | rfl | (refine id ?_; simp only [gxD, ne_eq, reduceCtorEq, not_false_eq_true, Nat.reduceAdd, *]; done) | (refine id ?_; simp only [gxD]; omega)) only [↓gxPre, gxPost, ↓reduceIte, Nat.reduceEqDiff, reduceCtorEq, Nat.reduceAdd, b0g, b4g, b5g, b7g]
  refine callR_ext (w_eqBoolS_ow o6.bs o11.bs m2) ?_
  intro H12 n12 bb12
  have e12 : Ext H11 H12 := ⟨n12, bb12⟩
  replace b0g := (e12.blk _ (by omega)).trans b0g
  replace b4g := (e12.blk _ (by omega)).trans b4g
  replace b5g := (e12.blk _ (by omega)).trans b5g
  replace b7g := (e12.blk _ (by omega)).trans b7g
  replace o4 := o4.ext e12
  replace o5 := o5.ext e12
  replace o6 := o6.ext e12
  replace o7 := o7.ext e12
  replace E := E.trans e12
  simp (disch := first | assumption | omega | rfl | (refine id ?_; simp only [gxD, ne_eq, reduceCtorEq, not_false_eq_true, Nat.reduceAdd, *]; done) | (refine id ?_; simp only [gxD]; omega)) only [↓gxPre, gxPost, ↓reduceIte, Nat.reduceEqDiff, reduceCtorEq, Nat.reduceAdd, b0g, b4g, b5g, b7g, ne_eq, not_true]
  refine callR_of (w_markBands_ow o5 (by first | omega | (simp only [List.length_map, List.length_range]; omega)) (by first | omega | (simp only [List.length_map, List.length_range]; omega)) (by first | exact tot_bd m0 t0)) ?_
  rintro _ H13 ⟨rfl, p13, f13⟩
  have n13 := f13.n
  replace o5 := p13
  have hz13 := tot_bd m0 t0
  unfold totL at hz13
  replace b0g := (f13.blk _ (by omega) (by omega)).trans b0g
  replace b4g := (f13.blk _ (by omega) (by omega)).trans b4g
  replace b5g := (f13.blk _ (by omega) (by omega)).trans b5g
  replace b7g := (f13.blk _ (by omega) (by omega)).trans b7g
  replace o4 := o4.off f13 (by omega)
  replace o6 := o6.off f13 (by omega)
  replace o7 := o7.off f13 (by omega)
  replace E := E.mark f13 (by omega)
  simp (disch := first | assumption | omega | rfl | (refine id ?_; simp only [gxD, ne_eq, reduceCtorEq, not_false_eq_true, Nat.reduceAdd, *]; done) | (refine id ?_; simp only [gxD]; omega)) only [↓gxPre, gxPost, ↓reduceIte, Nat.reduceEqDiff, reduceCtorEq, Nat.reduceAdd, b0g, b4g, b5g, b7g, ne_eq, not_true]
  refine callR_of (w_markBoolS_ow o6 (by first | omega | (simp only [List.length_map, List.length_range]; omega)) (by first | omega | (simp only [List.length_map, List.length_range]; omega)) (by first | omega | (simp only [List.length_map, List.length_range]; omega))) ?_
  rintro _ H14 ⟨rfl, p14, g14⟩
  have f14 := g14.off o6
  have n14 := f14.n
  replace o6 := p14
  replace b0g := (f14.blk _ (by omega) (by omega)).trans b0g
  replace b4g := (f14.blk _ (by omega) (by omega)).trans b4g
  replace b5g := (f14.blk _ (by omega) (by omega)).trans b5g
  replace b7g := (f14.blk _ (by omega) (by omega)).trans b7g
  replace o4 := o4.off f14 (by omega)
  replace o5 := o5.off f14 (by omega)
  replace o7 := o7.off f14 (by omega)
  replace E := E.mark f14 (by omega)
  simp (disch := first | assumption | omega | rfl | (refine id ?_; simp only [gxD, ne_eq, reduceCtorEq, not_false_eq_true, Nat.reduceAdd, *]; done) | (refine id ?_; simp only [gxD]; omega)) only [↓gxPre, gxPost, ↓reduceIte, Nat.reduceEqDiff, reduceCtorEq, Nat.reduceAdd, b0g, b4g, b5g, b7g, ne_eq, not_true]
  refine callR_ext (w_eqBands_ow o7.fs o7.ss o4.fs o4.ss q7 r7) ?_
  intro H15 n15 bb15
  have e15 : Ext H14 H15 := ⟨n15, bb15⟩
  replace b0g := (e15.blk _ (by omega)).trans b0g
  replace b4g := (e15.blk _ (by omega)).trans b4g
  replace b5g := (e15.blk _ (by omega)).trans b5g
  replace b7g := (e15.blk _ (by omega)).trans b7g
  replace o4 := o4.ext e15
  replace o5 := o5.ext e15
  replace o6 := o6.ext e15
  replace o7 := o7.ext e15
  replace E := E.trans e15
  simp (disch := first | assumption | omega | rfl | (refine id ?_; simp only [gxD, ne_eq, reduceCtorEq, not_false_eq_true, Nat.reduceAdd, *]; done) | (refine id ?_; simp only [gxD]; omega)) only [↓gxPre, gxPost, ↓reduceIte, Nat.reduceEqDiff, reduceCtorEq, Nat.reduceAdd, b0g, b4g, b5g, b7g, ne_eq, not_true]
  refine callR_of (w_markBands_ow o7 (by first | omega | (simp only [List.length_map, List.length_range]; omega)) (by first | omega | (simp only [List.length_map, List.length_range]; omega)) (by first | exact tot_bd q7 r7)) ?_
  rintro _ H16 ⟨rfl, p16, f16⟩
  have n16 := f16.n
  replace o7 := p16
  have hz16 := tot_bd q7 r7
  unfold totL at hz16
  replace b0g := (f16.blk _ (by omega) (by omega)).trans b0g
  replace b4g := (f16.blk _ (by omega) (by omega)).trans b4g
  replace b5g := (f16.blk _ (by omega) (by omega)).trans b5g
  replace b7g := (f16.blk _ (by omega) (by omega)).trans b7g
  replace o4 := o4.off f16 (by omega)
  replace o5 := o5.off f16 (by omega)
  replace o6 := o6.off f16 (by omega)
  replace E := E.mark f16 (by omega)
  simp (disch := first | assumption | omega | rfl | (refine id ?_; simp only [gxD, ne_eq, reduceCtorEq, not_false_eq_true, Nat.reduceAdd, *]; done) | (refine id ?_; simp only [gxD]; omega)) only [↓gxPre, gxPost, ↓reduceIte, Nat.reduceEqDiff, reduceCtorEq, Nat.reduceAdd, b0g, b4g, b5g, b7g, ne_eq, not_true]
  refine callR_ext (w_heldBands_ow o7 (by first | omega | (simp only [List.length_map, List.length_range]; omega)) (by first | omega | (simp only [List.length_map, List.length_range]; omega)) (by first | exact tot_bd q7 r7)) ?_
  intro H17 n17 bb17
  have e17 : Ext H16 H17 := ⟨n17, bb17⟩
  replace b0g := (e17.blk _ (by omega)).trans b0g
  replace b4g := (e17.blk _ (by omega)).trans b4g
  replace b5g := (e17.blk _ (by omega)).trans b5g
  replace b7g := (e17.blk _ (by omega)).trans b7g
  replace o4 := o4.ext e17
  replace o5 := o5.ext e17
  replace o6 := o6.ext e17
  replace o7 := o7.ext e17
  replace E := E.trans e17
  simp (disch := first | assumption | omega | rfl | (refine id ?_; simp only [gxD, ne_eq, reduceCtorEq, not_false_eq_true, Nat.reduceAdd, *]; done) | (refine id ?_; simp only [gxD]; omega)) only [↓gxPre, gxPost, ↓reduceIte, Nat.reduceEqDiff, reduceCtorEq, Nat.reduceAdd, b0g, b4g, b5g, b7g, ne_eq, not_true]
  refine callR_of (w_toBands_ow (hv0.ext E) (hu0.ext E) m0 t0) ?_
  rintro _ H18 ⟨e18, y18, z18, rfl, o18⟩
  have n18 := e18.n
  replace b0g := (e18.blk _ (by omega)).trans b0g
  replace b4g := (e18.blk _ (by omega)).trans b4g
  replace b5g := (e18.blk _ (by omega)).trans b5g
  replace b7g := (e18.blk _ (by omega)).trans b7g
  replace o4 := o4.ext e18
  replace o5 := o5.ext e18
  replace o6 := o6.ext e18
  replace o7 := o7.ext e18
  replace E := E.trans e18
  have v18o := o18.co.one
  have v18d := o18.de.one
  simp (disch := first | assumption | omega | rfl | (refine id ?_; simp only [gxD, ne_eq, reduceCtorEq, not_false_eq_true, Nat.reduceAdd, *]; done) | (refine id ?_; simp only [gxD]; omega)) only [↓gxPre, gxPost, ↓reduceIte, Nat.reduceEqDiff, reduceCtorEq, Nat.reduceAdd, b0g, b4g, b5g, b7g]
  refine callR_of (w_toBoolS_ow (hv2.ext E) m2) ?_
  rintro y19 H19 ⟨e19, o19⟩
  have n19 := e19.n
  replace b0g := (e19.blk _ (by omega)).trans b0g
  replace b4g := (e19.blk _ (by omega)).trans b4g
  replace b5g := (e19.blk _ (by omega)).trans b5g
  replace b7g := (e19.blk _ (by omega)).trans b7g
  replace o4 := o4.ext e19
  replace o5 := o5.ext e19
  replace o6 := o6.ext e19
  replace o7 := o7.ext e19
  replace o18 := o18.ext e19
  replace E := E.trans e19
  simp (disch := first | assumption | omega | rfl | (refine id ?_; simp only [gxD, ne_eq, reduceCtorEq, not_false_eq_true, Nat.reduceAdd, *]; done) | (refine id ?_; simp only [gxD]; omega)) only [↓gxPre, gxPost, ↓reduceIte, Nat.reduceEqDiff, reduceCtorEq, Nat.reduceAdd, b0g, b4g, b5g, b7g]
  refine callR_of (i_KeepBands_law ⟨o18.fs, m0, hw0⟩ ⟨o18.ss, t0, hx0⟩ (a1 := a1) ⟨o19.bs, m2⟩) ?_
  rintro _ H20 ⟨e20, y20, z20, rfl, o20, q20, r20⟩
  have n20 := e20.n
  replace b0g := (e20.blk _ (by omega)).trans b0g
  replace b4g := (e20.blk _ (by omega)).trans b4g
  replace b5g := (e20.blk _ (by omega)).trans b5g
  replace b7g := (e20.blk _ (by omega)).trans b7g
  replace o4 := o4.ext e20
  replace o5 := o5.ext e20
  replace o6 := o6.ext e20
  replace o7 := o7.ext e20
  replace E := E.trans e20
  have v20o := o20.co.one
  have v20d := o20.de.one
  simp (disch := first | assumption | omega | rfl | (refine id ?_; simp only [gxD, ne_eq, reduceCtorEq, not_false_eq_true, Nat.reduceAdd, *]; done) | (refine id ?_; simp only [gxD]; omega)) only [↓gxPre, gxPost, ↓reduceIte, Nat.reduceEqDiff, reduceCtorEq, Nat.reduceAdd, b0g, b4g, b5g, b7g]
  refine callR_new ?_
  intro G20 e20g b20g n20g
  replace b0g := (e20g.blk _ (by omega)).trans b0g
  replace b4g := (e20g.blk _ (by omega)).trans b4g
  replace b5g := (e20g.blk _ (by omega)).trans b5g
  replace b7g := (e20g.blk _ (by omega)).trans b7g
  replace o4 := o4.ext e20g
  replace o5 := o5.ext e20g
  replace o6 := o6.ext e20g
  replace o7 := o7.ext e20g
  replace o20 := o20.ext e20g
  replace E := E.trans e20g
  refine callR_ext (w_eqBands_ow o20.fs o20.ss o4.fs o4.ss q20 r20) ?_
  intro H21 n21 bb21
  have e21 : Ext G20 H21 := ⟨n21, bb21⟩
  replace b0g := (e21.blk _ (by omega)).trans b0g
  replace b4g := (e21.blk _ (by omega)).trans b4g
  replace b5g := (e21.blk _ (by omega)).trans b5g
  replace b7g := (e21.blk _ (by omega)).trans b7g
  replace b20g := (e21.blk _ (by omega)).trans b20g
  replace o4 := o4.ext e21
  replace o5 := o5.ext e21
  replace o6 := o6.ext e21
  replace o7 := o7.ext e21
  replace o20 := o20.ext e21
  replace E := E.trans e21
  simp (disch := first | assumption | omega | rfl | (refine id ?_; simp only [gxD, ne_eq, reduceCtorEq, not_false_eq_true, Nat.reduceAdd, *]; done) | (refine id ?_; simp only [gxD]; omega)) only [↓gxPre, gxPost, ↓reduceIte, Nat.reduceEqDiff, reduceCtorEq, Nat.reduceAdd, b0g, b4g, b5g, b7g, b20g, ne_eq, not_true]
  refine callR_ext (w_heldBands_ow o7 (by first | omega | (simp only [List.length_map, List.length_range]; omega)) (by first | omega | (simp only [List.length_map, List.length_range]; omega)) (by first | exact tot_bd q7 r7)) ?_
  intro H22 n22 bb22
  have e22 : Ext H21 H22 := ⟨n22, bb22⟩
  replace b0g := (e22.blk _ (by omega)).trans b0g
  replace b4g := (e22.blk _ (by omega)).trans b4g
  replace b5g := (e22.blk _ (by omega)).trans b5g
  replace b7g := (e22.blk _ (by omega)).trans b7g
  replace b20g := (e22.blk _ (by omega)).trans b20g
  replace o4 := o4.ext e22
  replace o5 := o5.ext e22
  replace o6 := o6.ext e22
  replace o7 := o7.ext e22
  replace o20 := o20.ext e22
  replace E := E.trans e22
  simp (disch := first | assumption | omega | rfl | (refine id ?_; simp only [gxD, ne_eq, reduceCtorEq, not_false_eq_true, Nat.reduceAdd, *]; done) | (refine id ?_; simp only [gxD]; omega)) only [↓gxPre, gxPost, ↓reduceIte, Nat.reduceEqDiff, reduceCtorEq, Nat.reduceAdd, b0g, b4g, b5g, b7g, b20g, ne_eq, not_true]
end Go.Proofs.Ytkojmlpaamdhoad
