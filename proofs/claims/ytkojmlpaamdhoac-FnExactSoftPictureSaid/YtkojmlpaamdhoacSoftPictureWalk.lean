/- The law FnExactSoftPicture, walked: it returns true. -/
import Derived.Test.YtkojmlpaamdhoacSoftPictureXV
namespace Go.Proofs.Ytkojmlpaamdhoac
open Go.Gx
set_option maxRecDepth 100000
set_option linter.unusedSimpArgs false
set_option linter.unusedVariables false
set_option maxHeartbeats 2000000
theorem w_FnExactSoftPicture_ok {H : Heap} {a0 c0 : Int} (b0 : -9223372036854775808 ≤ a0 ∧ a0 ≤ 9223372036854775807) (d0 : -9223372036854775808 ≤ c0 ∧ c0 ≤ 9223372036854775807) {v0 : Value} {xs0 : List Nat} (hv0 : FS H v0 xs0) (hw0 : W32 xs0) (hl0 : xs0.length ≤ 9223372036854775807) {a1 : Int} (b1 : -9223372036854775808 ≤ a1 ∧ a1 ≤ 9223372036854775807) {a2 : Nat} (b2 : a2 < 2 ^ 32) : ACalls Try.prog n_w_FnExactSoftPicture [.agg #[.int .i64 a0, .int .i64 c0, v0], .int .i64 a1, .float .f32 a2] H fun r H' => r = .bool true := by
  refine k_w_FnExactSoftPicture.run rfl ?_
  unfold c_w_FnExactSoftPicture
  have E : Ext H H := Ext.refl H
  have one0 := hv0.one
  simp (disch := first | assumption | omega | rfl | (refine id ?_; simp only [gxD, ne_eq, reduceCtorEq, not_false_eq_true, Nat.reduceAdd, *]; done) | (refine id ?_; simp only [gxD]; omega)) only [↓gxPre, gxPost, ↓reduceIte, Nat.reduceEqDiff, reduceCtorEq, Nat.reduceAdd]
  refine callR_new ?_
  intro G0 e0g b0g n0g
  replace E := E.trans e0g
  by_cases s1 : (1048576 : Int) < xs0.length
  · refine callR_ext (w_szPicture_ow (hv0.ext E) (by omega) (by omega) hl0) ?_
    intro H1 n1 bb1
    simp (disch := first | assumption | omega | rfl | (refine id ?_; simp only [gxD, ne_eq, reduceCtorEq, not_false_eq_true, Nat.reduceAdd, *]; done) | (refine id ?_; simp only [gxD]; omega)) only [↓gxPre, gxPost, ↓reduceIte, Nat.reduceEqDiff, reduceCtorEq, Nat.reduceAdd, b0g, if_pos s1, Int.reduceLT]
  refine callR_ext (w_szPicture_ow (hv0.ext E) (by omega) (by omega) hl0) ?_
  intro H1 n1 bb1
  rw [if_neg s1]
  have e1 : Ext G0 H1 := ⟨n1, bb1⟩
  replace b0g := (e1.blk _ (by omega)).trans b0g
  replace E := E.trans e1
  have z1 : ¬ ((1048576 : Int) - xs0.length < 0) := by omega
  simp (disch := first | assumption | omega | rfl | (refine id ?_; simp only [gxD, ne_eq, reduceCtorEq, not_false_eq_true, Nat.reduceAdd, *]; done) | (refine id ?_; simp only [gxD]; omega)) only [↓gxPre, gxPost, ↓reduceIte, Nat.reduceEqDiff, reduceCtorEq, Nat.reduceAdd, b0g, z1]
  have m0 : xs0.length ≤ 2 ^ 40 := by omega
  refine callR_of (w_toPicture_ow (hv0.ext E) m0) ?_
  rintro _ H2 ⟨e2, y2, rfl, o2⟩
  have n2 := e2.n
  replace b0g := (e2.blk _ (by omega)).trans b0g
  replace E := E.trans e2
  have v2o := o2.one
  simp (disch := first | assumption | omega | rfl | (refine id ?_; simp only [gxD, ne_eq, reduceCtorEq, not_false_eq_true, Nat.reduceAdd, *]; done) | (refine id ?_; simp only [gxD]; omega)) only [↓gxPre, gxPost, ↓reduceIte, Nat.reduceEqDiff, reduceCtorEq, Nat.reduceAdd, b0g]
  refine callR_of (s_SoftPicture_law ⟨o2.fs, m0, hw0⟩ b0 d0 b1 b2) ?_
  rintro _ H3 ⟨e3, y3, rfl, o3, q3⟩
  have n3 := e3.n
  replace b0g := (e3.blk _ (by omega)).trans b0g
  replace E := E.trans e3
  have v3o := o3.one
  simp (disch := first | assumption | omega | rfl | (refine id ?_; simp only [gxD, ne_eq, reduceCtorEq, not_false_eq_true, Nat.reduceAdd, *]; done) | (refine id ?_; simp only [gxD]; omega)) only [↓gxPre, gxPost, ↓reduceIte, Nat.reduceEqDiff, reduceCtorEq, Nat.reduceAdd, b0g]
  refine callR_new ?_
  intro G3 e3g b3g n3g
  replace b0g := (e3g.blk _ (by omega)).trans b0g
  replace o3 := o3.ext e3g
  replace E := E.trans e3g
  refine callR_of (w_toPicture_ow (hv0.ext E) m0) ?_
  rintro _ H4 ⟨e4, y4, rfl, o4⟩
  have n4 := e4.n
  replace b0g := (e4.blk _ (by omega)).trans b0g
  replace b3g := (e4.blk _ (by omega)).trans b3g
  replace o3 := o3.ext e4
  replace E := E.trans e4
  have v4o := o4.one
  simp (disch := first | assumption | omega | rfl | (refine id ?_; simp only [gxD, ne_eq, reduceCtorEq, not_false_eq_true, Nat.reduceAdd, *]; done) | (refine id ?_; simp only [gxD]; omega)) only [↓gxPre, gxPost, ↓reduceIte, Nat.reduceEqDiff, reduceCtorEq, Nat.reduceAdd, b0g, b3g]
  refine callR_new ?_
  intro G4 e4g b4g n4g
  replace b0g := (e4g.blk _ (by omega)).trans b0g
  replace b3g := (e4g.blk _ (by omega)).trans b3g
  replace o3 := o3.ext e4g
  replace o4 := o4.ext e4g
  replace E := E.trans e4g
  refine callR_of (i_SoftPicture_law ⟨o4.fs, m0, hw0⟩ b0 d0 b1 b2) ?_
  rintro _ H5 ⟨e5, y5, rfl, o5, q5⟩
  have n5 := e5.n
  replace b0g := (e5.blk _ (by omega)).trans b0g
  replace b3g := (e5.blk _ (by omega)).trans b3g
  replace b4g := (e5.blk _ (by omega)).trans b4g
  replace o3 := o3.ext e5
  replace o4 := o4.ext e5
  replace E := E.trans e5
  have v5o := o5.one
  simp (disch := first | assumption | omega | rfl | (refine id ?_; simp only [gxD, ne_eq, reduceCtorEq, not_false_eq_true, Nat.reduceAdd, *]; done) | (refine id ?_; simp only [gxD]; omega)) only [↓gxPre, gxPost, ↓reduceIte, Nat.reduceEqDiff, reduceCtorEq, Nat.reduceAdd, b0g, b3g, b4g]
  refine callR_new ?_
  intro G5 e5g b5g n5g
  replace b0g := (e5g.blk _ (by omega)).trans b0g
  replace b3g := (e5g.blk _ (by omega)).trans b3g
  replace b4g := (e5g.blk _ (by omega)).trans b4g
  replace o3 := o3.ext e5g
  replace o4 := o4.ext e5g
  replace o5 := o5.ext e5g
  replace E := E.trans e5g
  refine callR_ext (w_eqPicture_ow o5.fs o3.fs q5) ?_
  intro H6 n6 bb6
  have e6 : Ext G5 H6 := ⟨n6, bb6⟩
  replace b0g := (e6.blk _ (by omega)).trans b0g
  replace b3g := (e6.blk _ (by omega)).trans b3g
  replace b4g := (e6.blk _ (by omega)).trans b4g
  replace b5g := (e6.blk _ (by omega)).trans b5g
  replace o3 := o3.ext e6
  replace o4 := o4.ext e6
  replace o5 := o5.ext e6
  replace E := E.trans e6
  simp (disch := first | assumption | omega | rfl | (refine id ?_; simp only [gxD, ne_eq, reduceCtorEq, not_false_eq_true, Nat.reduceAdd, *]; done) | (refine id ?_; simp only [gxD]; omega)) only [↓gxPre, gxPost, ↓reduceIte, Nat.reduceEqDiff, reduceCtorEq, Nat.reduceAdd, b0g, b3g, b4g, b5g, ne_eq, not_true]
  refine callR_of (w_toPicture_ow (hv0.ext E) m0) ?_
  rintro _ H7 ⟨e7, y7, rfl, o7⟩
  have n7 := e7.n
  replace b0g := (e7.blk _ (by omega)).trans b0g
  replace b3g := (e7.blk _ (by omega)).trans b3g
  replace b4g := (e7.blk _ (by omega)).trans b4g
  replace b5g := (e7.blk _ (by omega)).trans b5g
  replace o3 := o3.ext e7
  replace o4 := o4.ext e7
  replace o5 := o5.ext e7
  replace E := E.trans e7
  have v7o := o7.one
  simp (disch := first | assumption | omega | rfl | (refine id ?_; simp only [gxD, ne_eq, reduceCtorEq, not_false_eq_true, Nat.reduceAdd, *]; done) | (refine id ?_; simp only [gxD]; omega)) only [↓gxPre, gxPost, ↓reduceIte, Nat.reduceEqDiff, reduceCtorEq, Nat.reduceAdd, b0g, b3g, b4g, b5g]
  refine callR_ext (w_eqPicture_ow o4.fs o7.fs m0) ?_
  intro H8 n8 bb8
  have e8 : Ext H7 H8 := ⟨n8, bb8⟩
  replace b0g := (e8.blk _ (by omega)).trans b0g
  replace b3g := (e8.blk _ (by omega)).trans b3g
  replace b4g := (e8.blk _ (by omega)).trans b4g
  replace b5g := (e8.blk _ (by omega)).trans b5g
  replace o3 := o3.ext e8
  replace o4 := o4.ext e8
  replace o5 := o5.ext e8
  replace E := E.trans e8
  simp (disch := first | assumption | omega | rfl | (refine id ?_; simp only [gxD, ne_eq, reduceCtorEq, not_false_eq_true, Nat.reduceAdd, *]; done) | (refine id ?_; simp only [gxD]; omega)) only [↓gxPre, gxPost, ↓reduceIte, Nat.reduceEqDiff, reduceCtorEq, Nat.reduceAdd, b0g, b3g, b4g, b5g, ne_eq, not_true]
  refine callR_of (w_markPicture_ow o4 (by first | omega | (simp only [List.length_map, List.length_range]; omega)) (by first | omega | (simp only [List.length_map, List.length_range]; omega)) (by first | omega | (simp only [List.length_map, List.length_range]; omega))) ?_
  rintro _ H9 ⟨rfl, p9, f9⟩
  have n9 := f9.n
  replace o4 := p9
  replace b0g := (f9.blk _ (by omega) (by omega)).trans b0g
  replace b3g := (f9.blk _ (by omega) (by omega)).trans b3g
  replace b4g := (f9.blk _ (by omega) (by omega)).trans b4g
  replace b5g := (f9.blk _ (by omega) (by omega)).trans b5g
  replace o3 := o3.off f9 (by omega)
  replace o5 := o5.off f9 (by omega)
  replace E := E.mark f9 (by omega)
  simp (disch := first | assumption | omega | rfl | (refine id ?_; simp only [gxD, ne_eq, reduceCtorEq, not_false_eq_true, Nat.reduceAdd, *]; done) | (refine id ?_; simp only [gxD]; omega)) only [↓gxPre, gxPost, ↓reduceIte, Nat.reduceEqDiff, reduceCtorEq, Nat.reduceAdd, b0g, b3g, b4g, b5g, ne_eq, not_true]
  refine callR_ext (w_eqPicture_ow o5.fs o3.fs q5) ?_
  intro H10 n10 bb10
  have e10 : Ext H9 H10 := ⟨n10, bb10⟩
  replace b0g := (e10.blk _ (by omega)).trans b0g
  replace b3g := (e10.blk _ (by omega)).trans b3g
  replace b4g := (e10.blk _ (by omega)).trans b4g
  replace b5g := (e10.blk _ (by omega)).trans b5g
  replace o3 := o3.ext e10
  replace o4 := o4.ext e10
  replace o5 := o5.ext e10
  replace E := E.trans e10
  simp (disch := first | assumption | omega | rfl | (refine id ?_; simp only [gxD, ne_eq, reduceCtorEq, not_false_eq_true, Nat.reduceAdd, *]; done) | (refine id ?_; simp only [gxD]; omega)) only [↓gxPre, gxPost, ↓reduceIte, Nat.reduceEqDiff, reduceCtorEq, Nat.reduceAdd, b0g, b3g, b4g, b5g, ne_eq, not_true]
  refine callR_of (w_markPicture_ow o5 (by first | omega | (simp only [List.length_map, List.length_range]; omega)) (by first | omega | (simp only [List.length_map, List.length_range]; omega)) (by first | omega | (simp only [List.length_map, List.length_range]; omega))) ?_
  rintro _ H11 ⟨rfl, p11, f11⟩
  have n11 := f11.n
  replace o5 := p11
  replace b0g := (f11.blk _ (by omega) (by omega)).trans b0g
  replace b3g := (f11.blk _ (by omega) (by omega)).trans b3g
  replace b4g := (f11.blk _ (by omega) (by omega)).trans b4g
  replace b5g := (f11.blk _ (by omega) (by omega)).trans b5g
  replace o3 := o3.off f11 (by omega)
  replace o4 := o4.off f11 (by omega)
  replace E := E.mark f11 (by omega)
  simp (disch := first | assumption | omega | rfl | (refine id ?_; simp only [gxD, ne_eq, reduceCtorEq, not_false_eq_true, Nat.reduceAdd, *]; done) | (refine id ?_; simp only [gxD]; omega)) only [↓gxPre, gxPost, ↓reduceIte, Nat.reduceEqDiff, reduceCtorEq, Nat.reduceAdd, b0g, b3g, b4g, b5g, ne_eq, not_true]
  refine callR_ext (w_heldPicture_ow o5 (by first | omega | (simp only [List.length_map, List.length_range]; omega)) (by first | omega | (simp only [List.length_map, List.length_range]; omega)) (by first | omega | (simp only [List.length_map, List.length_range]; omega))) ?_
  intro H12 n12 bb12
  have e12 : Ext H11 H12 := ⟨n12, bb12⟩
  replace b0g := (e12.blk _ (by omega)).trans b0g
  replace b3g := (e12.blk _ (by omega)).trans b3g
  replace b4g := (e12.blk _ (by omega)).trans b4g
  replace b5g := (e12.blk _ (by omega)).trans b5g
  replace o3 := o3.ext e12
  replace o4 := o4.ext e12
  replace o5 := o5.ext e12
  replace E := E.trans e12
  simp (disch := first | assumption | omega | rfl | (refine id ?_; simp only [gxD, ne_eq, reduceCtorEq, not_false_eq_true, Nat.reduceAdd, *]; done) | (refine id ?_; simp only [gxD]; omega)) only [↓gxPre, gxPost, ↓reduceIte, Nat.reduceEqDiff, reduceCtorEq, Nat.reduceAdd, b0g, b3g, b4g, b5g, ne_eq, not_true]
  refine callR_of (w_toPicture_ow (hv0.ext E) m0) ?_
  rintro _ H13 ⟨e13, y13, rfl, o13⟩
  have n13 := e13.n
  replace b0g := (e13.blk _ (by omega)).trans b0g
  replace b3g := (e13.blk _ (by omega)).trans b3g
  replace b4g := (e13.blk _ (by omega)).trans b4g
  replace b5g := (e13.blk _ (by omega)).trans b5g
  replace o3 := o3.ext e13
  replace o4 := o4.ext e13
  replace o5 := o5.ext e13
  replace E := E.trans e13
  have v13o := o13.one
  simp (disch := first | assumption | omega | rfl | (refine id ?_; simp only [gxD, ne_eq, reduceCtorEq, not_false_eq_true, Nat.reduceAdd, *]; done) | (refine id ?_; simp only [gxD]; omega)) only [↓gxPre, gxPost, ↓reduceIte, Nat.reduceEqDiff, reduceCtorEq, Nat.reduceAdd, b0g, b3g, b4g, b5g]
  refine callR_of (i_SoftPicture_law ⟨o13.fs, m0, hw0⟩ b0 d0 b1 b2) ?_
  rintro _ H14 ⟨e14, y14, rfl, o14, q14⟩
  have n14 := e14.n
  replace b0g := (e14.blk _ (by omega)).trans b0g
  replace b3g := (e14.blk _ (by omega)).trans b3g
  replace b4g := (e14.blk _ (by omega)).trans b4g
  replace b5g := (e14.blk _ (by omega)).trans b5g
  replace o3 := o3.ext e14
  replace o4 := o4.ext e14
  replace o5 := o5.ext e14
  replace E := E.trans e14
  have v14o := o14.one
  simp (disch := first | assumption | omega | rfl | (refine id ?_; simp only [gxD, ne_eq, reduceCtorEq, not_false_eq_true, Nat.reduceAdd, *]; done) | (refine id ?_; simp only [gxD]; omega)) only [↓gxPre, gxPost, ↓reduceIte, Nat.reduceEqDiff, reduceCtorEq, Nat.reduceAdd, b0g, b3g, b4g, b5g]
  refine callR_new ?_
  intro G14 e14g b14g n14g
  replace b0g := (e14g.blk _ (by omega)).trans b0g
  replace b3g := (e14g.blk _ (by omega)).trans b3g
  replace b4g := (e14g.blk _ (by omega)).trans b4g
  replace b5g := (e14g.blk _ (by omega)).trans b5g
  replace o3 := o3.ext e14g
  replace o4 := o4.ext e14g
  replace o5 := o5.ext e14g
  replace o14 := o14.ext e14g
  replace E := E.trans e14g
  refine callR_ext (w_eqPicture_ow o14.fs o3.fs q14) ?_
  intro H15 n15 bb15
  have e15 : Ext G14 H15 := ⟨n15, bb15⟩
  replace b0g := (e15.blk _ (by omega)).trans b0g
  replace b3g := (e15.blk _ (by omega)).trans b3g
  replace b4g := (e15.blk _ (by omega)).trans b4g
  replace b5g := (e15.blk _ (by omega)).trans b5g
  replace b14g := (e15.blk _ (by omega)).trans b14g
  replace o3 := o3.ext e15
  replace o4 := o4.ext e15
  replace o5 := o5.ext e15
  replace o14 := o14.ext e15
  replace E := E.trans e15
  simp (disch := first | assumption | omega | rfl | (refine id ?_; simp only [gxD, ne_eq, reduceCtorEq, not_false_eq_true, Nat.reduceAdd, *]; done) | (refine id ?_; simp only [gxD]; omega)) only [↓gxPre, gxPost, ↓reduceIte, Nat.reduceEqDiff, reduceCtorEq, Nat.reduceAdd, b0g, b3g, b4g, b5g, b14g, ne_eq, not_true]
  refine callR_ext (w_heldPicture_ow o5 (by first | omega | (simp only [List.length_map, List.length_range]; omega)) (by first | omega | (simp only [List.length_map, List.length_range]; omega)) (by first | omega | (simp only [List.length_map, List.length_range]; omega))) ?_
  intro H16 n16 bb16
  have e16 : Ext H15 H16 := ⟨n16, bb16⟩
  replace b0g := (e16.blk _ (by omega)).trans b0g
  replace b3g := (e16.blk _ (by omega)).trans b3g
  replace b4g := (e16.blk _ (by omega)).trans b4g
  replace b5g := (e16.blk _ (by omega)).trans b5g
  replace b14g := (e16.blk _ (by omega)).trans b14g
  replace o3 := o3.ext e16
  replace o4 := o4.ext e16
  replace o5 := o5.ext e16
  replace o14 := o14.ext e16
  replace E := E.trans e16
  simp (disch := first | assumption | omega | rfl | (refine id ?_; simp only [gxD, ne_eq, reduceCtorEq, not_false_eq_true, Nat.reduceAdd, *]; done) | (refine id ?_; simp only [gxD]; omega)) only [↓gxPre, gxPost, ↓reduceIte, Nat.reduceEqDiff, reduceCtorEq, Nat.reduceAdd, b0g, b3g, b4g, b5g, b14g, ne_eq, not_true]
end Go.Proofs.Ytkojmlpaamdhoac
