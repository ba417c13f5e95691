/- The law FnExactDistanceOf, walked: it returns true. -/
import Derived.Test.YtkojmlpaamdhoacDistanceOfXLToXW
namespace Go.Proofs.Ytkojmlpaamdhoac
open Go.Gx
set_option maxRecDepth 100000
set_option linter.unusedSimpArgs false
set_option linter.unusedVariables false
set_option maxHeartbeats 2000000
theorem w_FnExactDistanceOf_ok {H : Heap} {a0 c0 : Int} (b0 : -9223372036854775808 ≤ a0 ∧ a0 ≤ 9223372036854775807) (d0 : -9223372036854775808 ≤ c0 ∧ c0 ≤ 9223372036854775807) {v0 : Value} {xs0 : List Nat} (hv0 : FS H v0 xs0) (hw0 : W32 xs0) (hl0 : xs0.length ≤ 9223372036854775807) {a1 c1 : Int} (b1 : -9223372036854775808 ≤ a1 ∧ a1 ≤ 9223372036854775807) (d1 : -9223372036854775808 ≤ c1 ∧ c1 ≤ 9223372036854775807) {v1 : Value} {xs1 : List Nat} (hv1 : FS H v1 xs1) (hw1 : W32 xs1) (hl1 : xs1.length ≤ 9223372036854775807) : ACalls Try.prog n_w_FnExactDistanceOf [.agg #[.int .i64 a0, .int .i64 c0, v0], .agg #[.int .i64 a1, .int .i64 c1, v1]] H fun r H' => r = .bool true := by
  refine k_w_FnExactDistanceOf.run rfl ?_
  unfold c_w_FnExactDistanceOf
  have E : Ext H H := Ext.refl H
  have one0 := hv0.one
  have one1 := hv1.one
  simp (disch := first | assumption | omega | rfl | (refine id ?_; simp only [gxD, ne_eq, reduceCtorEq, not_false_eq_true, Nat.reduceAdd, *]; done) | (refine id ?_; simp only [gxD]; omega)) only [↓gxPre, gxPost, ↓reduceIte, Nat.reduceEqDiff, reduceCtorEq, Nat.reduceAdd]
  refine callR_new2 ?_
  intro G0 e0g b0g b0h n0g
  replace E := E.trans e0g
  by_cases s1 : (1048576 : Int) < xs0.length
  · refine callR_ext (w_szPicture_ow (hv0.ext E) (by omega) (by omega) hl0) ?_
    intro H1 n1 bb1
    simp (disch := first | assumption | omega | rfl | (refine id ?_; simp only [gxD, ne_eq, reduceCtorEq, not_false_eq_true, Nat.reduceAdd, *]; done) | (refine id ?_; simp only [gxD]; omega)) only [↓gxPre, gxPost, ↓reduceIte, Nat.reduceEqDiff, reduceCtorEq, Nat.reduceAdd, b0g, b0h, if_pos s1, Int.reduceLT]
  refine callR_ext (w_szPicture_ow (hv0.ext E) (by omega) (by omega) hl0) ?_
  intro H1 n1 bb1
  rw [if_neg s1]
  have e1 : Ext G0 H1 := ⟨n1, bb1⟩
  replace b0g := (e1.blk _ (by omega)).trans b0g
  replace b0h := (e1.blk _ (by omega)).trans b0h
  replace E := E.trans e1
  have z1 : ¬ ((1048576 : Int) - xs0.length < 0) := by omega
  simp (disch := first | assumption | omega | rfl | (refine id ?_; simp only [gxD, ne_eq, reduceCtorEq, not_false_eq_true, Nat.reduceAdd, *]; done) | (refine id ?_; simp only [gxD]; omega)) only [↓gxPre, gxPost, ↓reduceIte, Nat.reduceEqDiff, reduceCtorEq, Nat.reduceAdd, b0g, b0h, z1]
  by_cases s2 : ((1048576 - xs0.length) : Int) < xs1.length
  · refine callR_ext (w_szPicture_ow (hv1.ext E) (by omega) (by omega) hl1) ?_
    intro H2 n2 bb2
    simp (disch := first | assumption | omega | rfl | (refine id ?_; simp only [gxD, ne_eq, reduceCtorEq, not_false_eq_true, Nat.reduceAdd, *]; done) | (refine id ?_; simp only [gxD]; omega)) only [↓gxPre, gxPost, ↓reduceIte, Nat.reduceEqDiff, reduceCtorEq, Nat.reduceAdd, b0g, b0h, if_pos s2, Int.reduceLT]
  refine callR_ext (w_szPicture_ow (hv1.ext E) (by omega) (by omega) hl1) ?_
  intro H2 n2 bb2
  rw [if_neg s2]
  have e2 : Ext H1 H2 := ⟨n2, bb2⟩
  replace b0g := (e2.blk _ (by omega)).trans b0g
  replace b0h := (e2.blk _ (by omega)).trans b0h
  replace E := E.trans e2
  have z2 : ¬ (((1048576 - xs0.length) : Int) - xs1.length < 0) := by omega
  simp (disch := first | assumption | omega | rfl | (refine id ?_; simp only [gxD, ne_eq, reduceCtorEq, not_false_eq_true, Nat.reduceAdd, *]; done) | (refine id ?_; simp only [gxD]; omega)) only [↓gxPre, gxPost, ↓reduceIte, Nat.reduceEqDiff, reduceCtorEq, Nat.reduceAdd, b0g, b0h, z2]
  have m0 : xs0.length ≤ 2 ^ 40 := by omega
  have m1 : xs1.length ≤ 2 ^ 40 := by omega
  refine callR_of (w_toPicture_ow (hv0.ext E) m0) ?_
  rintro _ H3 ⟨e3, y3, rfl, o3⟩
  have n3 := e3.n
  replace b0g := (e3.blk _ (by omega)).trans b0g
  replace b0h := (e3.blk _ (by omega)).trans b0h
  replace E := E.trans e3
  have v3o := o3.one
  simp (disch := first | assumption | omega | rfl | (refine id ?_; simp only [gxD, ne_eq, reduceCtorEq, not_false_eq_true, Nat.reduceAdd, *]; done) | (refine id ?_; simp only [gxD]; omega)) only [↓gxPre, gxPost, ↓reduceIte, Nat.reduceEqDiff, reduceCtorEq, Nat.reduceAdd, b0g, b0h]
  refine callR_of (w_toPicture_ow (hv1.ext E) m1) ?_
  rintro _ H4 ⟨e4, y4, rfl, o4⟩
  have n4 := e4.n
  replace b0g := (e4.blk _ (by omega)).trans b0g
  replace b0h := (e4.blk _ (by omega)).trans b0h
  replace o3 := o3.ext e4
  replace E := E.trans e4
  have v4o := o4.one
  simp (disch := first | assumption | omega | rfl | (refine id ?_; simp only [gxD, ne_eq, reduceCtorEq, not_false_eq_true, Nat.reduceAdd, *]; done) | (refine id ?_; simp only [gxD]; omega)) only [↓gxPre, gxPost, ↓reduceIte, Nat.reduceEqDiff, reduceCtorEq, Nat.reduceAdd, b0g, b0h]
  refine callR_ext (s_DistanceOf_law ⟨o3.fs, m0, hw0⟩ b0 d0 ⟨o4.fs, m1, hw1⟩ b1 d1) ?_
  intro H5 n5 bb5
  have e5 : Ext H4 H5 := ⟨n5, bb5⟩
  replace b0g := (e5.blk _ (by omega)).trans b0g
  replace b0h := (e5.blk _ (by omega)).trans b0h
  replace E := E.trans e5
  simp (disch := first | assumption | omega | rfl | (refine id ?_; simp only [gxD, ne_eq, reduceCtorEq, not_false_eq_true, Nat.reduceAdd, *]; done) | (refine id ?_; simp only [gxD]; omega)) only [↓gxPre, gxPost, ↓reduceIte, Nat.reduceEqDiff, reduceCtorEq, Nat.reduceAdd, b0g, b0h]
  refine callR_of (w_toPicture_ow (hv0.ext E) m0) ?_
  rintro _ H6 ⟨e6, y6, rfl, o6⟩
  have n6 := e6.n
  replace b0g := (e6.blk _ (by omega)).trans b0g
  replace b0h := (e6.blk _ (by omega)).trans b0h
  replace E := E.trans e6
  have v6o := o6.one
  simp (disch := first | assumption | omega | rfl | (refine id ?_; simp only [gxD, ne_eq, reduceCtorEq, not_false_eq_true, Nat.reduceAdd, *]; done) | (refine id ?_; simp only [gxD]; omega)) only [↓gxPre, gxPost, ↓reduceIte, Nat.reduceEqDiff, reduceCtorEq, Nat.reduceAdd, b0g, b0h]
  refine callR_new ?_
  intro G6 e6g b6g n6g
  replace b0g := (e6g.blk _ (by omega)).trans b0g
  replace b0h := (e6g.blk _ (by omega)).trans b0h
  replace o6 := o6.ext e6g
  replace E := E.trans e6g
  refine callR_of (w_toPicture_ow (hv1.ext E) m1) ?_
  rintro _ H7 ⟨e7, y7, rfl, o7⟩
  have n7 := e7.n
  replace b0g := (e7.blk _ (by omega)).trans b0g
  replace b0h := (e7.blk _ (by omega)).trans b0h
  replace b6g := (e7.blk _ (by omega)).trans b6g
  replace o6 := o6.ext e7
  replace E := E.trans e7
  have v7o := o7.one
  simp (disch := first | assumption | omega | rfl | (refine id ?_; simp only [gxD, ne_eq, reduceCtorEq, not_false_eq_true, Nat.reduceAdd, *]; done) | (refine id ?_; simp only [gxD]; omega)) only [↓gxPre, gxPost, ↓reduceIte, Nat.reduceEqDiff, reduceCtorEq, Nat.reduceAdd, b0g, b0h, b6g]
  refine callR_new ?_
  intro G7 e7g b7g n7g
  replace b0g := (e7g.blk _ (by omega)).trans b0g
  replace b0h := (e7g.blk _ (by omega)).trans b0h
  replace b6g := (e7g.blk _ (by omega)).trans b6g
  replace o6 := o6.ext e7g
  replace o7 := o7.ext e7g
  replace E := E.trans e7g
  refine callR_ext (i_DistanceOf_law ⟨o6.fs, m0, hw0⟩ b0 d0 ⟨o7.fs, m1, hw1⟩ b1 d1) ?_
  intro H8 n8 bb8
  have e8 : Ext G7 H8 := ⟨n8, bb8⟩
  replace b0g := (e8.blk _ (by omega)).trans b0g
  replace b0h := (e8.blk _ (by omega)).trans b0h
  replace b6g := (e8.blk _ (by omega)).trans b6g
  replace b7g := (e8.blk _ (by omega)).trans b7g
  replace o6 := o6.ext e8
  replace o7 := o7.ext e8
  replace E := E.trans e8
  simp (disch := first | assumption | omega | rfl | (refine id ?_; simp only [gxD, ne_eq, reduceCtorEq, not_false_eq_true, Nat.reduceAdd, *]; done) | (refine id ?_; simp only [gxD]; omega)) only [↓gxPre, gxPost, ↓reduceIte, Nat.reduceEqDiff, reduceCtorEq, Nat.reduceAdd, b0g, b0h, b6g, b7g]
  refine callR_pure w_sameFloat_ok (.inl rfl) ?_
  simp (disch := first | assumption | omega | rfl | (refine id ?_; simp only [gxD, ne_eq, reduceCtorEq, not_false_eq_true, Nat.reduceAdd, *]; done) | (refine id ?_; simp only [gxD]; omega)) only [↓gxPre, gxPost, ↓reduceIte, Nat.reduceEqDiff, reduceCtorEq, Nat.reduceAdd, b0g, b0h, b6g, b7g, ne_eq, not_true]
  refine callR_of (w_toPicture_ow (hv0.ext E) m0) ?_
  rintro _ H9 ⟨e9, y9, rfl, o9⟩
  have n9 := e9.n
  replace b0g := (e9.blk _ (by omega)).trans b0g
  replace b0h := (e9.blk _ (by omega)).trans b0h
  replace b6g := (e9.blk _ (by omega)).trans b6g
  replace b7g := (e9.blk _ (by omega)).trans b7g
  replace o6 := o6.ext e9
  replace o7 := o7.ext e9
  replace E := E.trans e9
  have v9o := o9.one
  simp (disch := first | assumption | omega | rfl | (refine id ?_; simp only [gxD, ne_eq, reduceCtorEq, not_false_eq_true, Nat.reduceAdd, *]; done) | (refine id ?_; simp only [gxD]; omega)) only [↓gxPre, gxPost, ↓reduceIte, Nat.reduceEqDiff, reduceCtorEq, Nat.reduceAdd, b0g, b0h, b6g, b7g]
  refine callR_ext (w_eqPicture_ow o6.fs o9.fs m0) ?_
  intro H10 n10 bb10
  have e10 : Ext H9 H10 := ⟨n10, bb10⟩
  replace b0g := (e10.blk _ (by omega)).trans b0g
  replace b0h := (e10.blk _ (by omega)).trans b0h
  replace b6g := (e10.blk _ (by omega)).trans b6g
  replace b7g := (e10.blk _ (by omega)).trans b7g
  replace o6 := o6.ext e10
  replace o7 := o7.ext e10
  replace E := E.trans e10
  simp (disch := first | assumption | omega | rfl | (refine id ?_; simp only [gxD, ne_eq, reduceCtorEq, not_false_eq_true, Nat.reduceAdd, *]; done) | (refine id ?_; simp only [gxD]; omega)) only [↓gxPre, gxPost, ↓reduceIte, Nat.reduceEqDiff, reduceCtorEq, Nat.reduceAdd, b0g, b0h, b6g, b7g, ne_eq, not_true]
  refine callR_of (w_toPicture_ow (hv1.ext E) m1) ?_
  rintro _ H11 ⟨e11, y11, rfl, o11⟩
  have n11 := e11.n
  replace b0g := (e11.blk _ (by omega)).trans b0g
  replace b0h := (e11.blk _ (by omega)).trans b0h
  replace b6g := (e11.blk _ (by omega)).trans b6g
  replace b7g := (e11.blk _ (by omega)).trans b7g
  replace o6 := o6.ext e11
  replace o7 := o7.ext e11
  replace E := E.trans e11
  have v11o := o11.one
  simp (disch := first | assumption | omega | rfl | (refine id ?_; simp only [gxD, ne_eq, reduceCtorEq, not_false_eq_true, Nat.reduceAdd, *]; done) | (refine id ?_; simp only [gxD]; omega)) only [↓gxPre, gxPost, ↓reduceIte, Nat.reduceEqDiff, reduceCtorEq, Nat.reduceAdd, b0g, b0h, b6g, b7g]
  refine callR_ext (w_eqPicture_ow o7.fs o11.fs m1) ?_
  intro H12 n12 bb12
  have e12 : Ext H11 H12 := ⟨n12, bb12⟩
  replace b0g := (e12.blk _ (by omega)).trans b0g
  replace b0h := (e12.blk _ (by omega)).trans b0h
  replace b6g := (e12.blk _ (by omega)).trans b6g
  replace b7g := (e12.blk _ (by omega)).trans b7g
  replace o6 := o6.ext e12
  replace o7 := o7.ext e12
  replace E := E.trans e12
  simp (disch := first | assumption | omega | rfl | (refine id ?_; simp only [gxD, ne_eq, reduceCtorEq, not_false_eq_true, Nat.reduceAdd, *]; done) | (refine id ?_; simp only [gxD]; omega)) only [↓gxPre, gxPost, ↓reduceIte, Nat.reduceEqDiff, reduceCtorEq, Nat.reduceAdd, b0g, b0h, b6g, b7g, ne_eq, not_true]
end Go.Proofs.Ytkojmlpaamdhoac
