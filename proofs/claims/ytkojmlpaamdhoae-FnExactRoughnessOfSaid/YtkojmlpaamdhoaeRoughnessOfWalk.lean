/- The law FnExactRoughnessOf, walked: it returns true. -/
import Derived.Test.YtkojmlpaamdhoaeRoughnessOfXY
namespace Go.Proofs.Ytkojmlpaamdhoae
open Go.Gx
set_option maxRecDepth 100000
set_option linter.unusedSimpArgs false
set_option linter.unusedVariables false
set_option maxHeartbeats 2000000
theorem w_FnExactRoughnessOf_ok {H : Heap} {v0 : Value} {xs0 : List Nat} (hv0 : FS H v0 xs0) (hw0 : W32 xs0) (hl0 : xs0.length ≤ 9223372036854775807) {u0 : Value} {ys0 : List (List Nat)} (hu0 : SS H u0 ys0) (hx0 : W32S ys0) (hm0 : ys0.length ≤ 9223372036854775807) (hr0 : ∀ j, (ys0.getD j []).length ≤ 9223372036854775807) : ACalls Try.prog n_w_FnExactRoughnessOf [.agg #[v0, u0]] H fun r H' => r = .bool true := by
  refine k_w_FnExactRoughnessOf.run rfl ?_
  unfold c_w_FnExactRoughnessOf
  have E : Ext H H := Ext.refl H
  have one0 := hv0.one
  have two0 := hu0.one'
  simp (disch := first | assumption | omega | rfl | (refine id ?_; simp only [gxD, ne_eq, reduceCtorEq, not_false_eq_true, Nat.reduceAdd, *]; done) | (refine id ?_; simp only [gxD]; omega)) only [↓gxPre, gxPost, ↓reduceIte, Nat.reduceEqDiff, reduceCtorEq, Nat.reduceAdd]
  refine callR_new ?_
  intro G0 e0g b0g n0g
  replace E := E.trans e0g
  by_cases s1 : (1048576 : Int) < (xs0.length + totL ys0 : Nat)
  · refine callR_ext (w_szBands_ow (hv0.ext E) (hu0.ext E) (by omega) (by omega) hl0 hm0 hr0) ?_
    intro H1 n1 bb1
    simp (disch := first | assumption | omega | rfl | (refine id ?_; simp only [gxD, ne_eq, reduceCtorEq, not_false_eq_true, Nat.reduceAdd, *]; done) | (refine id ?_; simp only [gxD]; omega)) only [↓gxPre, gxPost, ↓reduceIte, Nat.reduceEqDiff, reduceCtorEq, Nat.reduceAdd, b0g, if_pos s1, Int.reduceLT]
  refine callR_ext (w_szBands_ow (hv0.ext E) (hu0.ext E) (by omega) (by omega) hl0 hm0 hr0) ?_
  intro H1 n1 bb1
  rw [if_neg s1]
  have e1 : Ext G0 H1 := ⟨n1, bb1⟩
  replace b0g := (e1.blk _ (by omega)).trans b0g
  replace E := E.trans e1
  have z1 : ¬ ((1048576 : Int) - (xs0.length + totL ys0 : Nat) < 0) := by omega
  simp (disch := first | assumption | omega | rfl | (refine id ?_; simp only [gxD, ne_eq, reduceCtorEq, not_false_eq_true, Nat.reduceAdd, *]; done) | (refine id ?_; simp only [gxD]; omega)) only [↓gxPre, gxPost, ↓reduceIte, Nat.reduceEqDiff, reduceCtorEq, Nat.reduceAdd, b0g, z1]
  have m0 : xs0.length ≤ 2 ^ 40 := by omega
  have t0 : totL ys0 ≤ 2 ^ 40 := by omega
  refine callR_of (w_toBands_ow (hv0.ext E) (hu0.ext E) m0 t0) ?_
  rintro _ H2 ⟨e2, y2, z2, rfl, o2⟩
  have n2 := e2.n
  replace b0g := (e2.blk _ (by omega)).trans b0g
  replace E := E.trans e2
  have v2o := o2.co.one
  have v2d := o2.de.one
  simp (disch := first | assumption | omega | rfl | (refine id ?_; simp only [gxD, ne_eq, reduceCtorEq, not_false_eq_true, Nat.reduceAdd, *]; done) | (refine id ?_; simp only [gxD]; omega)) only [↓gxPre, gxPost, ↓reduceIte, Nat.reduceEqDiff, reduceCtorEq, Nat.reduceAdd, b0g]
  refine callR_ext (s_RoughnessOf_law ⟨o2.fs, m0, hw0⟩ ⟨o2.ss, t0, hx0⟩) ?_
  intro H3 n3 bb3
  have e3 : Ext H2 H3 := ⟨n3, bb3⟩
  replace b0g := (e3.blk _ (by omega)).trans b0g
  replace E := E.trans e3
  simp (disch := first | assumption | omega | rfl | (refine id ?_; simp only [gxD, ne_eq, reduceCtorEq, not_false_eq_true, Nat.reduceAdd, *]; done) | (refine id ?_; simp only [gxD]; omega)) only [↓gxPre, gxPost, ↓reduceIte, Nat.reduceEqDiff, reduceCtorEq, Nat.reduceAdd, b0g]
  refine callR_of (w_toBands_ow (hv0.ext E) (hu0.ext E) m0 t0) ?_
  rintro _ H4 ⟨e4, y4, z4, rfl, o4⟩
  have n4 := e4.n
  replace b0g := (e4.blk _ (by omega)).trans b0g
  replace E := E.trans e4
  have v4o := o4.co.one
  have v4d := o4.de.one
  simp (disch := first | assumption | omega | rfl | (refine id ?_; simp only [gxD, ne_eq, reduceCtorEq, not_false_eq_true, Nat.reduceAdd, *]; done) | (refine id ?_; simp only [gxD]; omega)) only [↓gxPre, gxPost, ↓reduceIte, Nat.reduceEqDiff, reduceCtorEq, Nat.reduceAdd, b0g]
  refine callR_new ?_
  intro G4 e4g b4g n4g
  replace b0g := (e4g.blk _ (by omega)).trans b0g
  replace o4 := o4.ext e4g
  replace E := E.trans e4g
  refine callR_ext (i_RoughnessOf_law ⟨o4.fs, m0, hw0⟩ ⟨o4.ss, t0, hx0⟩) ?_
  intro H5 n5 bb5
  have e5 : Ext G4 H5 := ⟨n5, bb5⟩
  replace b0g := (e5.blk _ (by omega)).trans b0g
  replace b4g := (e5.blk _ (by omega)).trans b4g
  replace o4 := o4.ext e5
  replace E := E.trans e5
  simp (disch := first | assumption | omega | rfl | (refine id ?_; simp only [gxD, ne_eq, reduceCtorEq, not_false_eq_true, Nat.reduceAdd, *]; done) | (refine id ?_; simp only [gxD]; omega)) only [↓gxPre, gxPost, ↓reduceIte, Nat.reduceEqDiff, reduceCtorEq, Nat.reduceAdd, b0g, b4g]
  refine callR_pure w_sameFloat_ok (.inl rfl) ?_
  simp (disch := first | assumption | omega | rfl | (refine id ?_; simp only [gxD, ne_eq, reduceCtorEq, not_false_eq_true, Nat.reduceAdd, *]; done) | (refine id ?_; simp only [gxD]; omega)) only [↓gxPre, gxPost, ↓reduceIte, Nat.reduceEqDiff, reduceCtorEq, Nat.reduceAdd, b0g, b4g, ne_eq, not_true]
  refine callR_of (w_toBands_ow (hv0.ext E) (hu0.ext E) m0 t0) ?_
  rintro _ H6 ⟨e6, y6, z6, rfl, o6⟩
  have n6 := e6.n
  replace b0g := (e6.blk _ (by omega)).trans b0g
  replace b4g := (e6.blk _ (by omega)).trans b4g
  replace o4 := o4.ext e6
  replace E := E.trans e6
  have v6o := o6.co.one
  have v6d := o6.de.one
  simp (disch := first | assumption | omega | rfl | (refine id ?_; simp only [gxD, ne_eq, reduceCtorEq, not_false_eq_true, Nat.reduceAdd, *]; done) | (refine id ?_; simp only [gxD]; omega)) only [↓gxPre, gxPost, ↓reduceIte, Nat.reduceEqDiff, reduceCtorEq, Nat.reduceAdd, b0g, b4g]
  refine callR_ext (w_eqBands_ow o4.fs o4.ss o6.fs o6.ss m0 t0) ?_
  intro H7 n7 bb7
  have e7 : Ext H6 H7 := ⟨n7, bb7⟩
  replace b0g := (e7.blk _ (by omega)).trans b0g
  replace b4g := (e7.blk _ (by omega)).trans b4g
  replace o4 := o4.ext e7
  replace E := E.trans e7
  simp (disch := first | assumption | omega | rfl | (refine id ?_; simp only [gxD, ne_eq, reduceCtorEq, not_false_eq_true, Nat.reduceAdd, *]; done) | (refine id ?_; simp only [gxD]; omega)) only [↓gxPre, gxPost, ↓reduceIte, Nat.reduceEqDiff, reduceCtorEq, Nat.reduceAdd, b0g, b4g, ne_eq, not_true]
end Go.Proofs.Ytkojmlpaamdhoae
