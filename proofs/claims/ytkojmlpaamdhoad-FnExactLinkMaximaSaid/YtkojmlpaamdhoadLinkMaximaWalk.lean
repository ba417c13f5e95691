/- The law FnExactLinkMaxima, walked: it returns true. -/
import Derived.Test.YtkojmlpaamdhoadLinkMaximaXT
namespace Go.Proofs.Ytkojmlpaamdhoad
open Go.Gx
set_option maxRecDepth 100000
set_option linter.unusedSimpArgs false
set_option linter.unusedVariables false
set_option maxHeartbeats 2000000
theorem w_FnExactLinkMaxima_ok {H : Heap} {v0 : Value} {xs0 : List (List Nat)} (hv0 : SS H v0 xs0) (hw0 : W32S xs0) (hl0 : xs0.length ≤ 9223372036854775807) (hr0 : ∀ j, (xs0.getD j []).length ≤ 9223372036854775807) {a1 : Int} (b1 : -9223372036854775808 ≤ a1 ∧ a1 ≤ 9223372036854775807) : ACalls Try.prog n_w_FnExactLinkMaxima [v0, .int .i64 a1] H fun r H' => r = .bool true := by
  refine k_w_FnExactLinkMaxima.run rfl ?_
  unfold c_w_FnExactLinkMaxima
  have E : Ext H H := Ext.refl H
  have one0 := hv0.one'
  simp (disch := first | assumption | omega | rfl | (refine id ?_; simp only [gxD, ne_eq, reduceCtorEq, not_false_eq_true, Nat.reduceAdd, *]; done) | (refine id ?_; simp only [gxD]; omega)) only [↓gxPre, gxPost, ↓reduceIte, Nat.reduceEqDiff, reduceCtorEq, Nat.reduceAdd]
  by_cases s1 : (1048576 : Int) < (totL xs0 : Nat)
  · refine callR_ext (w_szFloat32SS_ow (hv0.ext E) (by omega) (by omega) hl0 hr0) ?_
    intro H1 n1 bb1
    simp (disch := first | assumption | omega | rfl | (refine id ?_; simp only [gxD, ne_eq, reduceCtorEq, not_false_eq_true, Nat.reduceAdd, *]; done) | (refine id ?_; simp only [gxD]; omega)) only [↓gxPre, gxPost, ↓reduceIte, Nat.reduceEqDiff, reduceCtorEq, Nat.reduceAdd, if_pos s1, Int.reduceLT]
  refine callR_ext (w_szFloat32SS_ow (hv0.ext E) (by omega) (by omega) hl0 hr0) ?_
  intro H1 n1 bb1
  rw [if_neg s1]
  have e1 : Ext H H1 := ⟨n1, bb1⟩
  replace E := E.trans e1
  have z1 : ¬ ((1048576 : Int) - (totL xs0 : Nat) < 0) := by omega
  simp (disch := first | assumption | omega | rfl | (refine id ?_; simp only [gxD, ne_eq, reduceCtorEq, not_false_eq_true, Nat.reduceAdd, *]; done) | (refine id ?_; simp only [gxD]; omega)) only [↓gxPre, gxPost, ↓reduceIte, Nat.reduceEqDiff, reduceCtorEq, Nat.reduceAdd, z1]
  have m0 : totL xs0 ≤ 2 ^ 40 := by omega
  refine callR_of (w_toFloat32SS_ow (hv0.ext E) m0) ?_
  rintro y2 H2 ⟨e2, o2⟩
  have n2 := e2.n
  replace E := E.trans e2
  simp (disch := first | assumption | omega | rfl | (refine id ?_; simp only [gxD, ne_eq, reduceCtorEq, not_false_eq_true, Nat.reduceAdd, *]; done) | (refine id ?_; simp only [gxD]; omega)) only [↓gxPre, gxPost, ↓reduceIte, Nat.reduceEqDiff, reduceCtorEq, Nat.reduceAdd]
  refine callR_of (s_LinkMaxima_law ⟨o2.ss, m0, hw0⟩ b1) ?_
  rintro _ H3 ⟨e3, y3, rfl, o3, q3⟩
  have n3 := e3.n
  replace E := E.trans e3
  simp (disch := first | assumption | omega | rfl | (refine id ?_; simp only [gxD, ne_eq, reduceCtorEq, not_false_eq_true, Nat.reduceAdd, *]; done) | (refine id ?_; simp only [gxD]; omega)) only [↓gxPre, gxPost, ↓reduceIte, Nat.reduceEqDiff, reduceCtorEq, Nat.reduceAdd]
  refine callR_of (w_toFloat32SS_ow (hv0.ext E) m0) ?_
  rintro y4 H4 ⟨e4, o4⟩
  have n4 := e4.n
  replace o3 := o3.ext e4
  replace E := E.trans e4
  simp (disch := first | assumption | omega | rfl | (refine id ?_; simp only [gxD, ne_eq, reduceCtorEq, not_false_eq_true, Nat.reduceAdd, *]; done) | (refine id ?_; simp only [gxD]; omega)) only [↓gxPre, gxPost, ↓reduceIte, Nat.reduceEqDiff, reduceCtorEq, Nat.reduceAdd]
  refine callR_of (i_LinkMaxima_law ⟨o4.ss, m0, hw0⟩ b1) ?_
  rintro _ H5 ⟨e5, y5, rfl, o5, q5⟩
  have n5 := e5.n
  replace o3 := o3.ext e5
  replace o4 := o4.ext e5
  replace E := E.trans e5
  simp (disch := first | assumption | omega | rfl | (refine id ?_; simp only [gxD, ne_eq, reduceCtorEq, not_false_eq_true, Nat.reduceAdd, *]; done) | (refine id ?_; simp only [gxD]; omega)) only [↓gxPre, gxPost, ↓reduceIte, Nat.reduceEqDiff, reduceCtorEq, Nat.reduceAdd]
  refine callR_ext (w_eqInt64S_ow o5.is o3.is q5) ?_
  intro H6 n6 bb6
  have e6 : Ext H5 H6 := ⟨n6, bb6⟩
  replace o3 := o3.ext e6
  replace o4 := o4.ext e6
  replace o5 := o5.ext e6
  replace E := E.trans e6
  simp (disch := first | assumption | omega | rfl | (refine id ?_; simp only [gxD, ne_eq, reduceCtorEq, not_false_eq_true, Nat.reduceAdd, *]; done) | (refine id ?_; simp only [gxD]; omega)) only [↓gxPre, gxPost, ↓reduceIte, Nat.reduceEqDiff, reduceCtorEq, Nat.reduceAdd, ne_eq, not_true]
  refine callR_of (w_toFloat32SS_ow (hv0.ext E) m0) ?_
  rintro y7 H7 ⟨e7, o7⟩
  have n7 := e7.n
  replace o3 := o3.ext e7
  replace o4 := o4.ext e7
  replace o5 := o5.ext e7
  replace E := E.trans e7
  simp (disch := first | assumption | omega | rfl | (refine id ?_; simp only [gxD, ne_eq, reduceCtorEq, not_false_eq_true, Nat.reduceAdd, *]; done) | (refine id ?_; simp only [gxD]; omega)) only [↓gxPre, gxPost, ↓reduceIte, Nat.reduceEqDiff, reduceCtorEq, Nat.reduceAdd]
  refine callR_ext (w_eqFloat32SS_ow o4.ss o7.ss m0) ?_
  intro H8 n8 bb8
  have e8 : Ext H7 H8 := ⟨n8, bb8⟩
  replace o3 := o3.ext e8
  replace o4 := o4.ext e8
  replace o5 := o5.ext e8
  replace E := E.trans e8
  simp (disch := first | assumption | omega | rfl | (refine id ?_; simp only [gxD, ne_eq, reduceCtorEq, not_false_eq_true, Nat.reduceAdd, *]; done) | (refine id ?_; simp only [gxD]; omega)) only [↓gxPre, gxPost, ↓reduceIte, Nat.reduceEqDiff, reduceCtorEq, Nat.reduceAdd, ne_eq, not_true]
  refine callR_of (w_markFloat32SS_ow o4 (by first | omega | (simp only [List.length_map, List.length_range]; omega)) (by first | omega | (simp only [List.length_map, List.length_range]; omega)) (by first | exact tot_fs m0 | exact tot_is m0)) ?_
  rintro _ H9 ⟨rfl, p9, f9⟩
  have n9 := f9.n
  replace o4 := p9
  have hz9 := tot_fs m0
  unfold totL at hz9
  replace o3 := o3.off f9 (by omega)
  replace o5 := o5.off f9 (by omega)
  replace E := E.mark f9 (by omega)
  simp (disch := first | assumption | omega | rfl | (refine id ?_; simp only [gxD, ne_eq, reduceCtorEq, not_false_eq_true, Nat.reduceAdd, *]; done) | (refine id ?_; simp only [gxD]; omega)) only [↓gxPre, gxPost, ↓reduceIte, Nat.reduceEqDiff, reduceCtorEq, Nat.reduceAdd, ne_eq, not_true]
  refine callR_ext (w_eqInt64S_ow o5.is o3.is q5) ?_
  intro H10 n10 bb10
  have e10 : Ext H9 H10 := ⟨n10, bb10⟩
  replace o3 := o3.ext e10
  replace o4 := o4.ext e10
  replace o5 := o5.ext e10
  replace E := E.trans e10
  simp (disch := first | assumption | omega | rfl | (refine id ?_; simp only [gxD, ne_eq, reduceCtorEq, not_false_eq_true, Nat.reduceAdd, *]; done) | (refine id ?_; simp only [gxD]; omega)) only [↓gxPre, gxPost, ↓reduceIte, Nat.reduceEqDiff, reduceCtorEq, Nat.reduceAdd, ne_eq, not_true]
  refine callR_of (w_markInt64S_ow o5 (by first | omega | (simp only [List.length_map, List.length_range]; omega)) (by first | omega | (simp only [List.length_map, List.length_range]; omega)) (by first | omega | (simp only [List.length_map, List.length_range]; omega))) ?_
  rintro _ H11 ⟨rfl, p11, g11⟩
  have f11 := g11.off o5
  have n11 := f11.n
  replace o5 := p11
  replace o3 := o3.off f11 (by omega)
  replace o4 := o4.off f11 (by omega)
  replace E := E.mark f11 (by omega)
  simp (disch := first | assumption | omega | rfl | (refine id ?_; simp only [gxD, ne_eq, reduceCtorEq, not_false_eq_true, Nat.reduceAdd, *]; done) | (refine id ?_; simp only [gxD]; omega)) only [↓gxPre, gxPost, ↓reduceIte, Nat.reduceEqDiff, reduceCtorEq, Nat.reduceAdd, ne_eq, not_true]
  refine callR_ext (w_heldInt64S_ow o5 (by first | omega | (simp only [List.length_map, List.length_range]; omega)) (by first | omega | (simp only [List.length_map, List.length_range]; omega)) (by first | omega | (simp only [List.length_map, List.length_range]; omega))) ?_
  intro H12 n12 bb12
  have e12 : Ext H11 H12 := ⟨n12, bb12⟩
  replace o3 := o3.ext e12
  replace o4 := o4.ext e12
  replace o5 := o5.ext e12
  replace E := E.trans e12
  simp (disch := first | assumption | omega | rfl | (refine id ?_; simp only [gxD, ne_eq, reduceCtorEq, not_false_eq_true, Nat.reduceAdd, *]; done) | (refine id ?_; simp only [gxD]; omega)) only [↓gxPre, gxPost, ↓reduceIte, Nat.reduceEqDiff, reduceCtorEq, Nat.reduceAdd, ne_eq, not_true]
  refine callR_of (w_toFloat32SS_ow (hv0.ext E) m0) ?_
  rintro y13 H13 ⟨e13, o13⟩
  have n13 := e13.n
  replace o3 := o3.ext e13
  replace o4 := o4.ext e13
  replace o5 := o5.ext e13
  replace E := E.trans e13
  simp (disch := first | assumption | omega | rfl | (refine id ?_; simp only [gxD, ne_eq, reduceCtorEq, not_false_eq_true, Nat.reduceAdd, *]; done) | (refine id ?_; simp only [gxD]; omega)) only [↓gxPre, gxPost, ↓reduceIte, Nat.reduceEqDiff, reduceCtorEq, Nat.reduceAdd]
  refine callR_of (i_LinkMaxima_law ⟨o13.ss, m0, hw0⟩ b1) ?_
  rintro _ H14 ⟨e14, y14, rfl, o14, q14⟩
  have n14 := e14.n
  replace o3 := o3.ext e14
  replace o4 := o4.ext e14
  replace o5 := o5.ext e14
  replace E := E.trans e14
  simp (disch := first | assumption | omega | rfl | (refine id ?_; simp only [gxD, ne_eq, reduceCtorEq, not_false_eq_true, Nat.reduceAdd, *]; done) | (refine id ?_; simp only [gxD]; omega)) only [↓gxPre, gxPost, ↓reduceIte, Nat.reduceEqDiff, reduceCtorEq, Nat.reduceAdd]
  refine callR_ext (w_eqInt64S_ow o14.is o3.is q14) ?_
  intro H15 n15 bb15
  have e15 : Ext H14 H15 := ⟨n15, bb15⟩
  replace o3 := o3.ext e15
  replace o4 := o4.ext e15
  replace o5 := o5.ext e15
  replace o14 := o14.ext e15
  replace E := E.trans e15
  simp (disch := first | assumption | omega | rfl | (refine id ?_; simp only [gxD, ne_eq, reduceCtorEq, not_false_eq_true, Nat.reduceAdd, *]; done) | (refine id ?_; simp only [gxD]; omega)) only [↓gxPre, gxPost, ↓reduceIte, Nat.reduceEqDiff, reduceCtorEq, Nat.reduceAdd, ne_eq, not_true]
  refine callR_ext (w_heldInt64S_ow o5 (by first | omega | (simp only [List.length_map, List.length_range]; omega)) (by first | omega | (simp only [List.length_map, List.length_range]; omega)) (by first | omega | (simp only [List.length_map, List.length_range]; omega))) ?_
  intro H16 n16 bb16
  have e16 : Ext H15 H16 := ⟨n16, bb16⟩
  replace o3 := o3.ext e16
  replace o4 := o4.ext e16
  replace o5 := o5.ext e16
  replace o14 := o14.ext e16
  replace E := E.trans e16
  simp (disch := first | assumption | omega | rfl | (refine id ?_; simp only [gxD, ne_eq, reduceCtorEq, not_false_eq_true, Nat.reduceAdd, *]; done) | (refine id ?_; simp only [gxD]; omega)) only [↓gxPre, gxPost, ↓reduceIte, Nat.reduceEqDiff, reduceCtorEq, Nat.reduceAdd, ne_eq, not_true]
end Go.Proofs.Ytkojmlpaamdhoad
