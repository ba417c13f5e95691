/- The law FnExactSplitLevels, walked: it returns true. -/
import Derived.Test.YtkojmlpaamdhoadSplitLevelsXR
namespace Go.Proofs.Ytkojmlpaamdhoad
open Go.Gx
set_option maxRecDepth 100000
set_option linter.unusedSimpArgs false
set_option linter.unusedVariables false
set_option maxHeartbeats 2000000
theorem w_FnExactSplitLevels_ok {H : Heap} {v0 : Value} {xs0 : List Nat} (hv0 : FS H v0 xs0) (hw0 : W32 xs0) (hl0 : xs0.length ≤ 9223372036854775807) {v1 : Value} {xs1 : List Nat} (hv1 : FS H v1 xs1) (hw1 : W32 xs1) (hl1 : xs1.length ≤ 9223372036854775807) {a2 : Int} (b2 : -9223372036854775808 ≤ a2 ∧ a2 ≤ 9223372036854775807) : ACalls Try.prog n_w_FnExactSplitLevels [v0, .agg #[v1], .int .i64 a2] H fun r H' => r = .bool true := by
  refine k_w_FnExactSplitLevels.run rfl ?_
  unfold c_w_FnExactSplitLevels
  have E : Ext H H := Ext.refl H
  have one0 := hv0.one
  have one1 := hv1.one
  simp (disch := first | assumption | omega | rfl | (refine id ?_; simp only [gxD, ne_eq, reduceCtorEq, not_false_eq_true, Nat.reduceAdd, *]; done) | (refine id ?_; simp only [gxD]; omega)) only [↓gxPre, gxPost, ↓reduceIte, Nat.reduceEqDiff, reduceCtorEq, Nat.reduceAdd]
  by_cases s1 : (1048576 : Int) < xs0.length
  · simp (disch := first | assumption | omega | rfl | (refine id ?_; simp only [gxD, ne_eq, reduceCtorEq, not_false_eq_true, Nat.reduceAdd, *]; done) | (refine id ?_; simp only [gxD]; omega)) only [↓gxPre, gxPost, ↓reduceIte, Nat.reduceEqDiff, reduceCtorEq, Nat.reduceAdd, hv0.len, s1]
  simp (disch := first | assumption | omega | rfl | (refine id ?_; simp only [gxD, ne_eq, reduceCtorEq, not_false_eq_true, Nat.reduceAdd, *]; done) | (refine id ?_; simp only [gxD]; omega)) only [↓gxPre, gxPost, ↓reduceIte, Nat.reduceEqDiff, reduceCtorEq, Nat.reduceAdd, hv0.len, s1]
  refine callR_new ?_
  intro G0 e0g b0g n0g
  replace E := E.trans e0g
  by_cases s1 : (1048576 : Int) < xs1.length
  · refine callR_ext (w_szPair_ow (hv1.ext E) (by omega) (by omega) hl1) ?_
    intro H1 n1 bb1
    simp (disch := first | assumption | omega | rfl | (refine id ?_; simp only [gxD, ne_eq, reduceCtorEq, not_false_eq_true, Nat.reduceAdd, *]; done) | (refine id ?_; simp only [gxD]; omega)) only [↓gxPre, gxPost, ↓reduceIte, Nat.reduceEqDiff, reduceCtorEq, Nat.reduceAdd, b0g, if_pos s1, Int.reduceLT]
  refine callR_ext (w_szPair_ow (hv1.ext E) (by omega) (by omega) hl1) ?_
  intro H1 n1 bb1
  rw [if_neg s1]
  have e1 : Ext G0 H1 := ⟨n1, bb1⟩
  replace b0g := (e1.blk _ (by omega)).trans b0g
  replace E := E.trans e1
  have z1 : ¬ ((1048576 : Int) - xs1.length < 0) := by omega
  simp (disch := first | assumption | omega | rfl | (refine id ?_; simp only [gxD, ne_eq, reduceCtorEq, not_false_eq_true, Nat.reduceAdd, *]; done) | (refine id ?_; simp only [gxD]; omega)) only [↓gxPre, gxPost, ↓reduceIte, Nat.reduceEqDiff, reduceCtorEq, Nat.reduceAdd, b0g, z1]
  have m0 : xs0.length ≤ 2 ^ 40 := by omega
  have m1 : xs1.length ≤ 2 ^ 40 := by omega
  apply bothBands (bty := t_Bands) (sty := t_sfloat32) (t := t_float32) (G0 := H1)
  case main =>
    intro key
    refine bothR_mk ?_ ?_
    ·
      simp (disch := first | assumption | omega | rfl | (refine id ?_; simp only [gxD, ne_eq, reduceCtorEq, not_false_eq_true, Nat.reduceAdd, *]; done) | (refine id ?_; simp only [gxD]; omega)) only [↓gxPre, gxPost, ↓reduceIte, Nat.reduceEqDiff, reduceCtorEq, Nat.reduceAdd]
      refine bothR_mk ?_ ?_
      ·
        simp (disch := first | assumption | omega | rfl | (refine id ?_; simp only [gxD, ne_eq, reduceCtorEq, not_false_eq_true, Nat.reduceAdd, *]; done) | (refine id ?_; simp only [gxD]; omega)) only [↓gxPre, gxPost, ↓reduceIte, Nat.reduceEqDiff, reduceCtorEq, Nat.reduceAdd]
        refine bothR_mk ?_ ?_
        ·
          have eL : Ext H1 H1 := Ext.refl _
          simp (disch := first | assumption | omega | rfl | (refine id ?_; simp only [gxD, ne_eq, reduceCtorEq, not_false_eq_true, Nat.reduceAdd, *]; done) | (refine id ?_; simp only [gxD]; omega)) only [↓gxPre, gxPost, ↓reduceIte, Nat.reduceEqDiff, reduceCtorEq, Nat.reduceAdd, b0g]
          refine callR_of (w_toFloat32S_ow ((hv0.ext E).ext eL) m0) ?_
          rintro yl1 L1 ⟨el1, ol1⟩
          have nl1 := el1.n
          replace b0g := (el1.blk _ (by omega)).trans b0g
          replace eL := eL.trans el1
          have vl1 := ol1.one
          simp (disch := first | assumption | omega | rfl | (refine id ?_; simp only [gxD, ne_eq, reduceCtorEq, not_false_eq_true, Nat.reduceAdd, *]; done) | (refine id ?_; simp only [gxD]; omega)) only [↓gxPre, gxPost, ↓reduceIte, Nat.reduceEqDiff, reduceCtorEq, Nat.reduceAdd, b0g]
          refine callR_of (w_toPair_ow ((hv1.ext E).ext eL) m1) ?_
          rintro _ L2 ⟨el2, yl2, rfl, ol2⟩
          have nl2 := el2.n
          replace b0g := (el2.blk _ (by omega)).trans b0g
          replace ol1 := ol1.ext el2
          replace eL := eL.trans el2
          have vl2 := ol2.one
          simp (disch := first | assumption | omega | rfl | (refine id ?_; simp only [gxD, ne_eq, reduceCtorEq, not_false_eq_true, Nat.reduceAdd, *]; done) | (refine id ?_; simp only [gxD]; omega)) only [↓gxPre, gxPost, ↓reduceIte, Nat.reduceEqDiff, reduceCtorEq, Nat.reduceAdd, b0g]
          refine callR_of (s_SplitLevels_law ⟨ol1.fs, m0, hw0⟩ ⟨ol2.fs, m1, hw1⟩ b2) ?_
          rintro _ L3 ⟨el3, yr, zr, rfl, orr, qr, rr⟩
          have vr := orr.co.one
          have wr := orr.de.one
          have nl3 := el3.n
          replace b0g := (el3.blk _ (by omega)).trans b0g
          replace eL := eL.trans el3
          simp (disch := first | assumption | omega | rfl | (refine id ?_; simp only [gxD, ne_eq, reduceCtorEq, not_false_eq_true, Nat.reduceAdd, *]; done) | (refine id ?_; simp only [gxD]; omega)) only [↓gxPre, gxPost, ↓reduceIte, Nat.reduceEqDiff, reduceCtorEq, Nat.reduceAdd, b0g]
          obtain ⟨p, hp⟩ : ∃ p, p = L3.n := ⟨_, rfl⟩
          refine callR_new ?_
          intro J eJ bJ nJ
          try rw [← hp] at bJ ⊢
          refine key p yr zr J ?_ ?_ ?_ ?_ ?_ ?_ ?_
          · omega
          · omega
          · exact eL.trans eJ
          · exact bJ
          · exact (orr.ext eJ).wide (by omega) (by omega)
          · exact qr
          · exact rr
        ·
          have eL : Ext H1 H1 := Ext.refl _
          simp (disch := first | assumption | omega | rfl | (refine id ?_; simp only [gxD, ne_eq, reduceCtorEq, not_false_eq_true, Nat.reduceAdd, *]; done) | (refine id ?_; simp only [gxD]; omega)) only [↓gxPre, gxPost, ↓reduceIte, Nat.reduceEqDiff, reduceCtorEq, Nat.reduceAdd, b0g]
          refine callR_of (w_toFloat32S_ow ((hv0.ext E).ext eL) m0) ?_
          rintro yl1 L1 ⟨el1, ol1⟩
          have nl1 := el1.n
          replace b0g := (el1.blk _ (by omega)).trans b0g
          replace eL := eL.trans el1
          have vl1 := ol1.one
          simp (disch := first | assumption | omega | rfl | (refine id ?_; simp only [gxD, ne_eq, reduceCtorEq, not_false_eq_true, Nat.reduceAdd, *]; done) | (refine id ?_; simp only [gxD]; omega)) only [↓gxPre, gxPost, ↓reduceIte, Nat.reduceEqDiff, reduceCtorEq, Nat.reduceAdd, b0g]
          refine callR_of (w_toPair_ow ((hv1.ext E).ext eL) m1) ?_
          rintro _ L2 ⟨el2, yl2, rfl, ol2⟩
          have nl2 := el2.n
          replace b0g := (el2.blk _ (by omega)).trans b0g
          replace ol1 := ol1.ext el2
          replace eL := eL.trans el2
          have vl2 := ol2.one
          simp (disch := first | assumption | omega | rfl | (refine id ?_; simp only [gxD, ne_eq, reduceCtorEq, not_false_eq_true, Nat.reduceAdd, *]; done) | (refine id ?_; simp only [gxD]; omega)) only [↓gxPre, gxPost, ↓reduceIte, Nat.reduceEqDiff, reduceCtorEq, Nat.reduceAdd, b0g]
          obtain ⟨p, hp⟩ : ∃ p, p = L2.n := ⟨_, rfl⟩
          refine callR_new ?_
          intro J eJ bJ nJ
          try rw [← hp] at bJ ⊢
          replace b0g := (eJ.blk _ (by omega)).trans b0g
          replace ol1 := ol1.ext eJ
          replace ol2 := ol2.ext eJ
          replace eL := eL.trans eJ
          refine callR_of (s_SplitLevels_law ⟨ol1.fs, m0, hw0⟩ ⟨ol2.fs, m1, hw1⟩ b2) ?_
          rintro _ L3 ⟨el3, yr, zr, rfl, orr, qr, rr⟩
          have vr := orr.co.one
          have wr := orr.de.one
          have nl3 := el3.n
          replace b0g := (el3.blk _ (by omega)).trans b0g
          replace bJ := (el3.blk _ (by omega)).trans bJ
          replace eL := eL.trans el3
          simp (disch := first | assumption | omega | rfl | (refine id ?_; simp only [gxD, ne_eq, reduceCtorEq, not_false_eq_true, Nat.reduceAdd, *]; done) | (refine id ?_; simp only [gxD]; omega)) only [↓gxPre, gxPost, ↓reduceIte, Nat.reduceEqDiff, reduceCtorEq, Nat.reduceAdd, b0g, bJ]
          refine callR_put ?_
          intro J nJ bJ2 kJ
          refine key p yr zr J ?_ ?_ ?_ ?_ ?_ ?_ ?_
          · omega
          · omega
          · exact ⟨by have := eL.n; omega, fun i hi => by rw [kJ i (by omega)]; exact eL.blk i hi⟩
          · exact bJ2
          · exact (OwB.keepB orr (by omega) fun h h1 h2 => kJ h (by omega)).wide (by omega) (by omega)
          · exact qr
          · exact rr
      ·
        have eL : Ext H1 H1 := Ext.refl _
        simp (disch := first | assumption | omega | rfl | (refine id ?_; simp only [gxD, ne_eq, reduceCtorEq, not_false_eq_true, Nat.reduceAdd, *]; done) | (refine id ?_; simp only [gxD]; omega)) only [↓gxPre, gxPost, ↓reduceIte, Nat.reduceEqDiff, reduceCtorEq, Nat.reduceAdd, b0g]
        refine callR_of (w_toFloat32S_ow ((hv0.ext E).ext eL) m0) ?_
        rintro yl1 L1 ⟨el1, ol1⟩
        have nl1 := el1.n
        replace b0g := (el1.blk _ (by omega)).trans b0g
        replace eL := eL.trans el1
        have vl1 := ol1.one
        simp (disch := first | assumption | omega | rfl | (refine id ?_; simp only [gxD, ne_eq, reduceCtorEq, not_false_eq_true, Nat.reduceAdd, *]; done) | (refine id ?_; simp only [gxD]; omega)) only [↓gxPre, gxPost, ↓reduceIte, Nat.reduceEqDiff, reduceCtorEq, Nat.reduceAdd, b0g]
        obtain ⟨p, hp⟩ : ∃ p, p = L1.n := ⟨_, rfl⟩
        refine callR_new ?_
        intro J eJ bJ nJ
        try rw [← hp] at bJ ⊢
        replace b0g := (eJ.blk _ (by omega)).trans b0g
        replace ol1 := ol1.ext eJ
        replace eL := eL.trans eJ
        refine callR_of (w_toPair_ow ((hv1.ext E).ext eL) m1) ?_
        rintro _ L2 ⟨el2, yl2, rfl, ol2⟩
        have nl2 := el2.n
        replace b0g := (el2.blk _ (by omega)).trans b0g
        replace bJ := (el2.blk _ (by omega)).trans bJ
        replace ol1 := ol1.ext el2
        replace eL := eL.trans el2
        have vl2 := ol2.one
        simp (disch := first | assumption | omega | rfl | (refine id ?_; simp only [gxD, ne_eq, reduceCtorEq, not_false_eq_true, Nat.reduceAdd, *]; done) | (refine id ?_; simp only [gxD]; omega)) only [↓gxPre, gxPost, ↓reduceIte, Nat.reduceEqDiff, reduceCtorEq, Nat.reduceAdd, b0g, bJ]
        refine callR_of (s_SplitLevels_law ⟨ol1.fs, m0, hw0⟩ ⟨ol2.fs, m1, hw1⟩ b2) ?_
        rintro _ L3 ⟨el3, yr, zr, rfl, orr, qr, rr⟩
        have vr := orr.co.one
        have wr := orr.de.one
        have nl3 := el3.n
        replace b0g := (el3.blk _ (by omega)).trans b0g
        replace bJ := (el3.blk _ (by omega)).trans bJ
        replace eL := eL.trans el3
        simp (disch := first | assumption | omega | rfl | (refine id ?_; simp only [gxD, ne_eq, reduceCtorEq, not_false_eq_true, Nat.reduceAdd, *]; done) | (refine id ?_; simp only [gxD]; omega)) only [↓gxPre, gxPost, ↓reduceIte, Nat.reduceEqDiff, reduceCtorEq, Nat.reduceAdd, b0g, bJ]
        refine callR_put ?_
        intro J nJ bJ2 kJ
        refine key p yr zr J ?_ ?_ ?_ ?_ ?_ ?_ ?_
        · omega
        · omega
        · exact ⟨by have := eL.n; omega, fun i hi => by rw [kJ i (by omega)]; exact eL.blk i hi⟩
        · exact bJ2
        · exact (OwB.keepB orr (by omega) fun h h1 h2 => kJ h (by omega)).wide (by omega) (by omega)
        · exact qr
        · exact rr
    ·
      have eL : Ext H1 H1 := Ext.refl _
      simp (disch := first | assumption | omega | rfl | (refine id ?_; simp only [gxD, ne_eq, reduceCtorEq, not_false_eq_true, Nat.reduceAdd, *]; done) | (refine id ?_; simp only [gxD]; omega)) only [↓gxPre, gxPost, ↓reduceIte, Nat.reduceEqDiff, reduceCtorEq, Nat.reduceAdd, b0g]
      obtain ⟨p, hp⟩ : ∃ p, p = H1.n := ⟨_, rfl⟩
      refine callR_new ?_
      intro J eJ bJ nJ
      try rw [← hp] at bJ ⊢
      replace b0g := (eJ.blk _ (by omega)).trans b0g
      replace eL := eL.trans eJ
      refine callR_of (w_toFloat32S_ow ((hv0.ext E).ext eL) m0) ?_
      rintro yl1 L1 ⟨el1, ol1⟩
      have nl1 := el1.n
      replace b0g := (el1.blk _ (by omega)).trans b0g
      replace bJ := (el1.blk _ (by omega)).trans bJ
      replace eL := eL.trans el1
      have vl1 := ol1.one
      simp (disch := first | assumption | omega | rfl | (refine id ?_; simp only [gxD, ne_eq, reduceCtorEq, not_false_eq_true, Nat.reduceAdd, *]; done) | (refine id ?_; simp only [gxD]; omega)) only [↓gxPre, gxPost, ↓reduceIte, Nat.reduceEqDiff, reduceCtorEq, Nat.reduceAdd, b0g, bJ]
      refine callR_of (w_toPair_ow ((hv1.ext E).ext eL) m1) ?_
      rintro _ L2 ⟨el2, yl2, rfl, ol2⟩
      have nl2 := el2.n
      replace b0g := (el2.blk _ (by omega)).trans b0g
      replace bJ := (el2.blk _ (by omega)).trans bJ
      replace ol1 := ol1.ext el2
      replace eL := eL.trans el2
      have vl2 := ol2.one
      simp (disch := first | assumption | omega | rfl | (refine id ?_; simp only [gxD, ne_eq, reduceCtorEq, not_false_eq_true, Nat.reduceAdd, *]; done) | (refine id ?_; simp only [gxD]; omega)) only [↓gxPre, gxPost, ↓reduceIte, Nat.reduceEqDiff, reduceCtorEq, Nat.reduceAdd, b0g, bJ]
      refine callR_of (s_SplitLevels_law ⟨ol1.fs, m0, hw0⟩ ⟨ol2.fs, m1, hw1⟩ b2) ?_
      rintro _ L3 ⟨el3, yr, zr, rfl, orr, qr, rr⟩
      have vr := orr.co.one
      have wr := orr.de.one
      have nl3 := el3.n
      replace b0g := (el3.blk _ (by omega)).trans b0g
      replace bJ := (el3.blk _ (by omega)).trans bJ
      replace eL := eL.trans el3
      simp (disch := first | assumption | omega | rfl | (refine id ?_; simp only [gxD, ne_eq, reduceCtorEq, not_false_eq_true, Nat.reduceAdd, *]; done) | (refine id ?_; simp only [gxD]; omega)) only [↓gxPre, gxPost, ↓reduceIte, Nat.reduceEqDiff, reduceCtorEq, Nat.reduceAdd, b0g, bJ]
      refine callR_put ?_
      intro J nJ bJ2 kJ
      refine key p yr zr J ?_ ?_ ?_ ?_ ?_ ?_ ?_
      · omega
      · omega
      · exact ⟨by have := eL.n; omega, fun i hi => by rw [kJ i (by omega)]; exact eL.blk i hi⟩
      · exact bJ2
      · exact (OwB.keepB orr (by omega) fun h h1 h2 => kJ h (by omega)).wide (by omega) (by omega)
      · exact qr
      · exact rr
  case kk =>
    intro p2 y2 z2 G2 lp2 hp2 e2 b2g o2 q2 r2
    have n2 := e2.n
    replace b0g := (e2.blk _ (by omega)).trans b0g
    replace E := E.trans e2
    have v2o := o2.co.one
    have v2d := o2.de.one
    refine callR_of (w_toFloat32S_ow (hv0.ext E) m0) ?_
    rintro y3 H3 ⟨e3, o3⟩
    have n3 := e3.n
    replace b0g := (e3.blk _ (by omega)).trans b0g
    replace b2g := (e3.blk _ (by omega)).trans b2g
    replace o2 := o2.ext e3
    replace E := E.trans e3
    simp (disch := first | assumption | omega | rfl | (refine id ?_; simp only [gxD, ne_eq, reduceCtorEq, not_false_eq_true, Nat.reduceAdd, *]; done) | (refine id ?_; simp only [gxD]; omega)) only [↓gxPre, gxPost, ↓reduceIte, Nat.reduceEqDiff, reduceCtorEq, Nat.reduceAdd, b0g, b2g]
    refine callR_of (w_toPair_ow (hv1.ext E) m1) ?_
    rintro _ H4 ⟨e4, y4, rfl, o4⟩
    have n4 := e4.n
    replace b0g := (e4.blk _ (by omega)).trans b0g
    replace b2g := (e4.blk _ (by omega)).trans b2g
    replace o2 := o2.ext e4
    replace o3 := o3.ext e4
    replace E := E.trans e4
    have v4o := o4.one
    simp (disch := first | assumption | omega | rfl | (refine id ?_; simp only [gxD, ne_eq, reduceCtorEq, not_false_eq_true, Nat.reduceAdd, *]; done) | (refine id ?_; simp only [gxD]; omega)) only [↓gxPre, gxPost, ↓reduceIte, Nat.reduceEqDiff, reduceCtorEq, Nat.reduceAdd, b0g, b2g]
    refine callR_new ?_
    intro G4 e4g b4g n4g
    replace b0g := (e4g.blk _ (by omega)).trans b0g
    replace b2g := (e4g.blk _ (by omega)).trans b2g
    replace o2 := o2.ext e4g
    replace o3 := o3.ext e4g
    replace o4 := o4.ext e4g
    replace E := E.trans e4g
    refine callR_of (i_SplitLevels_law ⟨o3.fs, m0, hw0⟩ ⟨o4.fs, m1, hw1⟩ b2) ?_
    rintro _ H5 ⟨e5, y5, z5, rfl, o5, q5, r5⟩
    have n5 := e5.n
    replace b0g := (e5.blk _ (by omega)).trans b0g
    replace b2g := (e5.blk _ (by omega)).trans b2g
    replace b4g := (e5.blk _ (by omega)).trans b4g
    replace o2 := o2.ext e5
    replace o3 := o3.ext e5
    replace o4 := o4.ext e5
    replace E := E.trans e5
    have v5o := o5.co.one
    have v5d := o5.de.one
    simp (disch := first | assumption | omega | rfl | (refine id ?_; simp only [gxD, ne_eq, reduceCtorEq, not_false_eq_true, Nat.reduceAdd, *]; done) | (refine id ?_; simp only [gxD]; omega)) only [↓gxPre, gxPost, ↓reduceIte, Nat.reduceEqDiff, reduceCtorEq, Nat.reduceAdd, b0g, b2g, b4g]
    refine callR_new ?_
    intro G5 e5g b5g n5g
    replace b0g := (e5g.blk _ (by omega)).trans b0g
    replace b2g := (e5g.blk _ (by omega)).trans b2g
    replace b4g := (e5g.blk _ (by omega)).trans b4g
    replace o2 := o2.ext e5g
    replace o3 := o3.ext e5g
    replace o4 := o4.ext e5g
    replace o5 := o5.ext e5g
    replace E := E.trans e5g
    refine callR_ext (w_eqBands_ow o5.fs o5.ss o2.fs o2.ss q5 r5) ?_
    intro H6 n6 bb6
    have e6 : Ext G5 H6 := ⟨n6, bb6⟩
    replace b0g := (e6.blk _ (by omega)).trans b0g
    replace b2g := (e6.blk _ (by omega)).trans b2g
    replace b4g := (e6.blk _ (by omega)).trans b4g
    replace b5g := (e6.blk _ (by omega)).trans b5g
    replace o2 := o2.ext e6
    replace o3 := o3.ext e6
    replace o4 := o4.ext e6
    replace o5 := o5.ext e6
    replace E := E.trans e6
    simp (disch := first | assumption | omega | rfl | (refine id ?_; simp only [gxD, ne_eq, reduceCtorEq, not_false_eq_true, Nat.reduceAdd, *]; done) | (refine id ?_; simp only [gxD]; omega)) only [↓gxPre, gxPost, ↓reduceIte, Nat.reduceEqDiff, reduceCtorEq, Nat.reduceAdd, b0g, b2g, b4g, b5g, ne_eq, not_true]
    refine callR_of (w_toFloat32S_ow (hv0.ext E) m0) ?_
    rintro y7 H7 ⟨e7, o7⟩
    have n7 := e7.n
    replace b0g := (e7.blk _ (by omega)).trans b0g
    replace b2g := (e7.blk _ (by omega)).trans b2g
    replace b4g := (e7.blk _ (by omega)).trans b4g
    replace b5g := (e7.blk _ (by omega)).trans b5g
    replace o2 := o2.ext e7
    replace o3 := o3.ext e7
    replace o4 := o4.ext e7
    replace o5 := o5.ext e7
    replace E := E.trans e7
    simp (disch := first | assumption | omega | rfl | (refine id ?_; simp only [gxD, ne_eq, reduceCtorEq, not_false_eq_true, Nat.reduceAdd, *]; done) | (refine id ?_; simp only [gxD]; omega)) only [↓gxPre, gxPost, ↓reduceIte, Nat.reduceEqDiff, reduceCtorEq, Nat.reduceAdd, b0g, b2g, b4g, b5g]
    refine callR_ext (w_eqFloat32S_ow o3.fs o7.fs m0) ?_
    intro H8 n8 bb8
    have e8 : Ext H7 H8 := ⟨n8, bb8⟩
    replace b0g := (e8.blk _ (by omega)).trans b0g
    replace b2g := (e8.blk _ (by omega)).trans b2g
    replace b4g := (e8.blk _ (by omega)).trans b4g
    replace b5g := (e8.blk _ (by omega)).trans b5g
    replace o2 := o2.ext e8
    replace o3 := o3.ext e8
    replace o4 := o4.ext e8
    replace o5 := o5.ext e8
    replace E := E.trans e8
    simp (disch := first | assumption | omega | rfl | (refine id ?_; simp only [gxD, ne_eq, reduceCtorEq, not_false_eq_true, Nat.reduceAdd, *]; done) | (refine id ?_; simp only [gxD]; omega)) only [↓gxPre, gxPost, ↓reduceIte, Nat.reduceEqDiff, reduceCtorEq, Nat.reduceAdd, b0g, b2g, b4g, b5g, ne_eq, not_true]
    refine callR_of (w_toPair_ow (hv1.ext E) m1) ?_
    rintro _ H9 ⟨e9, y9, rfl, o9⟩
    have n9 := e9.n
    replace b0g := (e9.blk _ (by omega)).trans b0g
    replace b2g := (e9.blk _ (by omega)).trans b2g
    replace b4g := (e9.blk _ (by omega)).trans b4g
    replace b5g := (e9.blk _ (by omega)).trans b5g
    replace o2 := o2.ext e9
    replace o3 := o3.ext e9
    replace o4 := o4.ext e9
    replace o5 := o5.ext e9
    replace E := E.trans e9
    have v9o := o9.one
    simp (disch := first | assumption | omega | rfl | (refine id ?_; simp only [gxD, ne_eq, reduceCtorEq, not_false_eq_true, Nat.reduceAdd, *]; done) | (refine id ?_; simp only [gxD]; omega)) only [↓gxPre, gxPost, ↓reduceIte, Nat.reduceEqDiff, reduceCtorEq, Nat.reduceAdd, b0g, b2g, b4g, b5g]
    refine callR_ext (w_eqPair_ow o4.fs o9.fs m1) ?_
    intro H10 n10 bb10
    have e10 : Ext H9 H10 := ⟨n10, bb10⟩
    replace b0g := (e10.blk _ (by omega)).trans b0g
    replace b2g := (e10.blk _ (by omega)).trans b2g
    replace b4g := (e10.blk _ (by omega)).trans b4g
    replace b5g := (e10.blk _ (by omega)).trans b5g
    replace o2 := o2.ext e10
    replace o3 := o3.ext e10
    replace o4 := o4.ext e10
    replace o5 := o5.ext e10
    replace E := E.trans e10
    simp (disch := first | assumption | omega | rfl | (refine id ?_; simp only [gxD, ne_eq, reduceCtorEq, not_false_eq_true, Nat.reduceAdd, *]; done) | (refine id ?_; simp only [gxD]; omega)) only [↓gxPre, gxPost, ↓reduceIte, Nat.reduceEqDiff, reduceCtorEq, Nat.reduceAdd, b0g, b2g, b4g, b5g, ne_eq, not_true]
    refine callR_of (w_markFloat32S_ow o3 (by first | omega | (simp only [List.length_map, List.length_range]; omega)) (by first | omega | (simp only [List.length_map, List.length_range]; omega)) (by first | omega | (simp only [List.length_map, List.length_range]; omega))) ?_
    rintro _ H11 ⟨rfl, p11, g11⟩
    have f11 := g11.off o3
    have n11 := f11.n
    replace o3 := p11
    replace b0g := (f11.blk _ (by omega) (by omega)).trans b0g
    replace b2g := (f11.blk _ (by omega) (by omega)).trans b2g
    replace b4g := (f11.blk _ (by omega) (by omega)).trans b4g
    replace b5g := (f11.blk _ (by omega) (by omega)).trans b5g
    replace o2 := o2.off f11 (by omega)
    replace o4 := o4.off f11 (by omega)
    replace o5 := o5.off f11 (by omega)
    replace E := E.mark f11 (by omega)
    simp (disch := first | assumption | omega | rfl | (refine id ?_; simp only [gxD, ne_eq, reduceCtorEq, not_false_eq_true, Nat.reduceAdd, *]; done) | (refine id ?_; simp only [gxD]; omega)) only [↓gxPre, gxPost, ↓reduceIte, Nat.reduceEqDiff, reduceCtorEq, Nat.reduceAdd, b0g, b2g, b4g, b5g, ne_eq, not_true]
    refine callR_of (w_markPair_ow o4 (by first | omega | (simp only [List.length_map, List.length_range]; omega)) (by first | omega | (simp only [List.length_map, List.length_range]; omega)) (by first | omega | (simp only [List.length_map, List.length_range]; omega))) ?_
    rintro _ H12 ⟨rfl, p12, f12⟩
    have n12 := f12.n
    replace o4 := p12
    replace b0g := (f12.blk _ (by omega) (by omega)).trans b0g
    replace b2g := (f12.blk _ (by omega) (by omega)).trans b2g
    replace b4g := (f12.blk _ (by omega) (by omega)).trans b4g
    replace b5g := (f12.blk _ (by omega) (by omega)).trans b5g
    replace o2 := o2.off f12 (by omega)
    replace o3 := o3.off f12 (by omega)
    replace o5 := o5.off f12 (by omega)
    replace E := E.mark f12 (by omega)
    simp (disch := first | assumption | omega | rfl | (refine id ?_; simp only [gxD, ne_eq, reduceCtorEq, not_false_eq_true, Nat.reduceAdd, *]; done) | (refine id ?_; simp only [gxD]; omega)) only [↓gxPre, gxPost, ↓reduceIte, Nat.reduceEqDiff, reduceCtorEq, Nat.reduceAdd, b0g, b2g, b4g, b5g, ne_eq, not_true]
    refine callR_ext (w_eqBands_ow o5.fs o5.ss o2.fs o2.ss q5 r5) ?_
    intro H13 n13 bb13
    have e13 : Ext H12 H13 := ⟨n13, bb13⟩
    replace b0g := (e13.blk _ (by omega)).trans b0g
    replace b2g := (e13.blk _ (by omega)).trans b2g
    replace b4g := (e13.blk _ (by omega)).trans b4g
    replace b5g := (e13.blk _ (by omega)).trans b5g
    replace o2 := o2.ext e13
    replace o3 := o3.ext e13
    replace o4 := o4.ext e13
    replace o5 := o5.ext e13
    replace E := E.trans e13
    simp (disch := first | assumption | omega | rfl | (refine id ?_; simp only [gxD, ne_eq, reduceCtorEq, not_false_eq_true, Nat.reduceAdd, *]; done) | (refine id ?_; simp only [gxD]; omega)) only [↓gxPre, gxPost, ↓reduceIte, Nat.reduceEqDiff, reduceCtorEq, Nat.reduceAdd, b0g, b2g, b4g, b5g, ne_eq, not_true]
    refine callR_of (w_markBands_ow o5 (by first | omega | (simp only [List.length_map, List.length_range]; omega)) (by first | omega | (simp only [List.length_map, List.length_range]; omega)) (by first | exact tot_bd q5 r5)) ?_
    rintro _ H14 ⟨rfl, p14, f14⟩
    have n14 := f14.n
    replace o5 := p14
    have hz14 := tot_bd q5 r5
    unfold totL at hz14
    replace b0g := (f14.blk _ (by omega) (by omega)).trans b0g
    replace b2g := (f14.blk _ (by omega) (by omega)).trans b2g
    replace b4g := (f14.blk _ (by omega) (by omega)).trans b4g
    replace b5g := (f14.blk _ (by omega) (by omega)).trans b5g
    replace o2 := o2.off f14 (by omega)
    replace o3 := o3.off f14 (by omega)
    replace o4 := o4.off f14 (by omega)
    replace E := E.mark f14 (by omega)
    simp (disch := first | assumption | omega | rfl | (refine id ?_; simp only [gxD, ne_eq, reduceCtorEq, not_false_eq_true, Nat.reduceAdd, *]; done) | (refine id ?_; simp only [gxD]; omega)) only [↓gxPre, gxPost, ↓reduceIte, Nat.reduceEqDiff, reduceCtorEq, Nat.reduceAdd, b0g, b2g, b4g, b5g, ne_eq, not_true]
    refine callR_ext (w_heldBands_ow o5 (by first | omega | (simp only [List.length_map, List.length_range]; omega)) (by first | omega | (simp only [List.length_map, List.length_range]; omega)) (by first | exact tot_bd q5 r5)) ?_
    intro H15 n15 bb15
    have e15 : Ext H14 H15 := ⟨n15, bb15⟩
    replace b0g := (e15.blk _ (by omega)).trans b0g
    replace b2g := (e15.blk _ (by omega)).trans b2g
    replace b4g := (e15.blk _ (by omega)).trans b4g
    replace b5g := (e15.blk _ (by omega)).trans b5g
    replace o2 := o2.ext e15
    replace o3 := o3.ext e15
    replace o4 := o4.ext e15
    replace o5 := o5.ext e15
    replace E := E.trans e15
    simp (disch := first | assumption | omega | rfl | (refine id ?_; simp only [gxD, ne_eq, reduceCtorEq, not_false_eq_true, Nat.reduceAdd, *]; done) | (refine id ?_; simp only [gxD]; omega)) only [↓gxPre, gxPost, ↓reduceIte, Nat.reduceEqDiff, reduceCtorEq, Nat.reduceAdd, b0g, b2g, b4g, b5g, ne_eq, not_true]
    apply bothBands (bty := t_Bands) (sty := t_sfloat32) (t := t_float32) (G0 := H15)
    case main =>
      intro key
      refine bothR_mk ?_ ?_
      ·
        simp (disch := first | assumption | omega | rfl | (refine id ?_; simp only [gxD, ne_eq, reduceCtorEq, not_false_eq_true, Nat.reduceAdd, *]; done) | (refine id ?_; simp only [gxD]; omega)) only [↓gxPre, gxPost, ↓reduceIte, Nat.reduceEqDiff, reduceCtorEq, Nat.reduceAdd]
        refine bothR_mk ?_ ?_
        ·
          simp (disch := first | assumption | omega | rfl | (refine id ?_; simp only [gxD, ne_eq, reduceCtorEq, not_false_eq_true, Nat.reduceAdd, *]; done) | (refine id ?_; simp only [gxD]; omega)) only [↓gxPre, gxPost, ↓reduceIte, Nat.reduceEqDiff, reduceCtorEq, Nat.reduceAdd]
          refine bothR_mk ?_ ?_
          ·
            have eL : Ext H15 H15 := Ext.refl _
            simp (disch := first | assumption | omega | rfl | (refine id ?_; simp only [gxD, ne_eq, reduceCtorEq, not_false_eq_true, Nat.reduceAdd, *]; done) | (refine id ?_; simp only [gxD]; omega)) only [↓gxPre, gxPost, ↓reduceIte, Nat.reduceEqDiff, reduceCtorEq, Nat.reduceAdd, b0g, b2g, b4g, b5g]
            refine callR_of (w_toFloat32S_ow ((hv0.ext E).ext eL) m0) ?_
            rintro yl1 L1 ⟨el1, ol1⟩
            have nl1 := el1.n
            replace b0g := (el1.blk _ (by omega)).trans b0g
            replace b2g := (el1.blk _ (by omega)).trans b2g
            replace b4g := (el1.blk _ (by omega)).trans b4g
            replace b5g := (el1.blk _ (by omega)).trans b5g
            replace eL := eL.trans el1
            have vl1 := ol1.one
            simp (disch := first | assumption | omega | rfl | (refine id ?_; simp only [gxD, ne_eq, reduceCtorEq, not_false_eq_true, Nat.reduceAdd, *]; done) | (refine id ?_; simp only [gxD]; omega)) only [↓gxPre, gxPost, ↓reduceIte, Nat.reduceEqDiff, reduceCtorEq, Nat.reduceAdd, b0g, b2g, b4g, b5g]
            refine callR_of (w_toPair_ow ((hv1.ext E).ext eL) m1) ?_
            rintro _ L2 ⟨el2, yl2, rfl, ol2⟩
            have nl2 := el2.n
            replace b0g := (el2.blk _ (by omega)).trans b0g
            replace b2g := (el2.blk _ (by omega)).trans b2g
            replace b4g := (el2.blk _ (by omega)).trans b4g
            replace b5g := (el2.blk _ (by omega)).trans b5g
            replace ol1 := ol1.ext el2
            replace eL := eL.trans el2
            have vl2 := ol2.one
            simp (disch := first | assumption | omega | rfl | (refine id ?_; simp only [gxD, ne_eq, reduceCtorEq, not_false_eq_true, Nat.reduceAdd, *]; done) | (refine id ?_; simp only [gxD]; omega)) only [↓gxPre, gxPost, ↓reduceIte, Nat.reduceEqDiff, reduceCtorEq, Nat.reduceAdd, b0g, b2g, b4g, b5g]
            refine callR_of (i_SplitLevels_law ⟨ol1.fs, m0, hw0⟩ ⟨ol2.fs, m1, hw1⟩ b2) ?_
            rintro _ L3 ⟨el3, yr, zr, rfl, orr, qr, rr⟩
            have vr := orr.co.one
            have wr := orr.de.one
            have nl3 := el3.n
            replace b0g := (el3.blk _ (by omega)).trans b0g
            replace b2g := (el3.blk _ (by omega)).trans b2g
            replace b4g := (el3.blk _ (by omega)).trans b4g
            replace b5g := (el3.blk _ (by omega)).trans b5g
            replace eL := eL.trans el3
            simp (disch := first | assumption | omega | rfl | (refine id ?_; simp only [gxD, ne_eq, reduceCtorEq, not_false_eq_true, Nat.reduceAdd, *]; done) | (refine id ?_; simp only [gxD]; omega)) only [↓gxPre, gxPost, ↓reduceIte, Nat.reduceEqDiff, reduceCtorEq, Nat.reduceAdd, b0g, b2g, b4g, b5g]
            obtain ⟨p, hp⟩ : ∃ p, p = L3.n := ⟨_, rfl⟩
            refine callR_new ?_
            intro J eJ bJ nJ
            try rw [← hp] at bJ ⊢
            refine key p yr zr J ?_ ?_ ?_ ?_ ?_ ?_ ?_
            · omega
            · omega
            · exact eL.trans eJ
            · exact bJ
            · exact (orr.ext eJ).wide (by omega) (by omega)
            · exact qr
            · exact rr
          ·
            have eL : Ext H15 H15 := Ext.refl _
            simp (disch := first | assumption | omega | rfl | (refine id ?_; simp only [gxD, ne_eq, reduceCtorEq, not_false_eq_true, Nat.reduceAdd, *]; done) | (refine id ?_; simp only [gxD]; omega)) only [↓gxPre, gxPost, ↓reduceIte, Nat.reduceEqDiff, reduceCtorEq, Nat.reduceAdd, b0g, b2g, b4g, b5g]
            refine callR_of (w_toFloat32S_ow ((hv0.ext E).ext eL) m0) ?_
            rintro yl1 L1 ⟨el1, ol1⟩
            have nl1 := el1.n
            replace b0g := (el1.blk _ (by omega)).trans b0g
            replace b2g := (el1.blk _ (by omega)).trans b2g
            replace b4g := (el1.blk _ (by omega)).trans b4g
            replace b5g := (el1.blk _ (by omega)).trans b5g
            replace eL := eL.trans el1
            have vl1 := ol1.one
            simp (disch := first | assumption | omega | rfl | (refine id ?_; simp only [gxD, ne_eq, reduceCtorEq, not_false_eq_true, Nat.reduceAdd, *]; done) | (refine id ?_; simp only [gxD]; omega)) only [↓gxPre, gxPost, ↓reduceIte, Nat.reduceEqDiff, reduceCtorEq, Nat.reduceAdd, b0g, b2g, b4g, b5g]
            refine callR_of (w_toPair_ow ((hv1.ext E).ext eL) m1) ?_
            rintro _ L2 ⟨el2, yl2, rfl, ol2⟩
            have nl2 := el2.n
            replace b0g := (el2.blk _ (by omega)).trans b0g
            replace b2g := (el2.blk _ (by omega)).trans b2g
            replace b4g := (el2.blk _ (by omega)).trans b4g
            replace b5g := (el2.blk _ (by omega)).trans b5g
            replace ol1 := ol1.ext el2
            replace eL := eL.trans el2
            have vl2 := ol2.one
            simp (disch := first | assumption | omega | rfl | (refine id ?_; simp only [gxD, ne_eq, reduceCtorEq, not_false_eq_true, Nat.reduceAdd, *]; done) | (refine id ?_; simp only [gxD]; omega)) only [↓gxPre, gxPost, ↓reduceIte, Nat.reduceEqDiff, reduceCtorEq, Nat.reduceAdd, b0g, b2g, b4g, b5g]
            obtain ⟨p, hp⟩ : ∃ p, p = L2.n := ⟨_, rfl⟩
            refine callR_new ?_
            intro J eJ bJ nJ
            try rw [← hp] at bJ ⊢
            replace b0g := (eJ.blk _ (by omega)).trans b0g
            replace b2g := (eJ.blk _ (by omega)).trans b2g
            replace b4g := (eJ.blk _ (by omega)).trans b4g
            replace b5g := (eJ.blk _ (by omega)).trans b5g
            replace ol1 := ol1.ext eJ
            replace ol2 := ol2.ext eJ
            replace eL := eL.trans eJ
            refine callR_of (i_SplitLevels_law ⟨ol1.fs, m0, hw0⟩ ⟨ol2.fs, m1, hw1⟩ b2) ?_
            rintro _ L3 ⟨el3, yr, zr, rfl, orr, qr, rr⟩
            have vr := orr.co.one
            have wr := orr.de.one
            have nl3 := el3.n
            replace b0g := (el3.blk _ (by omega)).trans b0g
            replace b2g := (el3.blk _ (by omega)).trans b2g
            replace b4g := (el3.blk _ (by omega)).trans b4g
            replace b5g := (el3.blk _ (by omega)).trans b5g
            replace bJ := (el3.blk _ (by omega)).trans bJ
            replace eL := eL.trans el3
            simp (disch := first | assumption | omega | rfl | (refine id ?_; simp only [gxD, ne_eq, reduceCtorEq, not_false_eq_true, Nat.reduceAdd, *]; done) | (refine id ?_; simp only [gxD]; omega)) only [↓gxPre, gxPost, ↓reduceIte, Nat.reduceEqDiff, reduceCtorEq, Nat.reduceAdd, b0g, b2g, b4g, b5g, bJ]
            refine callR_put ?_
            intro J nJ bJ2 kJ
            refine key p yr zr J ?_ ?_ ?_ ?_ ?_ ?_ ?_
            · omega
            · omega
            · exact ⟨by have := eL.n; omega, fun i hi => by rw [kJ i (by omega)]; exact eL.blk i hi⟩
            · exact bJ2
            · exact (OwB.keepB orr (by omega) fun h h1 h2 => kJ h (by omega)).wide (by omega) (by omega)
            · exact qr
            · exact rr
        ·
          have eL : Ext H15 H15 := Ext.refl _
          simp (disch := first | assumption | omega | rfl | (refine id ?_; simp only [gxD, ne_eq, reduceCtorEq, not_false_eq_true, Nat.reduceAdd, *]; done) | (refine id ?_; simp only [gxD]; omega)) only [↓gxPre, gxPost, ↓reduceIte, Nat.reduceEqDiff, reduceCtorEq, Nat.reduceAdd, b0g, b2g, b4g, b5g]
          refine callR_of (w_toFloat32S_ow ((hv0.ext E).ext eL) m0) ?_
          rintro yl1 L1 ⟨el1, ol1⟩
          have nl1 := el1.n
          replace b0g := (el1.blk _ (by omega)).trans b0g
          replace b2g := (el1.blk _ (by omega)).trans b2g
          replace b4g := (el1.blk _ (by omega)).trans b4g
          replace b5g := (el1.blk _ (by omega)).trans b5g
          replace eL := eL.trans el1
          have vl1 := ol1.one
          simp (disch := first | assumption | omega | rfl | (refine id ?_; simp only [gxD, ne_eq, reduceCtorEq, not_false_eq_true, Nat.reduceAdd, *]; done) | (refine id ?_; simp only [gxD]; omega)) only [↓gxPre, gxPost, ↓reduceIte, Nat.reduceEqDiff, reduceCtorEq, Nat.reduceAdd, b0g, b2g, b4g, b5g]
          obtain ⟨p, hp⟩ : ∃ p, p = L1.n := ⟨_, rfl⟩
          refine callR_new ?_
          intro J eJ bJ nJ
          try rw [← hp] at bJ ⊢
          replace b0g := (eJ.blk _ (by omega)).trans b0g
          replace b2g := (eJ.blk _ (by omega)).trans b2g
          replace b4g := (eJ.blk _ (by omega)).trans b4g
          replace b5g := (eJ.blk _ (by omega)).trans b5g
          replace ol1 := ol1.ext eJ
          replace eL := eL.trans eJ
          refine callR_of (w_toPair_ow ((hv1.ext E).ext eL) m1) ?_
          rintro _ L2 ⟨el2, yl2, rfl, ol2⟩
          have nl2 := el2.n
          replace b0g := (el2.blk _ (by omega)).trans b0g
          replace b2g := (el2.blk _ (by omega)).trans b2g
          replace b4g := (el2.blk _ (by omega)).trans b4g
          replace b5g := (el2.blk _ (by omega)).trans b5g
          replace bJ := (el2.blk _ (by omega)).trans bJ
          replace ol1 := ol1.ext el2
          replace eL := eL.trans el2
          have vl2 := ol2.one
          simp (disch := first | assumption | omega | rfl | (refine id ?_; simp only [gxD, ne_eq, reduceCtorEq, not_false_eq_true, Nat.reduceAdd, *]; done) | (refine id ?_; simp only [gxD]; omega)) only [↓gxPre, gxPost, ↓reduceIte, Nat.reduceEqDiff, reduceCtorEq, Nat.reduceAdd, b0g, b2g, b4g, b5g, bJ]
          refine callR_of (i_SplitLevels_law ⟨ol1.fs, m0, hw0⟩ ⟨ol2.fs, m1, hw1⟩ b2) ?_
          rintro _ L3 ⟨el3, yr, zr, rfl, orr, qr, rr⟩
          have vr := orr.co.one
          have wr := orr.de.one
          have nl3 := el3.n
          replace b0g := (el3.blk _ (by omega)).trans b0g
          replace b2g := (el3.blk _ (by omega)).trans b2g
          replace b4g := (el3.blk _ (by omega)).trans b4g
          replace b5g := (el3.blk _ (by omega)).trans b5g
          replace bJ := (el3.blk _ (by omega)).trans bJ
          replace eL := eL.trans el3
          simp (disch := first | assumption | omega | rfl | (refine id ?_; simp only [gxD, ne_eq, reduceCtorEq, not_false_eq_true, Nat.reduceAdd, *]; done) | (refine id ?_; simp only [gxD]; omega)) only [↓gxPre, gxPost, ↓reduceIte, Nat.reduceEqDiff, reduceCtorEq, Nat.reduceAdd, b0g, b2g, b4g, b5g, bJ]
          refine callR_put ?_
          intro J nJ bJ2 kJ
          refine key p yr zr J ?_ ?_ ?_ ?_ ?_ ?_ ?_
          · omega
          · omega
          · exact ⟨by have := eL.n; omega, fun i hi => by rw [kJ i (by omega)]; exact eL.blk i hi⟩
          · exact bJ2
          · exact (OwB.keepB orr (by omega) fun h h1 h2 => kJ h (by omega)).wide (by omega) (by omega)
          · exact qr
          · exact rr
      ·
        have eL : Ext H15 H15 := Ext.refl _
        simp (disch := first | assumption | omega | rfl | (refine id ?_; simp only [gxD, ne_eq, reduceCtorEq, not_false_eq_true, Nat.reduceAdd, *]; done) | (refine id ?_; simp only [gxD]; omega)) only [↓gxPre, gxPost, ↓reduceIte, Nat.reduceEqDiff, reduceCtorEq, Nat.reduceAdd, b0g, b2g, b4g, b5g]
        obtain ⟨p, hp⟩ : ∃ p, p = H15.n := ⟨_, rfl⟩
        refine callR_new ?_
        intro J eJ bJ nJ
        try rw [← hp] at bJ ⊢
        replace b0g := (eJ.blk _ (by omega)).trans b0g
        replace b2g := (eJ.blk _ (by omega)).trans b2g
        replace b4g := (eJ.blk _ (by omega)).trans b4g
        replace b5g := (eJ.blk _ (by omega)).trans b5g
        replace eL := eL.trans eJ
        refine callR_of (w_toFloat32S_ow ((hv0.ext E).ext eL) m0) ?_
        rintro yl1 L1 ⟨el1, ol1⟩
        have nl1 := el1.n
        replace b0g := (el1.blk _ (by omega)).trans b0g
        replace b2g := (el1.blk _ (by omega)).trans b2g
        replace b4g := (el1.blk _ (by omega)).trans b4g
        replace b5g := (el1.blk _ (by omega)).trans b5g
        replace bJ := (el1.blk _ (by omega)).trans bJ
        replace eL := eL.trans el1
        have vl1 := ol1.one
        simp (disch := first | assumption | omega | rfl | (refine id ?_; simp only [gxD, ne_eq, reduceCtorEq, not_false_eq_true, Nat.reduceAdd, *]; done) | (refine id ?_; simp only [gxD]; omega)) only [↓gxPre, gxPost, ↓reduceIte, Nat.reduceEqDiff, reduceCtorEq, Nat.reduceAdd, b0g, b2g, b4g, b5g, bJ]
        refine callR_of (w_toPair_ow ((hv1.ext E).ext eL) m1) ?_
        rintro _ L2 ⟨el2, yl2, rfl, ol2⟩
        have nl2 := el2.n
        replace b0g := (el2.blk _ (by omega)).trans b0g
        replace b2g := (el2.blk _ (by omega)).trans b2g
        replace b4g := (el2.blk _ (by omega)).trans b4g
        replace b5g := (el2.blk _ (by omega)).trans b5g
        replace bJ := (el2.blk _ (by omega)).trans bJ
        replace ol1 := ol1.ext el2
        replace eL := eL.trans el2
        have vl2 := ol2.one
        simp (disch := first | assumption | omega | rfl | (refine id ?_; simp only [gxD, ne_eq, reduceCtorEq, not_false_eq_true, Nat.reduceAdd, *]; done) | (refine id ?_; simp only [gxD]; omega)) only [↓gxPre, gxPost, ↓reduceIte, Nat.reduceEqDiff, reduceCtorEq, Nat.reduceAdd, b0g, b2g, b4g, b5g, bJ]
        refine callR_of (i_SplitLevels_law ⟨ol1.fs, m0, hw0⟩ ⟨ol2.fs, m1, hw1⟩ b2) ?_
        rintro _ L3 ⟨el3, yr, zr, rfl, orr, qr, rr⟩
        have vr := orr.co.one
        have wr := orr.de.one
        have nl3 := el3.n
        replace b0g := (el3.blk _ (by omega)).trans b0g
        replace b2g := (el3.blk _ (by omega)).trans b2g
        replace b4g := (el3.blk _ (by omega)).trans b4g
        replace b5g := (el3.blk _ (by omega)).trans b5g
        replace bJ := (el3.blk _ (by omega)).trans bJ
        replace eL := eL.trans el3
        simp (disch := first | assumption | omega | rfl | (refine id ?_; simp only [gxD, ne_eq, reduceCtorEq, not_false_eq_true, Nat.reduceAdd, *]; done) | (refine id ?_; simp only [gxD]; omega)) only [↓gxPre, gxPost, ↓reduceIte, Nat.reduceEqDiff, reduceCtorEq, Nat.reduceAdd, b0g, b2g, b4g, b5g, bJ]
        refine callR_put ?_
        intro J nJ bJ2 kJ
        refine key p yr zr J ?_ ?_ ?_ ?_ ?_ ?_ ?_
        · omega
        · omega
        · exact ⟨by have := eL.n; omega, fun i hi => by rw [kJ i (by omega)]; exact eL.blk i hi⟩
        · exact bJ2
        · exact (OwB.keepB orr (by omega) fun h h1 h2 => kJ h (by omega)).wide (by omega) (by omega)
        · exact qr
        · exact rr
    case kk =>
      intro p16 y16 z16 G16 lp16 hp16 e16 b16g o16 q16 r16
      have n16 := e16.n
      replace b0g := (e16.blk _ (by omega)).trans b0g
      replace b2g := (e16.blk _ (by omega)).trans b2g
      replace b4g := (e16.blk _ (by omega)).trans b4g
      replace b5g := (e16.blk _ (by omega)).trans b5g
      replace o2 := o2.ext e16
      replace o3 := o3.ext e16
      replace o4 := o4.ext e16
      replace o5 := o5.ext e16
      replace E := E.trans e16
      have v16o := o16.co.one
      have v16d := o16.de.one
      refine callR_ext (w_eqBands_ow o16.fs o16.ss o2.fs o2.ss q16 r16) ?_
      intro H17 n17 bb17
      have e17 : Ext G16 H17 := ⟨n17, bb17⟩
      replace b0g := (e17.blk _ (by omega)).trans b0g
      replace b2g := (e17.blk _ (by omega)).trans b2g
      replace b4g := (e17.blk _ (by omega)).trans b4g
      replace b5g := (e17.blk _ (by omega)).trans b5g
      replace b16g := (e17.blk _ (by omega)).trans b16g
      replace o2 := o2.ext e17
      replace o3 := o3.ext e17
      replace o4 := o4.ext e17
      replace o5 := o5.ext e17
      replace o16 := o16.ext e17
      replace E := E.trans e17
      simp (disch := first | assumption | omega | rfl | (refine id ?_; simp only [gxD, ne_eq, reduceCtorEq, not_false_eq_true, Nat.reduceAdd, *]; done) | (refine id ?_; simp only [gxD]; omega)) only [↓gxPre, gxPost, ↓reduceIte, Nat.reduceEqDiff, reduceCtorEq, Nat.reduceAdd, b0g, b2g, b4g, b5g, b16g, ne_eq, not_true]
      refine callR_ext (w_heldBands_ow o5 (by first | omega | (simp only [List.length_map, List.length_range]; omega)) (by first | omega | (simp only [List.length_map, List.length_range]; omega)) (by first | exact tot_bd q5 r5)) ?_
      intro H18 n18 bb18
      have e18 : Ext H17 H18 := ⟨n18, bb18⟩
      replace b0g := (e18.blk _ (by omega)).trans b0g
      replace b2g := (e18.blk _ (by omega)).trans b2g
      replace b4g := (e18.blk _ (by omega)).trans b4g
      replace b5g := (e18.blk _ (by omega)).trans b5g
      replace b16g := (e18.blk _ (by omega)).trans b16g
      replace o2 := o2.ext e18
      replace o3 := o3.ext e18
      replace o4 := o4.ext e18
      replace o5 := o5.ext e18
      replace o16 := o16.ext e18
      replace E := E.trans e18
      simp (disch := first | assumption | omega | rfl | (refine id ?_; simp only [gxD, ne_eq, reduceCtorEq, not_false_eq_true, Nat.reduceAdd, *]; done) | (refine id ?_; simp only [gxD]; omega)) only [↓gxPre, gxPost, ↓reduceIte, Nat.reduceEqDiff, reduceCtorEq, Nat.reduceAdd, b0g, b2g, b4g, b5g, b16g, ne_eq, not_true]
end Go.Proofs.Ytkojmlpaamdhoad
