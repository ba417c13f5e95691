/- The law FnExactPutPicture, walked: it returns true. -/
import Derived.Test.YtkojmlpaamdhoabPutPictureXEToXQ
namespace Go.Proofs.Ytkojmlpaamdhoab
open Go.Gx
set_option maxRecDepth 100000
set_option linter.unusedSimpArgs false
set_option linter.unusedVariables false
set_option maxHeartbeats 2000000
theorem w_FnExactPutPicture_ok {H : Heap} {a0 c0 : Int} (b0 : -9223372036854775808 ≤ a0 ∧ a0 ≤ 9223372036854775807) (d0 : -9223372036854775808 ≤ c0 ∧ c0 ≤ 9223372036854775807) {v0 : Value} {xs0 : List Nat} (hv0 : FS H v0 xs0) (hw0 : W32 xs0) (hl0 : xs0.length ≤ 9223372036854775807) {a1 c1 : Int} (b1 : -9223372036854775808 ≤ a1 ∧ a1 ≤ 9223372036854775807) (d1 : -9223372036854775808 ≤ c1 ∧ c1 ≤ 9223372036854775807) {v1 : Value} {xs1 : List Nat} (hv1 : FS H v1 xs1) (hw1 : W32 xs1) (hl1 : xs1.length ≤ 9223372036854775807) {a2 : Int} (b2 : -9223372036854775808 ≤ a2 ∧ a2 ≤ 9223372036854775807) {a3 : Int} (b3 : -9223372036854775808 ≤ a3 ∧ a3 ≤ 9223372036854775807) : ACalls Try.prog n_w_FnExactPutPicture [.agg #[.int .i64 a0, .int .i64 c0, v0], .agg #[.int .i64 a1, .int .i64 c1, v1], .int .i64 a2, .int .i64 a3] H fun r H' => r = .bool true := by
  refine k_w_FnExactPutPicture.run rfl ?_
  unfold c_w_FnExactPutPicture
  have E : Ext H H := Ext.refl H
  have one0 := hv0.one
  have one1 := hv1.one
  simp (disch := first | assumption | omega | rfl | (refine id ?_; simp only [gxD, ne_eq, reduceCtorEq, not_false_eq_true, Nat.reduceAdd, *]; done) | (refine id ?_; simp only [gxD]; omega)) only [↓gxPre, gxPost, ↓reduceIte, Nat.reduceEqDiff, reduceCtorEq, Nat.reduceAdd]
  refine callR_new2 ?_
  intro G0 e0g b0g b0h n0g
  replace E := E.trans e0g
  by_cases s1 : (1048576 : Int) < xs0.length
  · refine callR_ext (w_szPicture_ow (hv0.ext E) (by omega) (by omega) hl0) ?_
    intro H1 n1 bb1
    simp (disch := first | assumption | omega | rfl | (refine id ?_; simp only [gxD, ne_eq, reduceCtorEq, not_false_eq_true, Nat.reduceAdd, *]; done) | (refine id ?_; simp only [gxD]; omega)) only [↓gxPre, gxPost, ↓reduceIte, Nat.reduceEqDiff, reduceCtorEq, Nat.reduceAdd, b0g, b0h, if_pos s1, Int.reduceLT]
  refine callR_ext (w_szPicture_ow (hv0.ext E) (by omega) (by omega) hl0) ?_
  intro H1 n1 bb1
  rw [if_neg s1]
  have e1 : Ext G0 H1 := ⟨n1, bb1⟩
  replace b0g := (e1.blk _ (by omega)).trans b0g
  replace b0h := (e1.blk _ (by omega)).trans b0h
  replace E := E.trans e1
  have z1 : ¬ ((1048576 : Int) - xs0.length < 0) := by omega
  simp (disch := first | assumption | omega | rfl | (refine id ?_; simp only [gxD, ne_eq, reduceCtorEq, not_false_eq_true, Nat.reduceAdd, *]; done) | (refine id ?_; simp only [gxD]; omega)) only [↓gxPre, gxPost, ↓reduceIte, Nat.reduceEqDiff, reduceCtorEq, Nat.reduceAdd, b0g, b0h, z1]
  by_cases s2 : ((1048576 - xs0.length) : Int) < xs1.length
  · refine callR_ext (w_szPicture_ow (hv1.ext E) (by omega) (by omega) hl1) ?_
    intro H2 n2 bb2
    simp (disch := first | assumption | omega | rfl | (refine id ?_; simp only [gxD, ne_eq, reduceCtorEq, not_false_eq_true, Nat.reduceAdd, *]; done) | (refine id ?_; simp only [gxD]; omega)) only [↓gxPre, gxPost, ↓reduceIte, Nat.reduceEqDiff, reduceCtorEq, Nat.reduceAdd, b0g, b0h, if_pos s2, Int.reduceLT]
  refine callR_ext (w_szPicture_ow (hv1.ext E) (by omega) (by omega) hl1) ?_
  intro H2 n2 bb2
  rw [if_neg s2]
  have e2 : Ext H1 H2 := ⟨n2, bb2⟩
  replace b0g := (e2.blk _ (by omega)).trans b0g
  replace b0h := (e2.blk _ (by omega)).trans b0h
  replace E := E.trans e2
  have z2 : ¬ (((1048576 - xs0.length) : Int) - xs1.length < 0) := by omega
  simp (disch := first | assumption | omega | rfl | (refine id ?_; simp only [gxD, ne_eq, reduceCtorEq, not_false_eq_true, Nat.reduceAdd, *]; done) | (refine id ?_; simp only [gxD]; omega)) only [↓gxPre, gxPost, ↓reduceIte, Nat.reduceEqDiff, reduceCtorEq, Nat.reduceAdd, b0g, b0h, z2]
  have m0 : xs0.length ≤ 2 ^ 40 := by omega
  have m1 : xs1.length ≤ 2 ^ 40 := by omega
  apply bothPic (ty := t_Picture) (t := t_float32) (G0 := H2)
  case main =>
    intro key
    refine bothR_mk ?_ ?_
    ·
      simp (disch := first | assumption | omega | rfl | (refine id ?_; simp only [gxD, ne_eq, reduceCtorEq, not_false_eq_true, Nat.reduceAdd, *]; done) | (refine id ?_; simp only [gxD]; omega)) only [↓gxPre, gxPost, ↓reduceIte, Nat.reduceEqDiff, reduceCtorEq, Nat.reduceAdd]
      refine bothR_mk ?_ ?_
      ·
        simp (disch := first | assumption | omega | rfl | (refine id ?_; simp only [gxD, ne_eq, reduceCtorEq, not_false_eq_true, Nat.reduceAdd, *]; done) | (refine id ?_; simp only [gxD]; omega)) only [↓gxPre, gxPost, ↓reduceIte, Nat.reduceEqDiff, reduceCtorEq, Nat.reduceAdd]
        refine bothR_mk ?_ ?_
        ·
          have eL : Ext H2 H2 := Ext.refl _
          simp (disch := first | assumption | omega | rfl | (refine id ?_; simp only [gxD, ne_eq, reduceCtorEq, not_false_eq_true, Nat.reduceAdd, *]; done) | (refine id ?_; simp only [gxD]; omega)) only [↓gxPre, gxPost, ↓reduceIte, Nat.reduceEqDiff, reduceCtorEq, Nat.reduceAdd, b0g, b0h]
          refine callR_of (w_toPicture_ow ((hv0.ext E).ext eL) m0) ?_
          rintro _ L1 ⟨el1, yl1, rfl, ol1⟩
          have nl1 := el1.n
          replace b0g := (el1.blk _ (by omega)).trans b0g
          replace b0h := (el1.blk _ (by omega)).trans b0h
          replace eL := eL.trans el1
          have vl1 := ol1.one
          simp (disch := first | assumption | omega | rfl | (refine id ?_; simp only [gxD, ne_eq, reduceCtorEq, not_false_eq_true, Nat.reduceAdd, *]; done) | (refine id ?_; simp only [gxD]; omega)) only [↓gxPre, gxPost, ↓reduceIte, Nat.reduceEqDiff, reduceCtorEq, Nat.reduceAdd, b0g, b0h]
          refine callR_of (w_toPicture_ow ((hv1.ext E).ext eL) m1) ?_
          rintro _ L2 ⟨el2, yl2, rfl, ol2⟩
          have nl2 := el2.n
          replace b0g := (el2.blk _ (by omega)).trans b0g
          replace b0h := (el2.blk _ (by omega)).trans b0h
          replace ol1 := ol1.ext el2
          replace eL := eL.trans el2
          have vl2 := ol2.one
          simp (disch := first | assumption | omega | rfl | (refine id ?_; simp only [gxD, ne_eq, reduceCtorEq, not_false_eq_true, Nat.reduceAdd, *]; done) | (refine id ?_; simp only [gxD]; omega)) only [↓gxPre, gxPost, ↓reduceIte, Nat.reduceEqDiff, reduceCtorEq, Nat.reduceAdd, b0g, b0h]
          refine callR_of (s_PutPicture_law ⟨ol1.fs, m0, hw0⟩ b0 d0 ⟨ol2.fs, m1, hw1⟩ b1 d1 b2 b3) ?_
          rintro _ L3 ⟨el3, yr, rfl, orr, qr⟩
          have vr := orr.one
          have nl3 := el3.n
          replace b0g := (el3.blk _ (by omega)).trans b0g
          replace b0h := (el3.blk _ (by omega)).trans b0h
          replace eL := eL.trans el3
          simp (disch := first | assumption | omega | rfl | (refine id ?_; simp only [gxD, ne_eq, reduceCtorEq, not_false_eq_true, Nat.reduceAdd, *]; done) | (refine id ?_; simp only [gxD]; omega)) only [↓gxPre, gxPost, ↓reduceIte, Nat.reduceEqDiff, reduceCtorEq, Nat.reduceAdd, b0g, b0h]
          obtain ⟨p, hp⟩ : ∃ p, p = L3.n := ⟨_, rfl⟩
          refine callR_new ?_
          intro J eJ bJ nJ
          try rw [← hp] at bJ ⊢
          refine key p yr J ?_ ?_ ?_ ?_ ?_ ?_
          · omega
          · omega
          · exact eL.trans eJ
          · exact bJ
          · exact (orr.ext eJ).wide (by omega) (by omega)
          · exact qr
        ·
          have eL : Ext H2 H2 := Ext.refl _
          simp (disch := first | assumption | omega | rfl | (refine id ?_; simp only [gxD, ne_eq, reduceCtorEq, not_false_eq_true, Nat.reduceAdd, *]; done) | (refine id ?_; simp only [gxD]; omega)) only [↓gxPre, gxPost, ↓reduceIte, Nat.reduceEqDiff, reduceCtorEq, Nat.reduceAdd, b0g, b0h]
          refine callR_of (w_toPicture_ow ((hv0.ext E).ext eL) m0) ?_
          rintro _ L1 ⟨el1, yl1, rfl, ol1⟩
          have nl1 := el1.n
          replace b0g := (el1.blk _ (by omega)).trans b0g
          replace b0h := (el1.blk _ (by omega)).trans b0h
          replace eL := eL.trans el1
          have vl1 := ol1.one
          simp (disch := first | assumption | omega | rfl | (refine id ?_; simp only [gxD, ne_eq, reduceCtorEq, not_false_eq_true, Nat.reduceAdd, *]; done) | (refine id ?_; simp only [gxD]; omega)) only [↓gxPre, gxPost, ↓reduceIte, Nat.reduceEqDiff, reduceCtorEq, Nat.reduceAdd, b0g, b0h]
          refine callR_of (w_toPicture_ow ((hv1.ext E).ext eL) m1) ?_
          rintro _ L2 ⟨el2, yl2, rfl, ol2⟩
          have nl2 := el2.n
          replace b0g := (el2.blk _ (by omega)).trans b0g
          replace b0h := (el2.blk _ (by omega)).trans b0h
          replace ol1 := ol1.ext el2
          replace eL := eL.trans el2
          have vl2 := ol2.one
          simp (disch := first | assumption | omega | rfl | (refine id ?_; simp only [gxD, ne_eq, reduceCtorEq, not_false_eq_true, Nat.reduceAdd, *]; done) | (refine id ?_; simp only [gxD]; omega)) only [↓gxPre, gxPost, ↓reduceIte, Nat.reduceEqDiff, reduceCtorEq, Nat.reduceAdd, b0g, b0h]
          obtain ⟨p, hp⟩ : ∃ p, p = L2.n := ⟨_, rfl⟩
          refine callR_new ?_
          intro J eJ bJ nJ
          try rw [← hp] at bJ ⊢
          replace b0g := (eJ.blk _ (by omega)).trans b0g
          replace b0h := (eJ.blk _ (by omega)).trans b0h
          replace ol1 := ol1.ext eJ
          replace ol2 := ol2.ext eJ
          replace eL := eL.trans eJ
          refine callR_of (s_PutPicture_law ⟨ol1.fs, m0, hw0⟩ b0 d0 ⟨ol2.fs, m1, hw1⟩ b1 d1 b2 b3) ?_
          rintro _ L3 ⟨el3, yr, rfl, orr, qr⟩
          have vr := orr.one
          have nl3 := el3.n
          replace b0g := (el3.blk _ (by omega)).trans b0g
          replace b0h := (el3.blk _ (by omega)).trans b0h
          replace bJ := (el3.blk _ (by omega)).trans bJ
          replace eL := eL.trans el3
          simp (disch := first | assumption | omega | rfl | (refine id ?_; simp only [gxD, ne_eq, reduceCtorEq, not_false_eq_true, Nat.reduceAdd, *]; done) | (refine id ?_; simp only [gxD]; omega)) only [↓gxPre, gxPost, ↓reduceIte, Nat.reduceEqDiff, reduceCtorEq, Nat.reduceAdd, b0g, b0h, bJ]
          refine callR_put ?_
          intro J nJ bJ2 kJ
          refine key p yr J ?_ ?_ ?_ ?_ ?_ ?_
          · omega
          · omega
          · exact ⟨by have := eL.n; omega, fun i hi => by rw [kJ i (by omega)]; exact eL.blk i hi⟩
          · exact bJ2
          · exact (orr.keep (by omega) fun h hh => kJ h fun e => by have := (orr.hdl hh).1; omega).wide (by omega) (by omega)
          · exact qr
      ·
        have eL : Ext H2 H2 := Ext.refl _
        simp (disch := first | assumption | omega | rfl | (refine id ?_; simp only [gxD, ne_eq, reduceCtorEq, not_false_eq_true, Nat.reduceAdd, *]; done) | (refine id ?_; simp only [gxD]; omega)) only [↓gxPre, gxPost, ↓reduceIte, Nat.reduceEqDiff, reduceCtorEq, Nat.reduceAdd, b0g, b0h]
        refine callR_of (w_toPicture_ow ((hv0.ext E).ext eL) m0) ?_
        rintro _ L1 ⟨el1, yl1, rfl, ol1⟩
        have nl1 := el1.n
        replace b0g := (el1.blk _ (by omega)).trans b0g
        replace b0h := (el1.blk _ (by omega)).trans b0h
        replace eL := eL.trans el1
        have vl1 := ol1.one
        simp (disch := first | assumption | omega | rfl | (refine id ?_; simp only [gxD, ne_eq, reduceCtorEq, not_false_eq_true, Nat.reduceAdd, *]; done) | (refine id ?_; simp only [gxD]; omega)) only [↓gxPre, gxPost, ↓reduceIte, Nat.reduceEqDiff, reduceCtorEq, Nat.reduceAdd, b0g, b0h]
        obtain ⟨p, hp⟩ : ∃ p, p = L1.n := ⟨_, rfl⟩
        refine callR_new ?_
        intro J eJ bJ nJ
        try rw [← hp] at bJ ⊢
        replace b0g := (eJ.blk _ (by omega)).trans b0g
        replace b0h := (eJ.blk _ (by omega)).trans b0h
        replace ol1 := ol1.ext eJ
        replace eL := eL.trans eJ
        refine callR_of (w_toPicture_ow ((hv1.ext E).ext eL) m1) ?_
        rintro _ L2 ⟨el2, yl2, rfl, ol2⟩
        have nl2 := el2.n
        replace b0g := (el2.blk _ (by omega)).trans b0g
        replace b0h := (el2.blk _ (by omega)).trans b0h
        replace bJ := (el2.blk _ (by omega)).trans bJ
        replace ol1 := ol1.ext el2
        replace eL := eL.trans el2
        have vl2 := ol2.one
        simp (disch := first | assumption | omega | rfl | (refine id ?_; simp only [gxD, ne_eq, reduceCtorEq, not_false_eq_true, Nat.reduceAdd, *]; done) | (refine id ?_; simp only [gxD]; omega)) only [↓gxPre, gxPost, ↓reduceIte, Nat.reduceEqDiff, reduceCtorEq, Nat.reduceAdd, b0g, b0h, bJ]
        refine callR_of (s_PutPicture_law ⟨ol1.fs, m0, hw0⟩ b0 d0 ⟨ol2.fs, m1, hw1⟩ b1 d1 b2 b3) ?_
        rintro _ L3 ⟨el3, yr, rfl, orr, qr⟩
        have vr := orr.one
        have nl3 := el3.n
        replace b0g := (el3.blk _ (by omega)).trans b0g
        replace b0h := (el3.blk _ (by omega)).trans b0h
        replace bJ := (el3.blk _ (by omega)).trans bJ
        replace eL := eL.trans el3
        simp (disch := first | assumption | omega | rfl | (refine id ?_; simp only [gxD, ne_eq, reduceCtorEq, not_false_eq_true, Nat.reduceAdd, *]; done) | (refine id ?_; simp only [gxD]; omega)) only [↓gxPre, gxPost, ↓reduceIte, Nat.reduceEqDiff, reduceCtorEq, Nat.reduceAdd, b0g, b0h, bJ]
        refine callR_put ?_
        intro J nJ bJ2 kJ
        refine key p yr J ?_ ?_ ?_ ?_ ?_ ?_
        · omega
        · omega
        · exact ⟨by have := eL.n; omega, fun i hi => by rw [kJ i (by omega)]; exact eL.blk i hi⟩
        · exact bJ2
        · exact (orr.keep (by omega) fun h hh => kJ h fun e => by have := (orr.hdl hh).1; omega).wide (by omega) (by omega)
        · exact qr
    ·
      have eL : Ext H2 H2 := Ext.refl _
      simp (disch := first | assumption | omega | rfl | (refine id ?_; simp only [gxD, ne_eq, reduceCtorEq, not_false_eq_true, Nat.reduceAdd, *]; done) | (refine id ?_; simp only [gxD]; omega)) only [↓gxPre, gxPost, ↓reduceIte, Nat.reduceEqDiff, reduceCtorEq, Nat.reduceAdd, b0g, b0h]
      obtain ⟨p, hp⟩ : ∃ p, p = H2.n := ⟨_, rfl⟩
      refine callR_new ?_
      intro J eJ bJ nJ
      try rw [← hp] at bJ ⊢
      replace b0g := (eJ.blk _ (by omega)).trans b0g
      replace b0h := (eJ.blk _ (by omega)).trans b0h
      replace eL := eL.trans eJ
      refine callR_of (w_toPicture_ow ((hv0.ext E).ext eL) m0) ?_
      rintro _ L1 ⟨el1, yl1, rfl, ol1⟩
      have nl1 := el1.n
      replace b0g := (el1.blk _ (by omega)).trans b0g
      replace b0h := (el1.blk _ (by omega)).trans b0h
      replace bJ := (el1.blk _ (by omega)).trans bJ
      replace eL := eL.trans el1
      have vl1 := ol1.one
      simp (disch := first | assumption | omega | rfl | (refine id ?_; simp only [gxD, ne_eq, reduceCtorEq, not_false_eq_true, Nat.reduceAdd, *]; done) | (refine id ?_; simp only [gxD]; omega)) only [↓gxPre, gxPost, ↓reduceIte, Nat.reduceEqDiff, reduceCtorEq, Nat.reduceAdd, b0g, b0h, bJ]
      refine callR_of (w_toPicture_ow ((hv1.ext E).ext eL) m1) ?_
      rintro _ L2 ⟨el2, yl2, rfl, ol2⟩
      have nl2 := el2.n
      replace b0g := (el2.blk _ (by omega)).trans b0g
      replace b0h := (el2.blk _ (by omega)).trans b0h
      replace bJ := (el2.blk _ (by omega)).trans bJ
      replace ol1 := ol1.ext el2
      replace eL := eL.trans el2
      have vl2 := ol2.one
      simp (disch := first | assumption | omega | rfl | (refine id ?_; simp only [gxD, ne_eq, reduceCtorEq, not_false_eq_true, Nat.reduceAdd, *]; done) | (refine id ?_; simp only [gxD]; omega)) only [↓gxPre, gxPost, ↓reduceIte, Nat.reduceEqDiff, reduceCtorEq, Nat.reduceAdd, b0g, b0h, bJ]
      refine callR_of (s_PutPicture_law ⟨ol1.fs, m0, hw0⟩ b0 d0 ⟨ol2.fs, m1, hw1⟩ b1 d1 b2 b3) ?_
      rintro _ L3 ⟨el3, yr, rfl, orr, qr⟩
      have vr := orr.one
      have nl3 := el3.n
      replace b0g := (el3.blk _ (by omega)).trans b0g
      replace b0h := (el3.blk _ (by omega)).trans b0h
      replace bJ := (el3.blk _ (by omega)).trans bJ
      replace eL := eL.trans el3
      simp (disch := first | assumption | omega | rfl | (refine id ?_; simp only [gxD, ne_eq, reduceCtorEq, not_false_eq_true, Nat.reduceAdd, *]; done) | (refine id ?_; simp only [gxD]; omega)) only [↓gxPre, gxPost, ↓reduceIte, Nat.reduceEqDiff, reduceCtorEq, Nat.reduceAdd, b0g, b0h, bJ]
      refine callR_put ?_
      intro J nJ bJ2 kJ
      refine key p yr J ?_ ?_ ?_ ?_ ?_ ?_
      · omega
      · omega
      · exact ⟨by have := eL.n; omega, fun i hi => by rw [kJ i (by omega)]; exact eL.blk i hi⟩
      · exact bJ2
      · exact (orr.keep (by omega) fun h hh => kJ h fun e => by have := (orr.hdl hh).1; omega).wide (by omega) (by omega)
      · exact qr
  case kk =>
    intro p3 y3 G3 lp3 hp3 e3 b3g o3 q3
    have n3 := e3.n
    replace b0g := (e3.blk _ (by omega)).trans b0g
    replace b0h := (e3.blk _ (by omega)).trans b0h
    replace E := E.trans e3
    have v3o := o3.one
    refine callR_of (w_toPicture_ow (hv0.ext E) m0) ?_
    rintro _ H4 ⟨e4, y4, rfl, o4⟩
    have n4 := e4.n
    replace b0g := (e4.blk _ (by omega)).trans b0g
    replace b0h := (e4.blk _ (by omega)).trans b0h
    replace b3g := (e4.blk _ (by omega)).trans b3g
    replace o3 := o3.ext e4
    replace E := E.trans e4
    have v4o := o4.one
    simp (disch := first | assumption | omega | rfl | (refine id ?_; simp only [gxD, ne_eq, reduceCtorEq, not_false_eq_true, Nat.reduceAdd, *]; done) | (refine id ?_; simp only [gxD]; omega)) only [↓gxPre, gxPost, ↓reduceIte, Nat.reduceEqDiff, reduceCtorEq, Nat.reduceAdd, b0g, b0h, b3g]
    refine callR_new ?_
    intro G4 e4g b4g n4g
    replace b0g := (e4g.blk _ (by omega)).trans b0g
    replace b0h := (e4g.blk _ (by omega)).trans b0h
    replace b3g := (e4g.blk _ (by omega)).trans b3g
    replace o3 := o3.ext e4g
    replace o4 := o4.ext e4g
    replace E := E.trans e4g
    refine callR_of (w_toPicture_ow (hv1.ext E) m1) ?_
    rintro _ H5 ⟨e5, y5, rfl, o5⟩
    have n5 := e5.n
    replace b0g := (e5.blk _ (by omega)).trans b0g
    replace b0h := (e5.blk _ (by omega)).trans b0h
    replace b3g := (e5.blk _ (by omega)).trans b3g
    replace b4g := (e5.blk _ (by omega)).trans b4g
    replace o3 := o3.ext e5
    replace o4 := o4.ext e5
    replace E := E.trans e5
    have v5o := o5.one
    simp (disch := first | assumption | omega | rfl | (refine id ?_; simp only [gxD, ne_eq, reduceCtorEq, not_false_eq_true, Nat.reduceAdd, *]; done) | (refine id ?_; simp only [gxD]; omega)) only [↓gxPre, gxPost, ↓reduceIte, Nat.reduceEqDiff, reduceCtorEq, Nat.reduceAdd, b0g, b0h, b3g, b4g]
    refine callR_new ?_
    intro G5 e5g b5g n5g
    replace b0g := (e5g.blk _ (by omega)).trans b0g
    replace b0h := (e5g.blk _ (by omega)).trans b0h
    replace b3g := (e5g.blk _ (by omega)).trans b3g
    replace b4g := (e5g.blk _ (by omega)).trans b4g
    replace o3 := o3.ext e5g
    replace o4 := o4.ext e5g
    replace o5 := o5.ext e5g
    replace E := E.trans e5g
    refine callR_of (i_PutPicture_law ⟨o4.fs, m0, hw0⟩ b0 d0 ⟨o5.fs, m1, hw1⟩ b1 d1 b2 b3) ?_
    rintro _ H6 ⟨e6, y6, rfl, o6, q6⟩
    have n6 := e6.n
    replace b0g := (e6.blk _ (by omega)).trans b0g
    replace b0h := (e6.blk _ (by omega)).trans b0h
    replace b3g := (e6.blk _ (by omega)).trans b3g
    replace b4g := (e6.blk _ (by omega)).trans b4g
    replace b5g := (e6.blk _ (by omega)).trans b5g
    replace o3 := o3.ext e6
    replace o4 := o4.ext e6
    replace o5 := o5.ext e6
    replace E := E.trans e6
    have v6o := o6.one
    simp (disch := first | assumption | omega | rfl | (refine id ?_; simp only [gxD, ne_eq, reduceCtorEq, not_false_eq_true, Nat.reduceAdd, *]; done) | (refine id ?_; simp only [gxD]; omega)) only [↓gxPre, gxPost, ↓reduceIte, Nat.reduceEqDiff, reduceCtorEq, Nat.reduceAdd, b0g, b0h, b3g, b4g, b5g]
    refine callR_new ?_
    intro G6 e6g b6g n6g
    replace b0g := (e6g.blk _ (by omega)).trans b0g
    replace b0h := (e6g.blk _ (by omega)).trans b0h
    replace b3g := (e6g.blk _ (by omega)).trans b3g
    replace b4g := (e6g.blk _ (by omega)).trans b4g
    replace b5g := (e6g.blk _ (by omega)).trans b5g
    replace o3 := o3.ext e6g
    replace o4 := o4.ext e6g
    replace o5 := o5.ext e6g
    replace o6 := o6.ext e6g
    replace E := E.trans e6g
    refine callR_ext (w_eqPicture_ow o6.fs o3.fs q6) ?_
    intro H7 n7 bb7
    have e7 : Ext G6 H7 := ⟨n7, bb7⟩
    replace b0g := (e7.blk _ (by omega)).trans b0g
    replace b0h := (e7.blk _ (by omega)).trans b0h
    replace b3g := (e7.blk _ (by omega)).trans b3g
    replace b4g := (e7.blk _ (by omega)).trans b4g
    replace b5g := (e7.blk _ (by omega)).trans b5g
    replace b6g := (e7.blk _ (by omega)).trans b6g
    replace o3 := o3.ext e7
    replace o4 := o4.ext e7
    replace o5 := o5.ext e7
    replace o6 := o6.ext e7
    replace E := E.trans e7
    simp (disch := first | assumption | omega | rfl | (refine id ?_; simp only [gxD, ne_eq, reduceCtorEq, not_false_eq_true, Nat.reduceAdd, *]; done) | (refine id ?_; simp only [gxD]; omega)) only [↓gxPre, gxPost, ↓reduceIte, Nat.reduceEqDiff, reduceCtorEq, Nat.reduceAdd, b0g, b0h, b3g, b4g, b5g, b6g, ne_eq, not_true]
    refine callR_of (w_toPicture_ow (hv0.ext E) m0) ?_
    rintro _ H8 ⟨e8, y8, rfl, o8⟩
    have n8 := e8.n
    replace b0g := (e8.blk _ (by omega)).trans b0g
    replace b0h := (e8.blk _ (by omega)).trans b0h
    replace b3g := (e8.blk _ (by omega)).trans b3g
    replace b4g := (e8.blk _ (by omega)).trans b4g
    replace b5g := (e8.blk _ (by omega)).trans b5g
    replace b6g := (e8.blk _ (by omega)).trans b6g
    replace o3 := o3.ext e8
    replace o4 := o4.ext e8
    replace o5 := o5.ext e8
    replace o6 := o6.ext e8
    replace E := E.trans e8
    have v8o := o8.one
    simp (disch := first | assumption | omega | rfl | (refine id ?_; simp only [gxD, ne_eq, reduceCtorEq, not_false_eq_true, Nat.reduceAdd, *]; done) | (refine id ?_; simp only [gxD]; omega)) only [↓gxPre, gxPost, ↓reduceIte, Nat.reduceEqDiff, reduceCtorEq, Nat.reduceAdd, b0g, b0h, b3g, b4g, b5g, b6g]
    refine callR_ext (w_eqPicture_ow o4.fs o8.fs m0) ?_
    intro H9 n9 bb9
    have e9 : Ext H8 H9 := ⟨n9, bb9⟩
    replace b0g := (e9.blk _ (by omega)).trans b0g
    replace b0h := (e9.blk _ (by omega)).trans b0h
    replace b3g := (e9.blk _ (by omega)).trans b3g
    replace b4g := (e9.blk _ (by omega)).trans b4g
    replace b5g := (e9.blk _ (by omega)).trans b5g
    replace b6g := (e9.blk _ (by omega)).trans b6g
    replace o3 := o3.ext e9
    replace o4 := o4.ext e9
    replace o5 := o5.ext e9
    replace o6 := o6.ext e9
    replace E := E.trans e9
    simp (disch := first | assumption | omega | rfl | (refine id ?_; simp only [gxD, ne_eq, reduceCtorEq, not_false_eq_true, Nat.reduceAdd, *]; done) | (refine id ?_; simp only [gxD]; omega)) only [↓gxPre, gxPost, ↓reduceIte, Nat.reduceEqDiff, reduceCtorEq, Nat.reduceAdd, b0g, b0h, b3g, b4g, b5g, b6g, ne_eq, not_true]
    refine callR_of (w_toPicture_ow (hv1.ext E) m1) ?_
    rintro _ H10 ⟨e10, y10, rfl, o10⟩
    have n10 := e10.n
    replace b0g := (e10.blk _ (by omega)).trans b0g
    replace b0h := (e10.blk _ (by omega)).trans b0h
    replace b3g := (e10.blk _ (by omega)).trans b3g
    replace b4g := (e10.blk _ (by omega)).trans b4g
    replace b5g := (e10.blk _ (by omega)).trans b5g
    replace b6g := (e10.blk _ (by omega)).trans b6g
    replace o3 := o3.ext e10
    replace o4 := o4.ext e10
    replace o5 := o5.ext e10
    replace o6 := o6.ext e10
    replace E := E.trans e10
    have v10o := o10.one
    simp (disch := first | assumption | omega | rfl | (refine id ?_; simp only [gxD, ne_eq, reduceCtorEq, not_false_eq_true, Nat.reduceAdd, *]; done) | (refine id ?_; simp only [gxD]; omega)) only [↓gxPre, gxPost, ↓reduceIte, Nat.reduceEqDiff, reduceCtorEq, Nat.reduceAdd, b0g, b0h, b3g, b4g, b5g, b6g]
    refine callR_ext (w_eqPicture_ow o5.fs o10.fs m1) ?_
    intro H11 n11 bb11
    have e11 : Ext H10 H11 := ⟨n11, bb11⟩
    replace b0g := (e11.blk _ (by omega)).trans b0g
    replace b0h := (e11.blk _ (by omega)).trans b0h
    replace b3g := (e11.blk _ (by omega)).trans b3g
    replace b4g := (e11.blk _ (by omega)).trans b4g
    replace b5g := (e11.blk _ (by omega)).trans b5g
    replace b6g := (e11.blk _ (by omega)).trans b6g
    replace o3 := o3.ext e11
    replace o4 := o4.ext e11
    replace o5 := o5.ext e11
    replace o6 := o6.ext e11
    replace E := E.trans e11
    simp (disch := first | assumption | omega | rfl | (refine id ?_; simp only [gxD, ne_eq, reduceCtorEq, not_false_eq_true, Nat.reduceAdd, *]; done) | (refine id ?_; simp only [gxD]; omega)) only [↓gxPre, gxPost, ↓reduceIte, Nat.reduceEqDiff, reduceCtorEq, Nat.reduceAdd, b0g, b0h, b3g, b4g, b5g, b6g, ne_eq, not_true]
    refine callR_of (w_markPicture_ow o4 (by first | omega | (simp only [List.length_map, List.length_range]; omega)) (by first | omega | (simp only [List.length_map, List.length_range]; omega)) (by first | omega | (simp only [List.length_map, List.length_range]; omega))) ?_
    rintro _ H12 ⟨rfl, p12, f12⟩
    have n12 := f12.n
    replace o4 := p12
    replace b0g := (f12.blk _ (by omega) (by omega)).trans b0g
    replace b0h := (f12.blk _ (by omega) (by omega)).trans b0h
    replace b3g := (f12.blk _ (by omega) (by omega)).trans b3g
    replace b4g := (f12.blk _ (by omega) (by omega)).trans b4g
    replace b5g := (f12.blk _ (by omega) (by omega)).trans b5g
    replace b6g := (f12.blk _ (by omega) (by omega)).trans b6g
    replace o3 := o3.off f12 (by omega)
    replace o5 := o5.off f12 (by omega)
    replace o6 := o6.off f12 (by omega)
    replace E := E.mark f12 (by omega)
    simp (disch := first | assumption | omega | rfl | (refine id ?_; simp only [gxD, ne_eq, reduceCtorEq, not_false_eq_true, Nat.reduceAdd, *]; done) | (refine id ?_; simp only [gxD]; omega)) only [↓gxPre, gxPost, ↓reduceIte, Nat.reduceEqDiff, reduceCtorEq, Nat.reduceAdd, b0g, b0h, b3g, b4g, b5g, b6g, ne_eq, not_true]
    refine callR_of (w_markPicture_ow o5 (by first | omega | (simp only [List.length_map, List.length_range]; omega)) (by first | omega | (simp only [List.length_map, List.length_range]; omega)) (by first | omega | (simp only [List.length_map, List.length_range]; omega))) ?_
    rintro _ H13 ⟨rfl, p13, f13⟩
    have n13 := f13.n
    replace o5 := p13
    replace b0g := (f13.blk _ (by omega) (by omega)).trans b0g
    replace b0h := (f13.blk _ (by omega) (by omega)).trans b0h
    replace b3g := (f13.blk _ (by omega) (by omega)).trans b3g
    replace b4g := (f13.blk _ (by omega) (by omega)).trans b4g
    replace b5g := (f13.blk _ (by omega) (by omega)).trans b5g
    replace b6g := (f13.blk _ (by omega) (by omega)).trans b6g
    replace o3 := o3.off f13 (by omega)
    replace o4 := o4.off f13 (by omega)
    replace o6 := o6.off f13 (by omega)
    replace E := E.mark f13 (by omega)
    simp (disch := first | assumption | omega | rfl | (refine id ?_; simp only [gxD, ne_eq, reduceCtorEq, not_false_eq_true, Nat.reduceAdd, *]; done) | (refine id ?_; simp only [gxD]; omega)) only [↓gxPre, gxPost, ↓reduceIte, Nat.reduceEqDiff, reduceCtorEq, Nat.reduceAdd, b0g, b0h, b3g, b4g, b5g, b6g, ne_eq, not_true]
    refine callR_ext (w_eqPicture_ow o6.fs o3.fs q6) ?_
    intro H14 n14 bb14
    have e14 : Ext H13 H14 := ⟨n14, bb14⟩
    replace b0g := (e14.blk _ (by omega)).trans b0g
    replace b0h := (e14.blk _ (by omega)).trans b0h
    replace b3g := (e14.blk _ (by omega)).trans b3g
    replace b4g := (e14.blk _ (by omega)).trans b4g
    replace b5g := (e14.blk _ (by omega)).trans b5g
    replace b6g := (e14.blk _ (by omega)).trans b6g
    replace o3 := o3.ext e14
    replace o4 := o4.ext e14
    replace o5 := o5.ext e14
    replace o6 := o6.ext e14
    replace E := E.trans e14
    simp (disch := first | assumption | omega | rfl | (refine id ?_; simp only [gxD, ne_eq, reduceCtorEq, not_false_eq_true, Nat.reduceAdd, *]; done) | (refine id ?_; simp only [gxD]; omega)) only [↓gxPre, gxPost, ↓reduceIte, Nat.reduceEqDiff, reduceCtorEq, Nat.reduceAdd, b0g, b0h, b3g, b4g, b5g, b6g, ne_eq, not_true]
    refine callR_of (w_markPicture_ow o6 (by first | omega | (simp only [List.length_map, List.length_range]; omega)) (by first | omega | (simp only [List.length_map, List.length_range]; omega)) (by first | omega | (simp only [List.length_map, List.length_range]; omega))) ?_
    rintro _ H15 ⟨rfl, p15, f15⟩
    have n15 := f15.n
    replace o6 := p15
    replace b0g := (f15.blk _ (by omega) (by omega)).trans b0g
    replace b0h := (f15.blk _ (by omega) (by omega)).trans b0h
    replace b3g := (f15.blk _ (by omega) (by omega)).trans b3g
    replace b4g := (f15.blk _ (by omega) (by omega)).trans b4g
    replace b5g := (f15.blk _ (by omega) (by omega)).trans b5g
    replace b6g := (f15.blk _ (by omega) (by omega)).trans b6g
    replace o3 := o3.off f15 (by omega)
    replace o4 := o4.off f15 (by omega)
    replace o5 := o5.off f15 (by omega)
    replace E := E.mark f15 (by omega)
    simp (disch := first | assumption | omega | rfl | (refine id ?_; simp only [gxD, ne_eq, reduceCtorEq, not_false_eq_true, Nat.reduceAdd, *]; done) | (refine id ?_; simp only [gxD]; omega)) only [↓gxPre, gxPost, ↓reduceIte, Nat.reduceEqDiff, reduceCtorEq, Nat.reduceAdd, b0g, b0h, b3g, b4g, b5g, b6g, ne_eq, not_true]
    refine callR_ext (w_heldPicture_ow o6 (by first | omega | (simp only [List.length_map, List.length_range]; omega)) (by first | omega | (simp only [List.length_map, List.length_range]; omega)) (by first | omega | (simp only [List.length_map, List.length_range]; omega))) ?_
    intro H16 n16 bb16
    have e16 : Ext H15 H16 := ⟨n16, bb16⟩
    replace b0g := (e16.blk _ (by omega)).trans b0g
    replace b0h := (e16.blk _ (by omega)).trans b0h
    replace b3g := (e16.blk _ (by omega)).trans b3g
    replace b4g := (e16.blk _ (by omega)).trans b4g
    replace b5g := (e16.blk _ (by omega)).trans b5g
    replace b6g := (e16.blk _ (by omega)).trans b6g
    replace o3 := o3.ext e16
    replace o4 := o4.ext e16
    replace o5 := o5.ext e16
    replace o6 := o6.ext e16
    replace E := E.trans e16
    simp (disch := first | assumption | omega | rfl | (refine id ?_; simp only [gxD, ne_eq, reduceCtorEq, not_false_eq_true, Nat.reduceAdd, *]; done) | (refine id ?_; simp only [gxD]; omega)) only [↓gxPre, gxPost, ↓reduceIte, Nat.reduceEqDiff, reduceCtorEq, Nat.reduceAdd, b0g, b0h, b3g, b4g, b5g, b6g, ne_eq, not_true]
    apply bothPic (ty := t_Picture) (t := t_float32) (G0 := H16)
    case main =>
      intro key
      refine bothR_mk ?_ ?_
      ·
        simp (disch := first | assumption | omega | rfl | (refine id ?_; simp only [gxD, ne_eq, reduceCtorEq, not_false_eq_true, Nat.reduceAdd, *]; done) | (refine id ?_; simp only [gxD]; omega)) only [↓gxPre, gxPost, ↓reduceIte, Nat.reduceEqDiff, reduceCtorEq, Nat.reduceAdd]
        refine bothR_mk ?_ ?_
        ·
          simp (disch := first | assumption | omega | rfl | (refine id ?_; simp only [gxD, ne_eq, reduceCtorEq, not_false_eq_true, Nat.reduceAdd, *]; done) | (refine id ?_; simp only [gxD]; omega)) only [↓gxPre, gxPost, ↓reduceIte, Nat.reduceEqDiff, reduceCtorEq, Nat.reduceAdd]
          refine bothR_mk ?_ ?_
          ·
            have eL : Ext H16 H16 := Ext.refl _
            simp (disch := first | assumption | omega | rfl | (refine id ?_; simp only [gxD, ne_eq, reduceCtorEq, not_false_eq_true, Nat.reduceAdd, *]; done) | (refine id ?_; simp only [gxD]; omega)) only [↓gxPre, gxPost, ↓reduceIte, Nat.reduceEqDiff, reduceCtorEq, Nat.reduceAdd, b0g, b0h, b3g, b4g, b5g, b6g]
            refine callR_of (w_toPicture_ow ((hv0.ext E).ext eL) m0) ?_
            rintro _ L1 ⟨el1, yl1, rfl, ol1⟩
            have nl1 := el1.n
            replace b0g := (el1.blk _ (by omega)).trans b0g
            replace b0h := (el1.blk _ (by omega)).trans b0h
            replace b3g := (el1.blk _ (by omega)).trans b3g
            replace b4g := (el1.blk _ (by omega)).trans b4g
            replace b5g := (el1.blk _ (by omega)).trans b5g
            replace b6g := (el1.blk _ (by omega)).trans b6g
            replace eL := eL.trans el1
            have vl1 := ol1.one
            simp (disch := first | assumption | omega | rfl | (refine id ?_; simp only [gxD, ne_eq, reduceCtorEq, not_false_eq_true, Nat.reduceAdd, *]; done) | (refine id ?_; simp only [gxD]; omega)) only [↓gxPre, gxPost, ↓reduceIte, Nat.reduceEqDiff, reduceCtorEq, Nat.reduceAdd, b0g, b0h, b3g, b4g, b5g, b6g]
            refine callR_of (w_toPicture_ow ((hv1.ext E).ext eL) m1) ?_
            rintro _ L2 ⟨el2, yl2, rfl, ol2⟩
            have nl2 := el2.n
            replace b0g := (el2.blk _ (by omega)).trans b0g
            replace b0h := (el2.blk _ (by omega)).trans b0h
            replace b3g := (el2.blk _ (by omega)).trans b3g
            replace b4g := (el2.blk _ (by omega)).trans b4g
            replace b5g := (el2.blk _ (by omega)).trans b5g
            replace b6g := (el2.blk _ (by omega)).trans b6g
            replace ol1 := ol1.ext el2
            replace eL := eL.trans el2
            have vl2 := ol2.one
            simp (disch := first | assumption | omega | rfl | (refine id ?_; simp only [gxD, ne_eq, reduceCtorEq, not_false_eq_true, Nat.reduceAdd, *]; done) | (refine id ?_; simp only [gxD]; omega)) only [↓gxPre, gxPost, ↓reduceIte, Nat.reduceEqDiff, reduceCtorEq, Nat.reduceAdd, b0g, b0h, b3g, b4g, b5g, b6g]
            refine callR_of (i_PutPicture_law ⟨ol1.fs, m0, hw0⟩ b0 d0 ⟨ol2.fs, m1, hw1⟩ b1 d1 b2 b3) ?_
            rintro _ L3 ⟨el3, yr, rfl, orr, qr⟩
            have vr := orr.one
            have nl3 := el3.n
            replace b0g := (el3.blk _ (by omega)).trans b0g
            replace b0h := (el3.blk _ (by omega)).trans b0h
            replace b3g := (el3.blk _ (by omega)).trans b3g
            replace b4g := (el3.blk _ (by omega)).trans b4g
            replace b5g := (el3.blk _ (by omega)).trans b5g
            replace b6g := (el3.blk _ (by omega)).trans b6g
            replace eL := eL.trans el3
            simp (disch := first | assumption | omega | rfl | (refine id ?_; simp only [gxD, ne_eq, reduceCtorEq, not_false_eq_true, Nat.reduceAdd, *]; done) | (refine id ?_; simp only [gxD]; omega)) only [↓gxPre, gxPost, ↓reduceIte, Nat.reduceEqDiff, reduceCtorEq, Nat.reduceAdd, b0g, b0h, b3g, b4g, b5g, b6g]
            obtain ⟨p, hp⟩ : ∃ p, p = L3.n := ⟨_, rfl⟩
            refine callR_new ?_
            intro J eJ bJ nJ
            try rw [← hp] at bJ ⊢
            refine key p yr J ?_ ?_ ?_ ?_ ?_ ?_
            · omega
            · omega
            · exact eL.trans eJ
            · exact bJ
            · exact (orr.ext eJ).wide (by omega) (by omega)
            · exact qr
          ·
            have eL : Ext H16 H16 := Ext.refl _
            simp (disch := first | assumption | omega | rfl | (refine id ?_; simp only [gxD, ne_eq, reduceCtorEq, not_false_eq_true, Nat.reduceAdd, *]; done) | (refine id ?_; simp only [gxD]; omega)) only [↓gxPre, gxPost, ↓reduceIte, Nat.reduceEqDiff, reduceCtorEq, Nat.reduceAdd, b0g, b0h, b3g, b4g, b5g, b6g]
            refine callR_of (w_toPicture_ow ((hv0.ext E).ext eL) m0) ?_
            rintro _ L1 ⟨el1, yl1, rfl, ol1⟩
            have nl1 := el1.n
            replace b0g := (el1.blk _ (by omega)).trans b0g
            replace b0h := (el1.blk _ (by omega)).trans b0h
            replace b3g := (el1.blk _ (by omega)).trans b3g
            replace b4g := (el1.blk _ (by omega)).trans b4g
            replace b5g := (el1.blk _ (by omega)).trans b5g
            replace b6g := (el1.blk _ (by omega)).trans b6g
            replace eL := eL.trans el1
            have vl1 := ol1.one
            simp (disch := first | assumption | omega | rfl | (refine id ?_; simp only [gxD, ne_eq, reduceCtorEq, not_false_eq_true, Nat.reduceAdd, *]; done) | (refine id ?_; simp only [gxD]; omega)) only [↓gxPre, gxPost, ↓reduceIte, Nat.reduceEqDiff, reduceCtorEq, Nat.reduceAdd, b0g, b0h, b3g, b4g, b5g, b6g]
            refine callR_of (w_toPicture_ow ((hv1.ext E).ext eL) m1) ?_
            rintro _ L2 ⟨el2, yl2, rfl, ol2⟩
            have nl2 := el2.n
            replace b0g := (el2.blk _ (by omega)).trans b0g
            replace b0h := (el2.blk _ (by omega)).trans b0h
            replace b3g := (el2.blk _ (by omega)).trans b3g
            replace b4g := (el2.blk _ (by omega)).trans b4g
            replace b5g := (el2.blk _ (by omega)).trans b5g
            replace b6g := (el2.blk _ (by omega)).trans b6g
            replace ol1 := ol1.ext el2
            replace eL := eL.trans el2
            have vl2 := ol2.one
            simp (disch := first | assumption | omega | rfl | (refine id ?_; simp only [gxD, ne_eq, reduceCtorEq, not_false_eq_true, Nat.reduceAdd, *]; done) | (refine id ?_; simp only [gxD]; omega)) only [↓gxPre, gxPost, ↓reduceIte, Nat.reduceEqDiff, reduceCtorEq, Nat.reduceAdd, b0g, b0h, b3g, b4g, b5g, b6g]
            obtain ⟨p, hp⟩ : ∃ p, p = L2.n := ⟨_, rfl⟩
            refine callR_new ?_
            intro J eJ bJ nJ
            try rw [← hp] at bJ ⊢
            replace b0g := (eJ.blk _ (by omega)).trans b0g
            replace b0h := (eJ.blk _ (by omega)).trans b0h
            replace b3g := (eJ.blk _ (by omega)).trans b3g
            replace b4g := (eJ.blk _ (by omega)).trans b4g
            replace b5g := (eJ.blk _ (by omega)).trans b5g
            replace b6g := (eJ.blk _ (by omega)).trans b6g
            replace ol1 := ol1.ext eJ
            replace ol2 := ol2.ext eJ
            replace eL := eL.trans eJ
            refine callR_of (i_PutPicture_law ⟨ol1.fs, m0, hw0⟩ b0 d0 ⟨ol2.fs, m1, hw1⟩ b1 d1 b2 b3) ?_
            rintro _ L3 ⟨el3, yr, rfl, orr, qr⟩
            have vr := orr.one
            have nl3 := el3.n
            replace b0g := (el3.blk _ (by omega)).trans b0g
            replace b0h := (el3.blk _ (by omega)).trans b0h
            replace b3g := (el3.blk _ (by omega)).trans b3g
            replace b4g := (el3.blk _ (by omega)).trans b4g
            replace b5g := (el3.blk _ (by omega)).trans b5g
            replace b6g := (el3.blk _ (by omega)).trans b6g
            replace bJ := (el3.blk _ (by omega)).trans bJ
            replace eL := eL.trans el3
            simp (disch := first | assumption | omega | rfl | (refine id ?_; simp only [gxD, ne_eq, reduceCtorEq, not_false_eq_true, Nat.reduceAdd, *]; done) | (refine id ?_; simp only [gxD]; omega)) only [↓gxPre, gxPost, ↓reduceIte, Nat.reduceEqDiff, reduceCtorEq, Nat.reduceAdd, b0g, b0h, b3g, b4g, b5g, b6g, bJ]
            refine callR_put ?_
            intro J nJ bJ2 kJ
            refine key p yr J ?_ ?_ ?_ ?_ ?_ ?_
            · omega
            · omega
            · exact ⟨by have := eL.n; omega, fun i hi => by rw [kJ i (by omega)]; exact eL.blk i hi⟩
            · exact bJ2
            · exact (orr.keep (by omega) fun h hh => kJ h fun e => by have := (orr.hdl hh).1; omega).wide (by omega) (by omega)
            · exact qr
        ·
          have eL : Ext H16 H16 := Ext.refl _
          simp (disch := first | assumption | omega | rfl | (refine id ?_; simp only [gxD, ne_eq, reduceCtorEq, not_false_eq_true, Nat.reduceAdd, *]; done) | (refine id ?_; simp only [gxD]; omega)) only [↓gxPre, gxPost, ↓reduceIte, Nat.reduceEqDiff, reduceCtorEq, Nat.reduceAdd, b0g, b0h, b3g, b4g, b5g, b6g]
          refine callR_of (w_toPicture_ow ((hv0.ext E).ext eL) m0) ?_
          rintro _ L1 ⟨el1, yl1, rfl, ol1⟩
          have nl1 := el1.n
          replace b0g := (el1.blk _ (by omega)).trans b0g
          replace b0h := (el1.blk _ (by omega)).trans b0h
          replace b3g := (el1.blk _ (by omega)).trans b3g
          replace b4g := (el1.blk _ (by omega)).trans b4g
          replace b5g := (el1.blk _ (by omega)).trans b5g
          replace b6g := (el1.blk _ (by omega)).trans b6g
          replace eL := eL.trans el1
          have vl1 := ol1.one
          simp (disch := first | assumption | omega | rfl | (refine id ?_; simp only [gxD, ne_eq, reduceCtorEq, not_false_eq_true, Nat.reduceAdd, *]; done) | (refine id ?_; simp only [gxD]; omega)) only [↓gxPre, gxPost, ↓reduceIte, Nat.reduceEqDiff, reduceCtorEq, Nat.reduceAdd, b0g, b0h, b3g, b4g, b5g, b6g]
          obtain ⟨p, hp⟩ : ∃ p, p = L1.n := ⟨_, rfl⟩
          refine callR_new ?_
          intro J eJ bJ nJ
          try rw [← hp] at bJ ⊢
          replace b0g := (eJ.blk _ (by omega)).trans b0g
          replace b0h := (eJ.blk _ (by omega)).trans b0h
          replace b3g := (eJ.blk _ (by omega)).trans b3g
          replace b4g := (eJ.blk _ (by omega)).trans b4g
          replace b5g := (eJ.blk _ (by omega)).trans b5g
          replace b6g := (eJ.blk _ (by omega)).trans b6g
          replace ol1 := ol1.ext eJ
          replace eL := eL.trans eJ
          refine callR_of (w_toPicture_ow ((hv1.ext E).ext eL) m1) ?_
          rintro _ L2 ⟨el2, yl2, rfl, ol2⟩
          have nl2 := el2.n
          replace b0g := (el2.blk _ (by omega)).trans b0g
          replace b0h := (el2.blk _ (by omega)).trans b0h
          replace b3g := (el2.blk _ (by omega)).trans b3g
          replace b4g := (el2.blk _ (by omega)).trans b4g
          replace b5g := (el2.blk _ (by omega)).trans b5g
          replace b6g := (el2.blk _ (by omega)).trans b6g
          replace bJ := (el2.blk _ (by omega)).trans bJ
          replace ol1 := ol1.ext el2
          replace eL := eL.trans el2
          have vl2 := ol2.one
          simp (disch := first | assumption | omega | rfl | (refine id ?_; simp only [gxD, ne_eq, reduceCtorEq, not_false_eq_true, Nat.reduceAdd, *]; done) | (refine id ?_; simp only [gxD]; omega)) only [↓gxPre, gxPost, ↓reduceIte, Nat.reduceEqDiff, reduceCtorEq, Nat.reduceAdd, b0g, b0h, b3g, b4g, b5g, b6g, bJ]
          refine callR_of (i_PutPicture_law ⟨ol1.fs, m0, hw0⟩ b0 d0 ⟨ol2.fs, m1, hw1⟩ b1 d1 b2 b3) ?_
          rintro _ L3 ⟨el3, yr, rfl, orr, qr⟩
          have vr := orr.one
          have nl3 := el3.n
          replace b0g := (el3.blk _ (by omega)).trans b0g
          replace b0h := (el3.blk _ (by omega)).trans b0h
          replace b3g := (el3.blk _ (by omega)).trans b3g
          replace b4g := (el3.blk _ (by omega)).trans b4g
          replace b5g := (el3.blk _ (by omega)).trans b5g
          replace b6g := (el3.blk _ (by omega)).trans b6g
          replace bJ := (el3.blk _ (by omega)).trans bJ
          replace eL := eL.trans el3
          simp (disch := first | assumption | omega | rfl | (refine id ?_; simp only [gxD, ne_eq, reduceCtorEq, not_false_eq_true, Nat.reduceAdd, *]; done) | (refine id ?_; simp only [gxD]; omega)) only [↓gxPre, gxPost, ↓reduceIte, Nat.reduceEqDiff, reduceCtorEq, Nat.reduceAdd, b0g, b0h, b3g, b4g, b5g, b6g, bJ]
          refine callR_put ?_
          intro J nJ bJ2 kJ
          refine key p yr J ?_ ?_ ?_ ?_ ?_ ?_
          · omega
          · omega
          · exact ⟨by have := eL.n; omega, fun i hi => by rw [kJ i (by omega)]; exact eL.blk i hi⟩
          · exact bJ2
          · exact (orr.keep (by omega) fun h hh => kJ h fun e => by have := (orr.hdl hh).1; omega).wide (by omega) (by omega)
          · exact qr
      ·
        have eL : Ext H16 H16 := Ext.refl _
        simp (disch := first | assumption | omega | rfl | (refine id ?_; simp only [gxD, ne_eq, reduceCtorEq, not_false_eq_true, Nat.reduceAdd, *]; done) | (refine id ?_; simp only [gxD]; omega)) only [↓gxPre, gxPost, ↓reduceIte, Nat.reduceEqDiff, reduceCtorEq, Nat.reduceAdd, b0g, b0h, b3g, b4g, b5g, b6g]
        obtain ⟨p, hp⟩ : ∃ p, p = H16.n := ⟨_, rfl⟩
        refine callR_new ?_
        intro J eJ bJ nJ
        try rw [← hp] at bJ ⊢
        replace b0g := (eJ.blk _ (by omega)).trans b0g
        replace b0h := (eJ.blk _ (by omega)).trans b0h
        replace b3g := (eJ.blk _ (by omega)).trans b3g
        replace b4g := (eJ.blk _ (by omega)).trans b4g
        replace b5g := (eJ.blk _ (by omega)).trans b5g
        replace b6g := (eJ.blk _ (by omega)).trans b6g
        replace eL := eL.trans eJ
        refine callR_of (w_toPicture_ow ((hv0.ext E).ext eL) m0) ?_
        rintro _ L1 ⟨el1, yl1, rfl, ol1⟩
        have nl1 := el1.n
        replace b0g := (el1.blk _ (by omega)).trans b0g
        replace b0h := (el1.blk _ (by omega)).trans b0h
        replace b3g := (el1.blk _ (by omega)).trans b3g
        replace b4g := (el1.blk _ (by omega)).trans b4g
        replace b5g := (el1.blk _ (by omega)).trans b5g
        replace b6g := (el1.blk _ (by omega)).trans b6g
        replace bJ := (el1.blk _ (by omega)).trans bJ
        replace eL := eL.trans el1
        have vl1 := ol1.one
        simp (disch := first | assumption | omega | rfl | (refine id ?_; simp only [gxD, ne_eq, reduceCtorEq, not_false_eq_true, Nat.reduceAdd, *]; done) | (refine id ?_; simp only [gxD]; omega)) only [↓gxPre, gxPost, ↓reduceIte, Nat.reduceEqDiff, reduceCtorEq, Nat.reduceAdd, b0g, b0h, b3g, b4g, b5g, b6g, bJ]
        refine callR_of (w_toPicture_ow ((hv1.ext E).ext eL) m1) ?_
        rintro _ L2 ⟨el2, yl2, rfl, ol2⟩
        have nl2 := el2.n
        replace b0g := (el2.blk _ (by omega)).trans b0g
        replace b0h := (el2.blk _ (by omega)).trans b0h
        replace b3g := (el2.blk _ (by omega)).trans b3g
        replace b4g := (el2.blk _ (by omega)).trans b4g
        replace b5g := (el2.blk _ (by omega)).trans b5g
        replace b6g := (el2.blk _ (by omega)).trans b6g
        replace bJ := (el2.blk _ (by omega)).trans bJ
        replace ol1 := ol1.ext el2
        replace eL := eL.trans el2
        have vl2 := ol2.one
        simp (disch := first | assumption | omega | rfl | (refine id ?_; simp only [gxD, ne_eq, reduceCtorEq, not_false_eq_true, Nat.reduceAdd, *]; done) | (refine id ?_; simp only [gxD]; omega)) only [↓gxPre, gxPost, ↓reduceIte, Nat.reduceEqDiff, reduceCtorEq, Nat.reduceAdd, b0g, b0h, b3g, b4g, b5g, b6g, bJ]
        refine callR_of (i_PutPicture_law ⟨ol1.fs, m0, hw0⟩ b0 d0 ⟨ol2.fs, m1, hw1⟩ b1 d1 b2 b3) ?_
        rintro _ L3 ⟨el3, yr, rfl, orr, qr⟩
        have vr := orr.one
        have nl3 := el3.n
        replace b0g := (el3.blk _ (by omega)).trans b0g
        replace b0h := (el3.blk _ (by omega)).trans b0h
        replace b3g := (el3.blk _ (by omega)).trans b3g
        replace b4g := (el3.blk _ (by omega)).trans b4g
        replace b5g := (el3.blk _ (by omega)).trans b5g
        replace b6g := (el3.blk _ (by omega)).trans b6g
        replace bJ := (el3.blk _ (by omega)).trans bJ
        replace eL := eL.trans el3
        simp (disch := first | assumption | omega | rfl | (refine id ?_; simp only [gxD, ne_eq, reduceCtorEq, not_false_eq_true, Nat.reduceAdd, *]; done) | (refine id ?_; simp only [gxD]; omega)) only [↓gxPre, gxPost, ↓reduceIte, Nat.reduceEqDiff, reduceCtorEq, Nat.reduceAdd, b0g, b0h, b3g, b4g, b5g, b6g, bJ]
        refine callR_put ?_
        intro J nJ bJ2 kJ
        refine key p yr J ?_ ?_ ?_ ?_ ?_ ?_
        · omega
        · omega
        · exact ⟨by have := eL.n; omega, fun i hi => by rw [kJ i (by omega)]; exact eL.blk i hi⟩
        · exact bJ2
        · exact (orr.keep (by omega) fun h hh => kJ h fun e => by have := (orr.hdl hh).1; omega).wide (by omega) (by omega)
        · exact qr
    case kk =>
      intro p17 y17 G17 lp17 hp17 e17 b17g o17 q17
      have n17 := e17.n
      replace b0g := (e17.blk _ (by omega)).trans b0g
      replace b0h := (e17.blk _ (by omega)).trans b0h
      replace b3g := (e17.blk _ (by omega)).trans b3g
      replace b4g := (e17.blk _ (by omega)).trans b4g
      replace b5g := (e17.blk _ (by omega)).trans b5g
      replace b6g := (e17.blk _ (by omega)).trans b6g
      replace o3 := o3.ext e17
      replace o4 := o4.ext e17
      replace o5 := o5.ext e17
      replace o6 := o6.ext e17
      replace E := E.trans e17
      have v17o := o17.one
      refine callR_ext (w_eqPicture_ow o17.fs o3.fs q17) ?_
      intro H18 n18 bb18
      have e18 : Ext G17 H18 := ⟨n18, bb18⟩
      replace b0g := (e18.blk _ (by omega)).trans b0g
      replace b0h := (e18.blk _ (by omega)).trans b0h
      replace b3g := (e18.blk _ (by omega)).trans b3g
      replace b4g := (e18.blk _ (by omega)).trans b4g
      replace b5g := (e18.blk _ (by omega)).trans b5g
      replace b6g := (e18.blk _ (by omega)).trans b6g
      replace b17g := (e18.blk _ (by omega)).trans b17g
      replace o3 := o3.ext e18
      replace o4 := o4.ext e18
      replace o5 := o5.ext e18
      replace o6 := o6.ext e18
      replace o17 := o17.ext e18
      replace E := E.trans e18
      simp (disch := first | assumption | omega | rfl | (refine id ?_; simp only [gxD, ne_eq, reduceCtorEq, not_false_eq_true, Nat.reduceAdd, *]; done) | (refine id ?_; simp only [gxD]; omega)) only [↓gxPre, gxPost, ↓reduceIte, Nat.reduceEqDiff, reduceCtorEq, Nat.reduceAdd, b0g, b0h, b3g, b4g, b5g, b6g, b17g, ne_eq, not_true]
      refine callR_ext (w_heldPicture_ow o6 (by first | omega | (simp only [List.length_map, List.length_range]; omega)) (by first | omega | (simp only [List.length_map, List.length_range]; omega)) (by first | omega | (simp only [List.length_map, List.length_range]; omega))) ?_
      intro H19 n19 bb19
      have e19 : Ext H18 H19 := ⟨n19, bb19⟩
      replace b0g := (e19.blk _ (by omega)).trans b0g
      replace b0h := (e19.blk _ (by omega)).trans b0h
      replace b3g := (e19.blk _ (by omega)).trans b3g
      replace b4g := (e19.blk _ (by omega)).trans b4g
      replace b5g := (e19.blk _ (by omega)).trans b5g
      replace b6g := (e19.blk _ (by omega)).trans b6g
      replace b17g := (e19.blk _ (by omega)).trans b17g
      replace o3 := o3.ext e19
      replace o4 := o4.ext e19
      replace o5 := o5.ext e19
      replace o6 := o6.ext e19
      replace o17 := o17.ext e19
      replace E := E.trans e19
      simp (disch := first | assumption | omega | rfl | (refine id ?_; simp only [gxD, ne_eq, reduceCtorEq, not_false_eq_true, Nat.reduceAdd, *]; done) | (refine id ?_; simp only [gxD]; omega)) only [↓gxPre, gxPost, ↓reduceIte, Nat.reduceEqDiff, reduceCtorEq, Nat.reduceAdd, b0g, b0h, b3g, b4g, b5g, b6g, b17g, ne_eq, not_true]
end Go.Proofs.Ytkojmlpaamdhoab
