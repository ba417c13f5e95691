/- Bands joined, level by level. -/
import Derived.Test.YtkojmlpaamdhoaeJoinLevelsY
namespace Go.Proofs.Ytkojmlpaamdhoae
open Go.Gx
set_option maxRecDepth 100000
set_option linter.unusedSimpArgs false
set_option linter.unusedVariables false

def nowJ (xs : List Nat) (yss : List (List Nat)) (ps : List Nat) : Nat → List Nat := foldI (fun t l => joinL l (yss.getD (yss.length - 1 - t) []) ps) xs
theorem nowJ_succ (xs : List Nat) (yss : List (List Nat)) (ps : List Nat) (t : Nat) : nowJ xs yss ps (t + 1) = joinL (nowJ xs yss ps t) (yss.getD (yss.length - 1 - t) []) ps := rfl
theorem nowJ_len_succ (xs : List Nat) (yss : List (List Nat)) (ps : List Nat) (t : Nat) : (nowJ xs yss ps (t + 1)).length = 2 * (nowJ xs yss ps t).length := joinN_len _ _ _ _ _
theorem det_le {xs : List Nat} {yss : List (List Nat)} (h : validBandsF xs yss = true) : ∀ i, i < yss.length → 1 ≤ (yss.getD i []).length ∧ (yss.getD i []).length ≤ (yss.getD 0 []).length
  | 0, hi => by
    have := (vb_yes h).2.2.2.2.1 0 hi
    simp only [detAt, Bool.and_eq_true, decide_eq_true_eq] at this
    exact ⟨this.1, Nat.le_refl _⟩
  | i + 1, hi => by
    have ih := det_le h i (by omega)
    have := (vb_yes h).2.2.2.2.1 (i + 1) hi
    simp only [detAt, Bool.and_eq_true, Bool.or_eq_true, decide_eq_true_eq] at this
    have h2 := this.2
    simp only [Nat.add_sub_cancel] at h2
    omega
theorem nowJ_len {xs : List Nat} {yss : List (List Nat)} {ps : List Nat} (h : validBandsF xs yss = true) : ∀ t, t < yss.length → (nowJ xs yss ps t).length = (yss.getD (yss.length - 1 - t) []).length
  | 0, ht => by
    have := (vb_yes h).2.2.2.2.2
    simpa [nowJ, foldI_zero] using this
  | t + 1, ht => by
    have ih := nowJ_len (ps := ps) h t (by omega)
    have := (vb_yes h).2.2.2.2.1 (yss.length - 1 - t) (by omega)
    simp only [detAt, Bool.and_eq_true, Bool.or_eq_true, decide_eq_true_eq] at this
    rw [nowJ_len_succ, ih, show yss.length - 1 - (t + 1) = yss.length - 1 - t - 1 by omega]
    omega
def allJ (xs : List Nat) (yss : List (List Nat)) (ps : List Nat) : Bool := (List.range yss.length).all fun t => (nowJ xs yss ps (t + 1)).all finF
def joinLevOk (xs : List Nat) (yss : List (List Nat)) (ps : List Nat) : Bool := validBandsF xs yss && validPairF ps && allJ xs yss ps
theorem i_JoinLevels_ok {H : Heap} {v0 u0 v1 : Value} {xs0 xs1 : List Nat} {ys0 : List (List Nat)} (A : AF H v0 xs0) (B : AS H u0 ys0) (C : AF H v1 xs1) :
    ACalls Try.prog n_i_JoinLevels [.agg #[v0, u0], .agg #[v1]] H fun r H' => ListR fv t_float32 H (joinLevOk xs0 ys0 xs1) (nowJ xs0 ys0 xs1 ys0.length) r H' := by
  have hm := B.le
  have o1 := A.rd.one
  have o2 := B.rd.one'
  have o3 := C.rd.one
  obtain ⟨us, hu, hul, hus⟩ := B.rd
  refine k_i_JoinLevels.run rfl ?_
  unfold c_i_JoinLevels
  simp (disch := first | assumption | omega | rfl | (refine id ?_; simp only [gxD, ne_eq, reduceCtorEq, not_false_eq_true, Nat.reduceAdd, *]; done) | (refine id ?_; simp only [gxD]; omega)) only [↓gxPre, gxPost, ↓reduceIte, Nat.reduceEqDiff, reduceCtorEq, Nat.reduceAdd]
  refine callR_new2 ?_
  intro G e hb hp nn
  refine callR_ext (i_ValidBands_ok (A.rd.ext e) (B.rd.ext e) A.le B.le) ?_
  intro G1 n1 b1
  have e1 : Ext H G1 := e.trans ⟨n1, b1⟩
  have hb1 := (b1 H.n (by omega)).trans hb
  have hp1 := (b1 (H.n + 1) (by omega)).trans hp
  cases h1 : validBandsF xs0 ys0
  · simp (disch := first | assumption | omega | rfl | (refine id ?_; simp only [gxD, ne_eq, reduceCtorEq, not_false_eq_true, Nat.reduceAdd, *]; done) | (refine id ?_; simp only [gxD]; omega)) only [↓gxPre, gxPost, ↓reduceIte, Nat.reduceEqDiff, reduceCtorEq, Nat.reduceAdd]
    exact .no (by simp only [joinLevOk, h1, Bool.false_and]) e1
  have hvb := vb_yes h1
  have hdl := det_le h1
  simp (disch := first | assumption | omega | rfl | (refine id ?_; simp only [gxD, ne_eq, reduceCtorEq, not_false_eq_true, Nat.reduceAdd, *]; done) | (refine id ?_; simp only [gxD]; omega)) only [↓gxPre, gxPost, ↓reduceIte, Nat.reduceEqDiff, reduceCtorEq, Nat.reduceAdd, hp1]
  refine callR_ext (i_ValidPair_ok (C.rd.ext e1) C.le) ?_
  intro K n2 b2
  have eK : Ext H K := e1.trans ⟨n2, b2⟩
  have hbK := (b2 H.n (by omega)).trans hb1
  have hpK := (b2 (H.n + 1) (by omega)).trans hp1
  cases h2 : validPairF xs1
  · simp (disch := first | assumption | omega | rfl | (refine id ?_; simp only [gxD, ne_eq, reduceCtorEq, not_false_eq_true, Nat.reduceAdd, *]; done) | (refine id ?_; simp only [gxD]; omega)) only [↓gxPre, gxPost, ↓reduceIte, Nat.reduceEqDiff, reduceCtorEq, Nat.reduceAdd]
    exact .no (by simp only [joinLevOk, h2, Bool.and_false, Bool.false_and]) eK
  simp (disch := first | assumption | omega | rfl | (refine id ?_; simp only [gxD, ne_eq, reduceCtorEq, not_false_eq_true, Nat.reduceAdd, *]; done) | (refine id ?_; simp only [gxD]; omega)) only [↓gxPre, gxPost, ↓reduceIte, Nat.reduceEqDiff, reduceCtorEq, Nat.reduceAdd, hbK, hu.len, hul]
  refine loop_st (σ := Nat × Value) (fun s => [.pointer (some ⟨H.n, 0, some 2⟩), .pointer (some ⟨H.n + 1, 0, some 1⟩), s.2, .int .i64 ((ys0.length : Int) - 1 - s.1)])
    (fun s G => s.1 ≤ ys0.length ∧ Ext K G ∧ FS G s.2 (nowJ xs0 ys0 xs1 s.1) ∧ (nowJ xs0 ys0 xs1 s.1).all finF = true ∧ (0 < s.1 → OwL H.n G.n G t_float32 s.2 ((nowJ xs0 ys0 xs1 s.1).map fv)) ∧ ∀ t, t < s.1 → (nowJ xs0 ys0 xs1 (t + 1)).all finF = true)
    (fun s => ys0.length - s.1) (0, v0) (by simp) ⟨by omega, .refl _, A.rd.ext eK, hvb.2.2.1, by intros; omega, by intros; omega⟩ ?_
  rintro ⟨t, v⟩ G3 ⟨ht, hE, hv, hf, ho, hJ⟩
  simp only at ht hv hf ho hJ ⊢
  have hb3 := (hE.blk H.n (by omega)).trans hbK
  have hp3 := (hE.blk (H.n + 1) (by omega)).trans hpK
  by_cases c1 : t < ys0.length
  rotate_left
  · have htn : t = ys0.length := by omega
    subst htn
    have : ¬ (0 : Int) ≤ (ys0.length : Int) - 1 - ys0.length := by omega
    have hl := nowJ_len (ps := xs1) h1 (ys0.length - 1) (by omega)
    have hd0 := hdl (ys0.length - 1 - (ys0.length - 1)) (by omega)
    have hl2 := nowJ_len_succ xs0 ys0 xs1 (ys0.length - 1)
    rw [show ys0.length - 1 + 1 = ys0.length by omega] at hl2
    have ov := hv.one
    simp (disch := first | assumption | omega | rfl | (refine id ?_; simp only [gxD, ne_eq, reduceCtorEq, not_false_eq_true, Nat.reduceAdd, *]; done) | (refine id ?_; simp only [gxD]; omega)) only [↓gxPre, gxPost, ↓reduceIte, Nat.reduceEqDiff, reduceCtorEq, Nat.reduceAdd, this]
    exact .yes (by simp only [joinLevOk, h1, h2, allJ, allR.2 hJ, Bool.and_true]) (eK.trans hE) (ho (by omega)) (by omega)
  · have c2 : (0 : Int) ≤ (ys0.length : Int) - 1 - t := by omega
    have e2 : ((ys0.length : Int) - 1 - t).toNat = ys0.length - 1 - t := by omega
    have hj : ys0.length - 1 - t < ys0.length := by omega
    have hl := nowJ_len (ps := xs1) h1 t c1
    have hd := hdl _ hj
    have hu' := (hu.ext eK).ext hE
    have hok : joinOk (nowJ xs0 ys0 xs1 t) (ys0.getD (ys0.length - 1 - t) []) xs1 = (nowJ xs0 ys0 xs1 (t + 1)).all finF := by
      unfold joinOk
      rw [within_true.2 ⟨by omega, by omega⟩, decide_eq_true hl.symm, hf, hvb.2.2.2.1 _ hj, h2]
      rfl
    simp (disch := first | assumption | omega | rfl | (refine id ?_; simp only [gxD, ne_eq, reduceCtorEq, not_false_eq_true, Nat.reduceAdd, *]; done) | (refine id ?_; simp only [gxD]; omega)) only [↓gxPre, gxPost, ↓reduceIte, Nat.reduceEqDiff, reduceCtorEq, Nat.reduceAdd, c2, hb3, hp3, hu'.ia, hu'.ldD, hul, e2]
    refine callR_of (i_JoinRing_ok ⟨hv, by omega⟩ ⟨((hus _ hj).ext eK).ext hE, totL_row hm _⟩ ⟨(C.rd.ext eK).ext hE, C.le⟩) ?_
    rw [hok]
    rintro _ G4 ⟨e4, v', rfl, o4, q4⟩
    cases hf2 : (nowJ xs0 ys0 xs1 (t + 1)).all finF
    · rw [hf2] at o4
      have hno : allJ xs0 ys0 xs1 = false := allR_false (p := fun t => (nowJ xs0 ys0 xs1 (t + 1)).all finF) c1 hf2
      simp (disch := first | assumption | omega | rfl | (refine id ?_; simp only [gxD, ne_eq, reduceCtorEq, not_false_eq_true, Nat.reduceAdd, *]; done) | (refine id ?_; simp only [gxD]; omega)) only [↓gxPre, gxPost, ↓reduceIte, Nat.reduceEqDiff, reduceCtorEq, Nat.reduceAdd]
      exact .no (by simp only [joinLevOk, hno, Bool.and_false]) ((eK.trans hE).trans e4)
    · rw [hf2] at o4
      simp (disch := first | assumption | omega | rfl | (refine id ?_; simp only [gxD, ne_eq, reduceCtorEq, not_false_eq_true, Nat.reduceAdd, *]; done) | (refine id ?_; simp only [gxD]; omega)) only [↓gxPre, gxPost, ↓reduceIte, Nat.reduceEqDiff, reduceCtorEq, Nat.reduceAdd]
      refine ⟨(t + 1, v'), by simp only; omega, ?_, by simp only; omega, hE.trans e4, OwL.fs o4, hf2, fun _ => o4.wide (by have := eK.n; have := hE.n; omega) (Nat.le_refl _), fun s hs => ?_⟩
      · simp; omega
      · by_cases hst : s = t
        · rw [hst]; exact hf2
        · exact hJ s (by simp only at hs; omega)
theorem i_JoinLevels_law {H : Heap} {v0 u0 v1 : Value} {xs0 xs1 : List Nat} {ys0 : List (List Nat)} (A : AF H v0 xs0) (B : AS H u0 ys0) (C : AF H v1 xs1) :
    ACalls Try.prog n_i_JoinLevels [.agg #[v0, u0], .agg #[v1]] H fun r H' => ListR fv t_float32 H (joinLevOk xs0 ys0 xs1) (nowJ xs0 ys0 xs1 ys0.length) r H' := i_JoinLevels_ok A B C
theorem s_l03Levels_ok {H : Heap} {a b : Nat} {oa ob : Bool} {ta tb : TypeId} {v0 u0 v1 : Value} {xs0 xs1 : List Nat} {ys0 : List (List Nat)} (hb : H.blk a = some ⟨oa, ta, [v0, u0]⟩) (ha : a < H.n) (hp : H.blk b = some ⟨ob, tb, [v1]⟩) (hbn : b < H.n) (A : AG H v0 xs0) (B0 : SS H u0 ys0) (hm : totL ys0 ≤ 2 ^ 40) (C : AG H v1 xs1)
    (h1 : validBandsF xs0 ys0 = true) (h2 : validPairF xs1 = true) :
    ACalls Try.prog n_s_l03Levels [.pointer (some ⟨a, 0, some 2⟩), .pointer (some ⟨b, 0, some 1⟩)] H fun r H' => ListR fv t_float32 H (allJ xs0 ys0 xs1) (nowJ xs0 ys0 xs1 ys0.length) r H' := by
  have hvb := vb_yes h1
  have hdl := det_le h1
  have hpl := vp_len h2
  have hAl := A.le
  obtain ⟨us, hu, hul, hus⟩ := B0
  refine k_s_l03Levels.run rfl ?_
  unfold c_s_l03Levels
  have hr := (A.rd.ext (.new H ⟨true, t_float32, []⟩)).read
  simp (disch := first | assumption | omega | rfl | (refine id ?_; simp only [gxD, ne_eq, reduceCtorEq, not_false_eq_true, Nat.reduceAdd, *]; done) | (refine id ?_; simp only [gxD]; omega)) only [↓gxPre, gxPost, ↓reduceIte, Nat.reduceEqDiff, reduceCtorEq, Nat.reduceAdd, hb, hr, List.nil_append, lMapN, hu.len, hul]
  have eK : Ext H (H.new ⟨true, t_float32, xs0.map fv⟩) := .new _ _
  refine loop_st (σ := Nat × Value) (fun s => [.pointer (some ⟨a, 0, some 2⟩), .pointer (some ⟨b, 0, some 1⟩), s.2, .int .i64 ((ys0.length : Int) - 1 - s.1)])
    (fun s G => s.1 ≤ ys0.length ∧ Ext H G ∧ OwL H.n G.n G t_float32 s.2 ((nowJ xs0 ys0 xs1 s.1).map fv) ∧ ∀ t, t < s.1 → (nowJ xs0 ys0 xs1 (t + 1)).all finF = true)
    (fun s => ys0.length - s.1) (0, .slice (some ⟨H.n, 0, none⟩) xs0.length xs0.length) (by simp) ⟨by omega, eK, .mk (new_self _ _) (by simp [nowJ, foldI_zero]) (by omega) (by simp [new_n]) (by simp [new_n]), by intros; omega⟩ ?_
  rintro ⟨t, v⟩ G3 ⟨ht, hE, ho, hJ⟩
  simp only at ht ho hJ ⊢
  have hb3 := (hE.blk a ha).trans hb
  have hp3 := (hE.blk b hbn).trans hp
  have hv := OwL.fs ho
  by_cases c1 : t < ys0.length
  rotate_left
  · have htn : t = ys0.length := by omega
    subst htn
    have : ¬ (0 : Int) ≤ (ys0.length : Int) - 1 - ys0.length := by omega
    have hl := nowJ_len (ps := xs1) h1 (ys0.length - 1) (by omega)
    have hd0 := hdl (ys0.length - 1 - (ys0.length - 1)) (by omega)
    have hl2 := nowJ_len_succ xs0 ys0 xs1 (ys0.length - 1)
    rw [show ys0.length - 1 + 1 = ys0.length by omega] at hl2
    have ov := ho.one
    simp (disch := first | assumption | omega | rfl | (refine id ?_; simp only [gxD, ne_eq, reduceCtorEq, not_false_eq_true, Nat.reduceAdd, *]; done) | (refine id ?_; simp only [gxD]; omega)) only [↓gxPre, gxPost, ↓reduceIte, Nat.reduceEqDiff, reduceCtorEq, Nat.reduceAdd, this]
    exact .yes (by simp only [allJ, allR.2 hJ]) hE ho (by omega)
  · have c2 : (0 : Int) ≤ (ys0.length : Int) - 1 - t := by omega
    have e2 : ((ys0.length : Int) - 1 - t).toNat = ys0.length - 1 - t := by omega
    have hj : ys0.length - 1 - t < ys0.length := by omega
    have hl := nowJ_len (ps := xs1) h1 t c1
    have hd := hdl _ hj
    have hu' := hu.ext hE
    have hl3 := nowJ_len_succ xs0 ys0 xs1 t
    simp (disch := first | assumption | omega | rfl | (refine id ?_; simp only [gxD, ne_eq, reduceCtorEq, not_false_eq_true, Nat.reduceAdd, *]; done) | (refine id ?_; simp only [gxD]; omega)) only [↓gxPre, gxPost, ↓reduceIte, Nat.reduceEqDiff, reduceCtorEq, Nat.reduceAdd, c2, hb3, hp3, hu'.ia, hu'.ldD, hul, e2]
    refine callR_of (s_l03Join_ok hp3 (by have := hE.n; omega) hv ((hus _ hj).ext hE) (C.rd.ext hE) (by omega) (by omega) (by omega) (by omega)) ?_
    rintro _ G4 ⟨e4, k, k1, k2, rfl, c4⟩
    have hk4 := e4.n
    have hkE := hE.n
    have c5 : G4.blk k = some ⟨true, t_float32, (nowJ xs0 ys0 xs1 (t + 1)).map fv⟩ := c4
    simp (disch := first | assumption | omega | rfl | (refine id ?_; simp only [gxD, ne_eq, reduceCtorEq, not_false_eq_true, Nat.reduceAdd, *]; done) | (refine id ?_; simp only [gxD]; omega)) only [↓gxPre, gxPost, ↓reduceIte, Nat.reduceEqDiff, reduceCtorEq, Nat.reduceAdd]
    refine callR_pure (s_l02Finite_ok (xs := nowJ xs0 ys0 xs1 (t + 1)) (FS.own c5 k2 (by omega)) (by omega)) (.inl rfl) ?_
    cases hf2 : (nowJ xs0 ys0 xs1 (t + 1)).all finF
    · have hno : allJ xs0 ys0 xs1 = false := allR_false (p := fun t => (nowJ xs0 ys0 xs1 (t + 1)).all finF) c1 hf2
      simp (disch := first | assumption | omega | rfl | (refine id ?_; simp only [gxD, ne_eq, reduceCtorEq, not_false_eq_true, Nat.reduceAdd, *]; done) | (refine id ?_; simp only [gxD]; omega)) only [↓gxPre, gxPost, ↓reduceIte, Nat.reduceEqDiff, reduceCtorEq, Nat.reduceAdd]
      exact .no hno (hE.trans e4)
    · simp (disch := first | assumption | omega | rfl | (refine id ?_; simp only [gxD, ne_eq, reduceCtorEq, not_false_eq_true, Nat.reduceAdd, *]; done) | (refine id ?_; simp only [gxD]; omega)) only [↓gxPre, gxPost, ↓reduceIte, Nat.reduceEqDiff, reduceCtorEq, Nat.reduceAdd]
      refine ⟨(t + 1, .slice (some ⟨k, 0, none⟩) (2 * (nowJ xs0 ys0 xs1 t).length) (2 * (nowJ xs0 ys0 xs1 t).length)), by simp only; omega, ?_, by simp only; omega, hE.trans e4, .mk c5 (by simpa using hl3) (by omega) k2 k2, fun s hs => ?_⟩
      · simp; omega
      · by_cases hst : s = t
        · rw [hst]; exact hf2
        · exact hJ s (by simp only at hs; omega)
theorem s_JoinLevels_law {H : Heap} {v0 u0 v1 : Value} {xs0 xs1 : List Nat} {ys0 : List (List Nat)} (A : AF H v0 xs0) (B : AS H u0 ys0) (C : AF H v1 xs1) :
    ACalls Try.prog n_s_JoinLevels [.agg #[v0, u0], .agg #[v1]] H fun r H' => ListR fv t_float32 H (joinLevOk xs0 ys0 xs1) (nowJ xs0 ys0 xs1 ys0.length) r H' := by
  have o1 := A.rd.one
  have o2 := B.rd.one'
  have o3 := C.rd.one
  refine k_s_JoinLevels.run rfl ?_
  unfold c_s_JoinLevels
  simp (disch := first | assumption | omega | rfl | (refine id ?_; simp only [gxD, ne_eq, reduceCtorEq, not_false_eq_true, Nat.reduceAdd, *]; done) | (refine id ?_; simp only [gxD]; omega)) only [↓gxPre, gxPost, ↓reduceIte, Nat.reduceEqDiff, reduceCtorEq, Nat.reduceAdd]
  refine callR_new2 ?_
  intro G e hb hp nn
  refine callR_pure (s_l03Bands_ok hb (A.rd.ext e) (B.rd.ext e) A.le B.le) (.inl rfl) ?_
  cases h1 : validBandsF xs0 ys0
  · simp (disch := first | assumption | omega | rfl | (refine id ?_; simp only [gxD, ne_eq, reduceCtorEq, not_false_eq_true, Nat.reduceAdd, *]; done) | (refine id ?_; simp only [gxD]; omega)) only [↓gxPre, gxPost, ↓reduceIte, Nat.reduceEqDiff, reduceCtorEq, Nat.reduceAdd]
    exact .no (by simp only [joinLevOk, h1, Bool.false_and]) e
  simp (disch := first | assumption | omega | rfl | (refine id ?_; simp only [gxD, ne_eq, reduceCtorEq, not_false_eq_true, Nat.reduceAdd, *]; done) | (refine id ?_; simp only [gxD]; omega)) only [↓gxPre, gxPost, ↓reduceIte, Nat.reduceEqDiff, reduceCtorEq, Nat.reduceAdd]
  refine callR_pure (s_l03Pair_ok hp (C.rd.ext e) C.le) (.inl rfl) ?_
  cases h2 : validPairF xs1
  · simp (disch := first | assumption | omega | rfl | (refine id ?_; simp only [gxD, ne_eq, reduceCtorEq, not_false_eq_true, Nat.reduceAdd, *]; done) | (refine id ?_; simp only [gxD]; omega)) only [↓gxPre, gxPost, ↓reduceIte, Nat.reduceEqDiff, reduceCtorEq, Nat.reduceAdd]
    exact .no (by simp only [joinLevOk, h2, Bool.and_false, Bool.false_and]) e
  simp (disch := first | assumption | omega | rfl | (refine id ?_; simp only [gxD, ne_eq, reduceCtorEq, not_false_eq_true, Nat.reduceAdd, *]; done) | (refine id ?_; simp only [gxD]; omega)) only [↓gxPre, gxPost, ↓reduceIte, Nat.reduceEqDiff, reduceCtorEq, Nat.reduceAdd]
  refine callR_of (s_l03Levels_ok hb (by omega) hp (by omega) ⟨A.rd.ext e, A.le⟩ (B.rd.ext e) B.le ⟨C.rd.ext e, C.le⟩ h1 h2) ?_
  rintro _ G2 ⟨e2, v, rfl, o, q⟩
  have ov := o.one
  have hk : joinLevOk xs0 ys0 xs1 = allJ xs0 ys0 xs1 := by simp only [joinLevOk, h1, h2, Bool.true_and]
  rw [hk]
  simp (disch := first | assumption | omega | rfl | (refine id ?_; simp only [gxD, ne_eq, reduceCtorEq, not_false_eq_true, Nat.reduceAdd, *]; done) | (refine id ?_; simp only [gxD]; omega)) only [↓gxPre, gxPost, ↓reduceIte, Nat.reduceEqDiff, reduceCtorEq, Nat.reduceAdd]
  exact ⟨e.trans e2, v, rfl, o.wide (by omega) (Nat.le_refl _), q⟩
end Go.Proofs.Ytkojmlpaamdhoae
