/- Rings joined; parts of pictures. -/
import Derived.Test.YtkojmlpaamdhoaeJoinLevelsX
namespace Go.Proofs.Ytkojmlpaamdhoae
open Go.Gx
set_option maxRecDepth 100000
set_option linter.unusedSimpArgs false
set_option linter.unusedVariables false

structure AG (H : Heap) (v : Value) (xs : List Nat) : Prop where
  rd : FS H v xs
  le : xs.length ≤ 2 ^ 40
theorem AF_g {H : Heap} {v : Value} {xs : List Nat} (a : AF H v xs) : AG H v xs := ⟨a.rd, a.le⟩
theorem s_l03Join_ok {H : Heap} {h : Nat} {own : Bool} {ty : TypeId} {v u p : Value} {lo hi ps : List Nat} (hb : H.blk h = some ⟨own, ty, [p]⟩) (hh : h < H.n) (hv : FS H v lo) (hu : FS H u hi) (hp : FS H p ps) (h1 : 1 ≤ lo.length) (h2 : lo.length ≤ 2 ^ 30) (h3 : hi.length = lo.length) (h4 : ps.length ≤ 2 ^ 30) :
    ACalls Try.prog n_s_l03Join [v, u, .pointer (some ⟨h, 0, some 1⟩)] H fun r H' => Ext H H' ∧ ∃ k, H.n ≤ k ∧ k < H'.n ∧ r = .slice (some ⟨k, 0, none⟩) (2 * lo.length) (2 * lo.length) ∧ H'.blk k = some ⟨true, t_float32, (joinL lo hi ps).map fv⟩ := by
  have lh := highL_length ps
  have em : eMks t_float32 4 (.float .f32 0) = eMks t_float32 4 (.float .f32 0) := rfl
  refine k_s_l03Join.run rfl ?_
  unfold c_s_l03Join
  simp (disch := first | assumption | omega | rfl | (refine id ?_; simp only [gxD, ne_eq, reduceCtorEq, not_false_eq_true, Nat.reduceAdd, *]; done) | (refine id ?_; simp only [gxD]; omega)) only [↓gxPre, gxPost, ↓reduceIte, Nat.reduceEqDiff, reduceCtorEq, Nat.reduceAdd, hv.len]
  refine callR_of (s_l03High_ok hb hh hp (by omega)) ?_
  rintro _ K ⟨eK, rfl, nK, cK⟩
  have hbK := (eK.blk h hh).trans hb
  have hQ : FS K (.slice (some ⟨H.n, 0, none⟩) ps.length ps.length) (highL ps) := FS.own cK (by omega) lh
  have hmk : ∀ G, eMks t_float32 4 (.float .f32 0) (.int .i64 (2 * (lo.length : Int))) (.int .i64 (2 * (lo.length : Int))) G = some (.slice (some ⟨G.n, 0, none⟩) (2 * lo.length) (2 * lo.length), G.new ⟨true, t_float32, List.replicate (2 * lo.length) (.float .f32 0)⟩) := fun G => by
    have := eMks_i (ety := t_float32) (bytes := 4) (zero := .float .f32 0) (n := 2 * lo.length) (H := G) (by omega)
    rwa [show ((2 * lo.length : Nat) : Int) = 2 * (lo.length : Int) by omega] at this
  simp (disch := first | assumption | omega | rfl | (refine id ?_; simp only [gxD, ne_eq, reduceCtorEq, not_false_eq_true, Nat.reduceAdd, *]; done) | (refine id ?_; simp only [gxD]; omega)) only [↓gxPre, gxPost, ↓reduceIte, Nat.reduceEqDiff, reduceCtorEq, Nat.reduceAdd, hmk, hv.len]
  refine loop_forH lo.length (fun j => [v, u, .pointer (some ⟨h, 0, some 1⟩), .int .i64 (2 * (lo.length : Int)), .slice (some ⟨H.n, 0, none⟩) ps.length ps.length, .slice (some ⟨K.n, 0, none⟩) (2 * lo.length) (2 * lo.length), .int .i64 lo.length, .int .i64 j])
    (fun j G => K.n + 1 ≤ G.n ∧ Ext K G ∧ G.blk K.n = some ⟨true, t_float32, (joinN lo hi ps (highL ps) j).map fv⟩) rfl ⟨by simp only [new_n]; omega, ⟨by first | omega | (simp only [new_n, put_n]; omega) | (simp only [new_n, put_n] at *; omega), fun i hi => by simp (disch := first | assumption | omega | rfl | (refine id ?_; simp only [gxD, ne_eq, reduceCtorEq, not_false_eq_true, Nat.reduceAdd, *]; done) | (refine id ?_; simp only [gxD]; omega)) only [↓gxPre, gxPost, ↓reduceIte, Nat.reduceEqDiff, reduceCtorEq, Nat.reduceAdd, *]⟩, by rw [new_self, rep_fv]; rfl⟩ ?_ ?_
  · rintro G ⟨hG, hE, hc⟩
    simp (disch := first | assumption | omega | rfl | (refine id ?_; simp only [gxD, ne_eq, reduceCtorEq, not_false_eq_true, Nat.reduceAdd, *]; done) | (refine id ?_; simp only [gxD]; omega)) only [↓gxPre, gxPost, ↓reduceIte, Nat.reduceEqDiff, reduceCtorEq, Nat.reduceAdd, Int.lt_irrefl]
    exact ⟨eK.trans hE, K.n, by have := eK.n; omega, by omega, rfl, hc⟩
  · rintro j G hj ⟨hG, hE, hc⟩
    have hbG := (hE.blk h (by have := eK.n; omega)).trans hbK
    simp (disch := first | assumption | omega | rfl | (refine id ?_; simp only [gxD, ne_eq, reduceCtorEq, not_false_eq_true, Nat.reduceAdd, *]; done) | (refine id ?_; simp only [gxD]; omega)) only [↓gxPre, gxPost, ↓reduceIte, Nat.reduceEqDiff, reduceCtorEq, Nat.reduceAdd, hbG, ((hp.ext eK).ext hE).len]
    refine loop_forH ps.length (fun k => [v, u, .pointer (some ⟨h, 0, some 1⟩), .int .i64 (2 * (lo.length : Int)), .slice (some ⟨H.n, 0, none⟩) ps.length ps.length, .slice (some ⟨K.n, 0, none⟩) (2 * lo.length) (2 * lo.length), .int .i64 j, .int .i64 lo.length, .int .i64 j, .int .i64 ps.length, .int .i64 k])
      (fun k G => K.n + 1 ≤ G.n ∧ Ext K G ∧ G.blk K.n = some ⟨true, t_float32, (joinJ lo hi ps (highL ps) (joinN lo hi ps (highL ps) j) j k).map fv⟩) rfl ⟨hG, hE, hc⟩ ?_ ?_
    · rintro G ⟨hG, hE, hc⟩
      simp (disch := first | assumption | omega | rfl | (refine id ?_; simp only [gxD, ne_eq, reduceCtorEq, not_false_eq_true, Nat.reduceAdd, *]; done) | (refine id ?_; simp only [gxD]; omega)) only [↓gxPre, gxPost, ↓reduceIte, Nat.reduceEqDiff, reduceCtorEq, Nat.reduceAdd, Int.lt_irrefl]
      exact ⟨by simp, hG, hE, hc⟩
    · rintro k G hk ⟨hG, hE, hc⟩
      have hv0 := (hv.ext eK).ext hE
      have hu0 := (hu.ext eK).ext hE
      have hp0 := (hp.ext eK).ext hE
      have hq0 := hQ.ext hE
      have hbG := (hE.blk h (by have := eK.n; omega)).trans hbK
      have hmod : (2 * j + k) % (2 * lo.length) < 2 * lo.length := Nat.mod_lt _ (by omega)
      have ln : (joinJ lo hi ps (highL ps) (joinN lo hi ps (highL ps) j) j k).length = 2 * lo.length := by rw [joinJ_len, joinN_len]
      have ln' : ((joinJ lo hi ps (highL ps) (joinN lo hi ps (highL ps) j) j k).map fv).length = 2 * lo.length := by rw [lMapN, ln]
      have ha := fv_at (xs := joinJ lo hi ps (highL ps) (joinN lo hi ps (highL ps) j) j k) (i := (2 * j + k) % (2 * lo.length)) (by omega)
      have hi1 : (2 * (j : Int) + (k : Int)).tmod (2 * (lo.length : Int)) = (((2 * j + k) % (2 * lo.length) : Nat) : Int) := by
        have := ring_ix (2 * lo.length) j k
        rwa [show ((2 * lo.length : Nat) : Int) = 2 * (lo.length : Int) by omega] at this
      have hs : ((joinJ lo hi ps (highL ps) (joinN lo hi ps (highL ps) j) j k).map fv).set ((2 * j + k) % (2 * lo.length)) (.float .f32 (fbin .add .f32 ((joinJ lo hi ps (highL ps) (joinN lo hi ps (highL ps) j) j k).getD ((2 * j + k) % (2 * lo.length)) 0) (fbin .add .f32 (fbin .mul .f32 (ps.getD k 0) (lo.getD j 0)) (fbin .mul .f32 ((highL ps).getD k 0) (hi.getD j 0))))) = (joinJ lo hi ps (highL ps) (joinN lo hi ps (highL ps) j) j (k + 1)).map fv := by
        rw [fv_set', joinJ_succ]; rfl
      simp (disch := first | assumption | omega | rfl | (refine id ?_; simp only [gxD, ne_eq, reduceCtorEq, not_false_eq_true, Nat.reduceAdd, *]; done) | (refine id ?_; simp only [gxD]; omega)) only [↓gxPre, gxPost, ↓reduceIte, Nat.reduceEqDiff, reduceCtorEq, Nat.reduceAdd, hi1, hbG, hv0.ia, hv0.ld, hu0.ia, hu0.ld, hp0.ia, hp0.ld, hq0.ia, hq0.ld, hc, ha]
      exact ⟨by simp, hG, hE.put (Nat.le_refl _) _, by rw [hs]⟩
theorem i_JoinRing_ok {H : Heap} {v0 v1 v2 : Value} {xs0 xs1 xs2 : List Nat} (A : AG H v0 xs0) (B : AG H v1 xs1) (C : AG H v2 xs2) : ACalls Try.prog n_i_JoinRing [v0, v1, .agg #[v2]] H fun r H' => ListR fv t_float32 H (joinOk xs0 xs1 xs2) (joinL xs0 xs1 xs2) r H' := by
  have o1 := A.rd.one
  have o2 := B.rd.one
  have o3 := C.rd.one
  refine k_i_JoinRing.run rfl ?_
  unfold c_i_JoinRing
  simp (disch := first | assumption | omega | rfl | (refine id ?_; simp only [gxD, ne_eq, reduceCtorEq, not_false_eq_true, Nat.reduceAdd, *]; done) | (refine id ?_; simp only [gxD]; omega)) only [↓gxPre, gxPost, ↓reduceIte, Nat.reduceEqDiff, reduceCtorEq, Nat.reduceAdd, A.rd.len]
  refine callR_new ?_
  intro G e hb nn
  refine callR_pure (i_within_ok) (by first | exact Or.inl rfl | (simp (disch := first | assumption | omega | rfl | (refine id ?_; simp only [gxD, ne_eq, reduceCtorEq, not_false_eq_true, Nat.reduceAdd, *]; done) | (refine id ?_; simp only [gxD]; omega)) only [↓gxPre, gxPost, ↓reduceIte, Nat.reduceEqDiff, reduceCtorEq, Nat.reduceAdd, *]; done)) ?_
  simp (disch := first | assumption | omega | rfl | (refine id ?_; simp only [gxD, ne_eq, reduceCtorEq, not_false_eq_true, Nat.reduceAdd, *]; done) | (refine id ?_; simp only [gxD]; omega)) only [↓gxPre, gxPost, ↓reduceIte, Nat.reduceEqDiff, reduceCtorEq, Nat.reduceAdd, *]
  cases h1 : within xs0.length 1 64
  · simp (disch := first | assumption | omega | rfl | (refine id ?_; simp only [gxD, ne_eq, reduceCtorEq, not_false_eq_true, Nat.reduceAdd, *]; done) | (refine id ?_; simp only [gxD]; omega)) only [↓gxPre, gxPost, ↓reduceIte, Nat.reduceEqDiff, reduceCtorEq, Nat.reduceAdd]
    exact .no (by simp only [joinOk, h1, Bool.false_and]) e
  have h1' := within_true.1 h1
  by_cases h2 : xs1.length = xs0.length
  rotate_left
  · have h2' : ¬ (xs1.length : Int) = xs0.length := by omega
    simp (disch := first | assumption | omega | rfl | (refine id ?_; simp only [gxD, ne_eq, reduceCtorEq, not_false_eq_true, Nat.reduceAdd, *]; done) | (refine id ?_; simp only [gxD]; omega)) only [↓gxPre, gxPost, ↓reduceIte, Nat.reduceEqDiff, reduceCtorEq, Nat.reduceAdd, A.rd.len, B.rd.len, h2', ne_eq, not_false_eq_true]
    exact .no (by simp only [joinOk, decide_eq_false h2, Bool.and_false, Bool.false_and]) e
  have h2' : (xs1.length : Int) = xs0.length := by omega
  simp (disch := first | assumption | omega | rfl | (refine id ?_; simp only [gxD, ne_eq, reduceCtorEq, not_false_eq_true, Nat.reduceAdd, *]; done) | (refine id ?_; simp only [gxD]; omega)) only [↓gxPre, gxPost, ↓reduceIte, Nat.reduceEqDiff, reduceCtorEq, Nat.reduceAdd, A.rd.len, B.rd.len, h2', ne_eq, not_true]
  refine callR_new ?_
  intro G1 e1 hb1 nn1
  have eA := e.trans e1
  have hbG := (e1.blk H.n (by omega)).trans hb
  refine callR_pure (i_areFinite2_ok hb1 (by omega) (A.rd.ext eA) (B.rd.ext eA) A.le B.le) (.inl rfl) ?_
  cases h3 : (xs0.all finF && xs1.all finF)
  · simp (disch := first | assumption | omega | rfl | (refine id ?_; simp only [gxD, ne_eq, reduceCtorEq, not_false_eq_true, Nat.reduceAdd, *]; done) | (refine id ?_; simp only [gxD]; omega)) only [↓gxPre, gxPost, ↓reduceIte, Nat.reduceEqDiff, reduceCtorEq, Nat.reduceAdd]
    exact .no (by simp only [joinOk, h3, Bool.and_false, Bool.false_and]) eA
  simp (disch := first | assumption | omega | rfl | (refine id ?_; simp only [gxD, ne_eq, reduceCtorEq, not_false_eq_true, Nat.reduceAdd, *]; done) | (refine id ?_; simp only [gxD]; omega)) only [↓gxPre, gxPost, ↓reduceIte, Nat.reduceEqDiff, reduceCtorEq, Nat.reduceAdd, hbG]
  refine callR_ext (i_ValidPair_ok (C.rd.ext eA) C.le) ?_
  intro G2 n2 b2
  have e2 : Ext H G2 := eA.trans ⟨n2, b2⟩
  have hb2 := (b2 H.n (by omega)).trans hbG
  cases h4 : validPairF xs2
  · simp (disch := first | assumption | omega | rfl | (refine id ?_; simp only [gxD, ne_eq, reduceCtorEq, not_false_eq_true, Nat.reduceAdd, *]; done) | (refine id ?_; simp only [gxD]; omega)) only [↓gxPre, gxPost, ↓reduceIte, Nat.reduceEqDiff, reduceCtorEq, Nat.reduceAdd]
    exact .no (by simp only [joinOk, h4, Bool.and_false, Bool.false_and]) e2
  have hp := vp_len h4
  simp (disch := first | assumption | omega | rfl | (refine id ?_; simp only [gxD, ne_eq, reduceCtorEq, not_false_eq_true, Nat.reduceAdd, *]; done) | (refine id ?_; simp only [gxD]; omega)) only [↓gxPre, gxPost, ↓reduceIte, Nat.reduceEqDiff, reduceCtorEq, Nat.reduceAdd, hb2]
  refine callR_of (i_highOf_ok (C.rd.ext e2) C.le) ?_
  rintro _ K ⟨eK', rfl, nK, cK⟩
  have eK := e2.trans eK'
  have hbK := (eK'.blk H.n (by omega)).trans hb2
  have lh := highL_length xs2
  have hK0 : H.n < K.n := by omega
  have hQ : FS K (.slice (some ⟨G2.n + 1, 0, none⟩) xs2.length xs2.length) (highL xs2) := FS.own cK (by omega) lh
  have hmk : ∀ G, eMks t_float32 4 (.float .f32 0) (.int .i64 (2 * (xs0.length : Int))) (.int .i64 (2 * (xs0.length : Int))) G = some (.slice (some ⟨G.n, 0, none⟩) (2 * xs0.length) (2 * xs0.length), G.new ⟨true, t_float32, List.replicate (2 * xs0.length) (.float .f32 0)⟩) := fun G => by
    have := eMks_i (ety := t_float32) (bytes := 4) (zero := .float .f32 0) (n := 2 * xs0.length) (H := G) (by omega)
    rwa [show ((2 * xs0.length : Nat) : Int) = 2 * (xs0.length : Int) by omega] at this
  simp (disch := first | assumption | omega | rfl | (refine id ?_; simp only [gxD, ne_eq, reduceCtorEq, not_false_eq_true, Nat.reduceAdd, *]; done) | (refine id ?_; simp only [gxD]; omega)) only [↓gxPre, gxPost, ↓reduceIte, Nat.reduceEqDiff, reduceCtorEq, Nat.reduceAdd, hmk, A.rd.len]
  refine loop_forH xs0.length (fun j => [v0, v1, .pointer (some ⟨H.n, 0, some 1⟩), .slice (some ⟨G2.n + 1, 0, none⟩) xs2.length xs2.length, .int .i64 (2 * (xs0.length : Int)), .slice (some ⟨K.n, 0, none⟩) (2 * xs0.length) (2 * xs0.length), .int .i64 xs0.length, .int .i64 j])
    (fun j G => K.n + 1 ≤ G.n ∧ Ext K G ∧ G.blk K.n = some ⟨true, t_float32, (joinN xs0 xs1 xs2 (highL xs2) j).map fv⟩) rfl ⟨by simp only [new_n]; omega, ⟨by first | omega | (simp only [new_n, put_n]; omega) | (simp only [new_n, put_n] at *; omega), fun i hi => by simp (disch := first | assumption | omega | rfl | (refine id ?_; simp only [gxD, ne_eq, reduceCtorEq, not_false_eq_true, Nat.reduceAdd, *]; done) | (refine id ?_; simp only [gxD]; omega)) only [↓gxPre, gxPost, ↓reduceIte, Nat.reduceEqDiff, reduceCtorEq, Nat.reduceAdd, *]⟩, by rw [new_self, rep_fv]; rfl⟩ ?_ ?_
  · rintro G3 ⟨hG, hE, hc⟩
    have ln : (joinL xs0 xs1 xs2).length = 2 * xs0.length := joinN_len _ _ _ _ _
    simp (disch := first | assumption | omega | rfl | (refine id ?_; simp only [gxD, ne_eq, reduceCtorEq, not_false_eq_true, Nat.reduceAdd, *]; done) | (refine id ?_; simp only [gxD]; omega)) only [↓gxPre, gxPost, ↓reduceIte, Nat.reduceEqDiff, reduceCtorEq, Nat.reduceAdd, Int.lt_irrefl]
    refine callR_ext (i_finiteList_ok (xs := joinL xs0 xs1 xs2) (FS.own hc (by omega) ln) (by omega)) ?_
    intro G4 n4 b4
    have e4 : Ext G3 G4 := ⟨n4, b4⟩
    cases hf : (joinL xs0 xs1 xs2).all finF
    · simp (disch := first | assumption | omega | rfl | (refine id ?_; simp only [gxD, ne_eq, reduceCtorEq, not_false_eq_true, Nat.reduceAdd, *]; done) | (refine id ?_; simp only [gxD]; omega)) only [↓gxPre, gxPost, ↓reduceIte, Nat.reduceEqDiff, reduceCtorEq, Nat.reduceAdd, listV]
      exact .no (by simp only [joinOk, hf, Bool.and_false]) ((eK.trans hE).trans e4)
    · simp (disch := first | assumption | omega | rfl | (refine id ?_; simp only [gxD, ne_eq, reduceCtorEq, not_false_eq_true, Nat.reduceAdd, *]; done) | (refine id ?_; simp only [gxD]; omega)) only [↓gxPre, gxPost, ↓reduceIte, Nat.reduceEqDiff, reduceCtorEq, Nat.reduceAdd, listV]
      exact .yes (by simp only [joinOk, hf, h1, h3, h4, decide_eq_true h2, Bool.and_true]) ((eK.trans hE).trans e4) (.mk ((e4.blk K.n (by omega)).trans hc) (by simpa using ln) (by first | omega | (simp only [new_n, put_n]; omega)) (by first | omega | (simp only [new_n, put_n]; omega)) (by first | omega | (simp only [new_n, put_n]; omega))) (by omega)
  · rintro j G3 hj ⟨hG, hE, hc⟩
    have hbG := (hE.blk H.n hK0).trans hbK
    simp (disch := first | assumption | omega | rfl | (refine id ?_; simp only [gxD, ne_eq, reduceCtorEq, not_false_eq_true, Nat.reduceAdd, *]; done) | (refine id ?_; simp only [gxD]; omega)) only [↓gxPre, gxPost, ↓reduceIte, Nat.reduceEqDiff, reduceCtorEq, Nat.reduceAdd, hbG, ((C.rd.ext eK).ext hE).len]
    refine loop_forH xs2.length (fun k => [v0, v1, .pointer (some ⟨H.n, 0, some 1⟩), .slice (some ⟨G2.n + 1, 0, none⟩) xs2.length xs2.length, .int .i64 (2 * (xs0.length : Int)), .slice (some ⟨K.n, 0, none⟩) (2 * xs0.length) (2 * xs0.length), .int .i64 j, .int .i64 xs0.length, .int .i64 j, v2, .int .i64 xs2.length, .int .i64 k])
      (fun k G => K.n + 1 ≤ G.n ∧ Ext K G ∧ G.blk K.n = some ⟨true, t_float32, (joinJ xs0 xs1 xs2 (highL xs2) (joinN xs0 xs1 xs2 (highL xs2) j) j k).map fv⟩) rfl ⟨hG, hE, hc⟩ ?_ ?_
    · rintro G ⟨hG, hE, hc⟩
      simp (disch := first | assumption | omega | rfl | (refine id ?_; simp only [gxD, ne_eq, reduceCtorEq, not_false_eq_true, Nat.reduceAdd, *]; done) | (refine id ?_; simp only [gxD]; omega)) only [↓gxPre, gxPost, ↓reduceIte, Nat.reduceEqDiff, reduceCtorEq, Nat.reduceAdd, Int.lt_irrefl]
      exact ⟨by simp, hG, hE, hc⟩
    · rintro k G hk ⟨hG, hE, hc⟩
      have hv0 := (A.rd.ext eK).ext hE
      have hu0 := (B.rd.ext eK).ext hE
      have hp0 := (C.rd.ext eK).ext hE
      have hq0 := hQ.ext hE
      have hmod : (2 * j + k) % (2 * xs0.length) < 2 * xs0.length := Nat.mod_lt _ (by omega)
      have ln : (joinJ xs0 xs1 xs2 (highL xs2) (joinN xs0 xs1 xs2 (highL xs2) j) j k).length = 2 * xs0.length := by rw [joinJ_len, joinN_len]
      have ln' : ((joinJ xs0 xs1 xs2 (highL xs2) (joinN xs0 xs1 xs2 (highL xs2) j) j k).map fv).length = 2 * xs0.length := by rw [lMapN, ln]
      have ha := fv_at (xs := joinJ xs0 xs1 xs2 (highL xs2) (joinN xs0 xs1 xs2 (highL xs2) j) j k) (i := (2 * j + k) % (2 * xs0.length)) (by omega)
      have hi1 : (2 * (j : Int) + (k : Int)).tmod (2 * (xs0.length : Int)) = (((2 * j + k) % (2 * xs0.length) : Nat) : Int) := by
        have := ring_ix (2 * xs0.length) j k
        rwa [show ((2 * xs0.length : Nat) : Int) = 2 * (xs0.length : Int) by omega] at this
      have hs : ((joinJ xs0 xs1 xs2 (highL xs2) (joinN xs0 xs1 xs2 (highL xs2) j) j k).map fv).set ((2 * j + k) % (2 * xs0.length)) (.float .f32 (fbin .add .f32 ((joinJ xs0 xs1 xs2 (highL xs2) (joinN xs0 xs1 xs2 (highL xs2) j) j k).getD ((2 * j + k) % (2 * xs0.length)) 0) (fbin .add .f32 (fbin .mul .f32 (xs2.getD k 0) (xs0.getD j 0)) (fbin .mul .f32 ((highL xs2).getD k 0) (xs1.getD j 0))))) = (joinJ xs0 xs1 xs2 (highL xs2) (joinN xs0 xs1 xs2 (highL xs2) j) j (k + 1)).map fv := by
        rw [fv_set', joinJ_succ]; rfl
      simp (disch := first | assumption | omega | rfl | (refine id ?_; simp only [gxD, ne_eq, reduceCtorEq, not_false_eq_true, Nat.reduceAdd, *]; done) | (refine id ?_; simp only [gxD]; omega)) only [↓gxPre, gxPost, ↓reduceIte, Nat.reduceEqDiff, reduceCtorEq, Nat.reduceAdd, hi1, hv0.ia, hv0.ld, hu0.ia, hu0.ld, hp0.ia, hp0.ld, hq0.ia, hq0.ld, hc, ha]
      exact ⟨by simp, hG, hE.put (Nat.le_refl _) _, by rw [hs]⟩
theorem i_JoinRing_law {H : Heap} {v0 v1 v2 : Value} {xs0 xs1 xs2 : List Nat} (A : AF H v0 xs0) (B : AF H v1 xs1) (C : AF H v2 xs2) : ACalls Try.prog n_i_JoinRing [v0, v1, .agg #[v2]] H fun r H' => ListR fv t_float32 H (joinOk xs0 xs1 xs2) (joinL xs0 xs1 xs2) r H' := i_JoinRing_ok (AF_g A) (AF_g B) (AF_g C)
end Go.Proofs.Ytkojmlpaamdhoae
