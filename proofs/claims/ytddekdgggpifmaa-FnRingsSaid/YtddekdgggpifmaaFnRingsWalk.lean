/- The law FnRings, walked: it returns true. -/
import Derived.Test.YtddekdgggpifmaaFnRingsYCToYL
namespace Go.Proofs.Ytddekdgggpifmaa
open Go.Gx
set_option maxRecDepth 100000
set_option linter.unusedSimpArgs false
set_option linter.unusedVariables false
set_option maxHeartbeats 2000000
theorem w_FnRings_ok {H : Heap} {v0 : Value} {xs0 : List Nat} (hv0 : YA H v0 xs0) {v1 : Value} {xs1 : List Nat} (hv1 : YA H v1 xs1) : ACalls Try.prog n_w_FnRings [v0, v1] H fun r H' => r = .bool true := by
  refine k_w_FnRings.run rfl ?_
  unfold c_w_FnRings
  have o0 := Sl.one hv0.rd
  have o1 := Sl.one hv1.rd
  simp (disch := first | assumption | omega | rfl | (refine id ?_; simp only [gxD, ne_eq, reduceCtorEq, not_false_eq_true, Nat.reduceAdd, *]; done) | (refine id ?_; simp only [gxD]; omega)) only [↓gxPre, gxPost, ↓reduceIte, Nat.reduceEqDiff, reduceCtorEq, Nat.reduceAdd]
  refine callR_pure (w_b10Long_ok hv0 hv1) (.inl rfl) ?_
  by_cases c0 : (decide (1048576 < xs0.length) || decide (1048576 < xs1.length)) = true
  · rw [c0]
    simp (disch := first | assumption | omega | rfl | (refine id ?_; simp only [gxD, ne_eq, reduceCtorEq, not_false_eq_true, Nat.reduceAdd, *]; done) | (refine id ?_; simp only [gxD]; omega)) only [↓gxPre, gxPost, ↓reduceIte, Nat.reduceEqDiff, reduceCtorEq, Nat.reduceAdd]
  have c0' : (decide (1048576 < xs0.length) || decide (1048576 < xs1.length)) = false := by simpa using c0
  have cl : xs0.length ≤ 1048576 ∧ xs1.length ≤ 1048576 := by
    simp only [Bool.or_eq_false_iff, decide_eq_false_iff_not] at c0'
    omega
  have A0 := hv0.yb (by omega)
  have A1 := hv1.yb (by omega)
  rw [c0']
  simp (disch := first | assumption | omega | rfl | (refine id ?_; simp only [gxD, ne_eq, reduceCtorEq, not_false_eq_true, Nat.reduceAdd, *]; done) | (refine id ?_; simp only [gxD]; omega)) only [↓gxPre, gxPost, ↓reduceIte, Nat.reduceEqDiff, reduceCtorEq, Nat.reduceAdd]
  refine callR_of (s_B10Pair_ok A0) ?_
  rintro _ G ⟨e1, ps, h, hps, h1, h2, rfl, hbp⟩
  obtain ⟨q, rfl⟩ : ∃ q, ps = psQ q := by
    rcases hps with rfl | rfl
    · exact ⟨true, rfl⟩
    · exact ⟨false, rfl⟩
  have hp4 := psQ_len q
  have hpw := psQ_w q
  have hpv := psQ_valid q
  simp (disch := first | assumption | omega | rfl | (refine id ?_; simp only [gxD, ne_eq, reduceCtorEq, not_false_eq_true, Nat.reduceAdd, *]; done) | (refine id ?_; simp only [gxD]; omega)) only [↓gxPre, gxPost, ↓reduceIte, Nat.reduceEqDiff, reduceCtorEq, Nat.reduceAdd]
  refine callR_new ?_
  intro K eK hKb hKn
  have hKp : K.blk h = some ⟨true, t_float32, (psQ q).map fv⟩ := (eK.blk h h2).trans hbp
  have e2 := e1.trans eK
  obtain ⟨nn, k0, k1, hkd⟩ := w_b10At_ok (k := 0) (n := 12) (A1.ext e2) (by omega) (by omega) (by omega) (by omega)
  refine callR_pure hkd (.inl rfl) ?_
  simp (disch := first | assumption | omega | rfl | (refine id ?_; simp only [gxD, ne_eq, reduceCtorEq, not_false_eq_true, Nat.reduceAdd, *]; done) | (refine id ?_; simp only [gxD]; omega)) only [↓gxPre, gxPost, ↓reduceIte, Nat.reduceEqDiff, reduceCtorEq, Nat.reduceAdd]
  obtain ⟨m, hm, m1, m2⟩ : ∃ m : Nat, 2 + 2 * nn = ((2 * m : Nat) : Int) ∧ 1 ≤ m ∧ m ≤ 12 := ⟨(1 + nn).toNat, by omega, by omega, by omega⟩
  rw [hm]
  refine callR_of (s_B10Signal_ok (A1.ext e2) (by omega)) ?_
  rintro _ G3 ⟨e3, L, o, g1, g2, hLl, hQ, rfl, hbL⟩
  obtain ⟨M, hM, hM2, hMb, hMs⟩ := qd_max hQ
  have hp3 : G3.blk h = some ⟨true, t_float32, (psQ q).map fv⟩ := (e3.blk h (by omega)).trans hKp
  have hb3 := (e3.blk G.n (by omega)).trans hKb
  have hL : FS G3 (.slice (some ⟨o, 0, none⟩) (2 * m) (2 * m)) L := FS.own hbL g2 hLl
  have hps : FS G3 (.slice (some ⟨h, 0, none⟩) (psQ q).length (psQ q).length) (psQ q) := FS.own hp3 (by omega) rfl
  have AL : AF G3 _ L := ⟨hL, by omega, hQ.w32⟩
  have AP : AF G3 _ (psQ q) := ⟨hps, by omega, hpw⟩
  have oL := hL.one
  have oP := hps.one
  have hxF : ∀ i, i < 2 * m → FinW .f32 (L.getD i 0) ∧ Bd (vF L i) M := fun i hi => ⟨(hQ i (by omega)).ok.1, hMb i (by omega)⟩
  have hS := split_ok q hM hLl m1 (by omega) hxF
  rw [hLl] at hMs
  simp (disch := first | assumption | omega | rfl | (refine id ?_; simp only [gxD, ne_eq, reduceCtorEq, not_false_eq_true, Nat.reduceAdd, *]; done) | (refine id ?_; simp only [gxD]; omega)) only [↓gxPre, gxPost, ↓reduceIte, Nat.reduceEqDiff, reduceCtorEq, Nat.reduceAdd, hb3]
  refine callR_of (i_SplitRing_law AL AP) ?_
  rintro _ G4 ⟨e4, lo, hg, rfl, p4, _, _⟩
  simp only [hS, selL_t] at p4 ⊢
  have hlo := p4.fst.fs
  have hhi := p4.snd.fs
  have olo := hlo.one
  have ohi := hhi.one
  have llo : (tapL L (psQ q)).length = m := by rw [tapL_len]; omega
  have lhi : (tapL L (highL (psQ q))).length = m := by rw [tapL_len]; omega
  have hb4 := (e4.blk G.n (by omega)).trans hb3
  simp (disch := first | assumption | omega | rfl | (refine id ?_; simp only [gxD, ne_eq, reduceCtorEq, not_false_eq_true, Nat.reduceAdd, *]; done) | (refine id ?_; simp only [gxD]; omega)) only [↓gxPre, gxPost, ↓reduceIte, Nat.reduceEqDiff, reduceCtorEq, Nat.reduceAdd, hb4]
  refine callR_of (i_JoinRing_law ⟨hlo, by omega, tapL_w _ _⟩ ⟨hhi, by omega, tapL_w _ _⟩ (AP.ext e4)) ?_
  rintro _ G5 ⟨e5, bk, rfl, p5, _⟩
  have hback := fun i (hi : i < 2 * m) => ring_back q hM hLl hxF (lo := tapL L (psQ q)) (η := 0) llo (by grind_linarith) (by have := hM.1; grind_linarith) (fun j hj => ⟨(split_near q hM hLl hxF hj).1.1, by constructor <;> grind_linarith⟩) hi
  have hJ : joinOk (tapL L (psQ q)) (tapL L (highL (psQ q))) (psQ q) = true := join_ok q llo lhi m1 (by omega) (fun i hi => (split_near q hM hLl hxF hi).1.1) (fun i hi => (split_near q hM hLl hxF hi).2.1) fun i hi => (hback i hi).1
  simp only [hJ, selL_t] at p5 ⊢
  have hbk := p5.fs
  have obk := hbk.one
  have lbk : (joinL (tapL L (psQ q)) (tapL L (highL (psQ q))) (psQ q)).length = 2 * m := by rw [joinL_len, llo]
  have hb5 := (e5.blk G.n (by have := e4.n; omega)).trans hb4
  have e45 := e4.trans e5
  simp (disch := first | assumption | omega | rfl | (refine id ?_; simp only [gxD, ne_eq, reduceCtorEq, not_false_eq_true, Nat.reduceAdd, *]; done) | (refine id ?_; simp only [gxD]; omega)) only [↓gxPre, gxPost, ↓reduceIte, Nat.reduceEqDiff, reduceCtorEq, Nat.reduceAdd, hb5]
  refine callR_of (i_HighOf_law (AP.ext e45)) ?_
  rintro _ G6 ⟨e6, ot, rfl, p6, _⟩
  simp only [hpv, selL_t] at p6 ⊢
  have hot := p6.fs
  have oot := hot.one
  have lot : (highL (psQ q)).length = (psQ q).length := by cases q <;> decide +kernel
  have e46 := e45.trans e6
  have hL6 := hL.ext e46
  have hb6 := (e6.blk G.n (by have := e45.n; omega)).trans hb5
  have lL := hL6.len
  rw [hLl] at lL
  simp (disch := first | assumption | omega | rfl | (refine id ?_; simp only [gxD, ne_eq, reduceCtorEq, not_false_eq_true, Nat.reduceAdd, *]; done) | (refine id ?_; simp only [gxD]; omega)) only [↓gxPre, gxPost, ↓reduceIte, Nat.reduceEqDiff, reduceCtorEq, Nat.reduceAdd, lL]
  refine loop_forH (2 * m) (fun i => [.pointer (some ⟨G.n, 0, some 1⟩), .slice (some ⟨o, 0, none⟩) (2 * m) (2 * m), lo, hg, .bool true, bk, .bool true, ot, .bool true, .slice (some ⟨G6.n, 0, none⟩) i i, .int .i64 ((2 * m : Nat) : Int), .int .i64 i])
    (fun i J => G6.n + 1 ≤ J.n ∧ Ext G6 J ∧ J.blk G6.n = some ⟨true, t_float32, (List.replicate i 1077936128).map fv⟩) rfl ⟨by simp only [new_n]; omega, ⟨by first | omega | (simp only [new_n, put_n]; omega) | (simp only [new_n, put_n] at *; omega), fun i hi => by simp (disch := first | assumption | omega | rfl | (refine id ?_; simp only [gxD, ne_eq, reduceCtorEq, not_false_eq_true, Nat.reduceAdd, *]; done) | (refine id ?_; simp only [gxD]; omega)) only [↓gxPre, gxPost, ↓reduceIte, Nat.reduceEqDiff, reduceCtorEq, Nat.reduceAdd, *]⟩, by simp (disch := first | assumption | omega | rfl | (refine id ?_; simp only [gxD, ne_eq, reduceCtorEq, not_false_eq_true, Nat.reduceAdd, *]; done) | (refine id ?_; simp only [gxD]; omega)) only [↓gxPre, gxPost, ↓reduceIte, Nat.reduceEqDiff, reduceCtorEq, Nat.reduceAdd]; rfl⟩ ?_ ?_
  rotate_left
  · rintro i G8 hi ⟨j1, j2, j3⟩
    have hlr : ((List.replicate i 1077936128).map fv).length = i := by simp
    have hsn : (List.replicate i 1077936128).map fv ++ [.float .f32 1077936128] = (List.replicate (i + 1) 1077936128).map fv := by rw [List.replicate_succ', List.map_append]; rfl
    obtain ⟨f1, f2, f3, f4⟩ := push_at j2 j3 (Nat.le_refl _) (by omega) hsn
    simp (disch := first | assumption | omega | rfl | (refine id ?_; simp only [gxD, ne_eq, reduceCtorEq, not_false_eq_true, Nat.reduceAdd, *]; done) | (refine id ?_; simp only [gxD]; omega)) only [↓gxPre, gxPost, ↓reduceIte, Nat.reduceEqDiff, reduceCtorEq, Nat.reduceAdd, j3, rd1_at]
    exact ⟨by simp, by omega, f1, by rw [hsn]⟩
  rintro G8 ⟨j1, j2, j3⟩
  have hb8 := (j2.blk G.n (by have := e46.n; have := e6.n; omega)).trans hb6
  have e38 : Ext G3 G8 := e46.trans j2
  have hev : FS G8 (.slice (some ⟨G6.n, 0, none⟩) (2 * m) (2 * m)) (List.replicate (2 * m) 1077936128) := FS.own j3 (by omega) (by simp)
  have oev := hev.one
  have hevx : ∀ i, i < 2 * m → FinW .f32 ((List.replicate (2 * m) 1077936128).getD i 0) ∧ Bd (vF (List.replicate (2 * m) 1077936128) i) 3 := fun i hi => by
    unfold vF
    rw [rep_at hi]
    exact ⟨three_val.1, by rw [three_val.2]; constructor <;> grind_linarith⟩
  have hS2 := split_ok q (xs := List.replicate (2 * m) 1077936128) (M := 3) ⟨by grind_linarith, by grind_linarith⟩ (by simp) m1 (by omega) hevx
  have hevw : W32 (List.replicate (2 * m) 1077936128) := fun j => by
    by_cases hj : j < 2 * m
    · rw [rep_at hj]; decide
    · simp [List.getD_eq_getElem?_getD, List.getElem?_eq_none (l := List.replicate (2 * m) 1077936128) (i := j) (by simp; omega)]
  simp (disch := first | assumption | omega | rfl | (refine id ?_; simp only [gxD, ne_eq, reduceCtorEq, not_false_eq_true, Nat.reduceAdd, *]; done) | (refine id ?_; simp only [gxD]; omega)) only [↓gxPre, gxPost, ↓reduceIte, Nat.reduceEqDiff, reduceCtorEq, Nat.reduceAdd, Int.lt_irrefl, hb8]
  refine callR_of (i_SplitRing_law ⟨hev, by simp; omega, hevw⟩ (AP.ext e38)) ?_
  rintro _ G9 ⟨e9, na, nb, rfl, p9, _, _⟩
  simp only [hS2, selL_t] at p9 ⊢
  have hnb := p9.snd.fs
  have onb := hnb.one
  have lnb : (tapL (List.replicate (2 * m) 1077936128) (highL (psQ q))).length = m := by rw [tapL_len]; simp
  have e39 := e38.trans e9
  have hL9 := hL.ext e39
  have hb9 := (e9.blk G.n (by have := e38.n; omega)).trans hb8
  simp (disch := first | assumption | omega | rfl | (refine id ?_; simp only [gxD, ne_eq, reduceCtorEq, not_false_eq_true, Nat.reduceAdd, *]; done) | (refine id ?_; simp only [gxD]; omega)) only [↓gxPre, gxPost, ↓reduceIte, Nat.reduceEqDiff, reduceCtorEq, Nat.reduceAdd]
  refine callR_pure (w_b10Squares_ok hL9 (by omega)) (.inl rfl) ?_
  simp (disch := first | assumption | omega | rfl | (refine id ?_; simp only [gxD, ne_eq, reduceCtorEq, not_false_eq_true, Nat.reduceAdd, *]; done) | (refine id ?_; simp only [gxD]; omega)) only [↓gxPre, gxPost, ↓reduceIte, Nat.reduceEqDiff, reduceCtorEq, Nat.reduceAdd, hb9]
  refine callR_ext (i_ValidPair_ok (hps.ext e39) (by omega)) ?_
  intro Ga na' ba
  have ea : Ext G9 Ga := ⟨na', ba⟩
  have hba := (ba G.n (by have := e39.n; omega)).trans hb9
  simp (disch := first | assumption | omega | rfl | (refine id ?_; simp only [gxD, ne_eq, reduceCtorEq, not_false_eq_true, Nat.reduceAdd, *]; done) | (refine id ?_; simp only [gxD]; omega)) only [↓gxPre, gxPost, ↓reduceIte, Nat.reduceEqDiff, reduceCtorEq, Nat.reduceAdd, hpv, hba]
  have hsame : sameL (psQ q) (psQ q) = true := by cases q <;> decide +kernel
  have e3a := e39.trans ea
  refine callR_ext (i_SamePair_ok (hps.ext e3a) (hps.ext e3a) (by omega) (by omega) hpw hpw) ?_
  intro Gb nb' bb
  have eb : Ext Ga Gb := ⟨nb', bb⟩
  have e3b := e3a.trans eb
  have hbb := (bb G.n (by have := e3a.n; omega)).trans hba
  have e4b : Ext G4 Gb := (((((e5.trans e6).trans j2).trans e9).trans ea).trans eb)
  have e5b : Ext G5 Gb := ((((e6.trans j2).trans e9).trans ea).trans eb)
  have e6b : Ext G6 Gb := (((j2.trans e9).trans ea).trans eb)
  have e9b : Ext G9 Gb := ea.trans eb
  have hLb := hL.ext e3b
  have hlob := hlo.ext e4b
  have hhib := hhi.ext e4b
  have hbkb := hbk.ext e5b
  have hotb := hot.ext e6b
  have hnbb := hnb.ext e9b
  have hpsb := hps.ext e3b
  have zL := hLb.len
  have zlo := hlob.len
  have zhi := hhib.len
  have zot := hotb.len
  have znb := hnbb.len
  have zps := hpsb.len
  rw [hLl] at zL
  rw [llo] at zlo
  rw [lhi] at zhi
  rw [lot] at zot
  rw [lnb] at znb
  have hq2 : (((2 * m : Nat) : Int)).tdiv 2 = (m : Int) := by
    have := tdiv2 (2 * m)
    rw [this]
    congr 1
    omega
  simp (disch := first | assumption | omega | rfl | (refine id ?_; simp only [gxD, ne_eq, reduceCtorEq, not_false_eq_true, Nat.reduceAdd, *]; done) | (refine id ?_; simp only [gxD]; omega)) only [↓gxPre, gxPost, ↓reduceIte, Nat.reduceEqDiff, reduceCtorEq, Nat.reduceAdd, hsame, zL, zlo, zhi, zot, znb, zps, hbb, hq2]
  refine callR_pure (w_b10Squares_ok hlob (by omega)) (by first | exact .inl rfl | (simp (disch := first | assumption | omega | rfl | (refine id ?_; simp only [gxD, ne_eq, reduceCtorEq, not_false_eq_true, Nat.reduceAdd, *]; done) | (refine id ?_; simp only [gxD]; omega)) only [↓gxPre, gxPost, ↓reduceIte, Nat.reduceEqDiff, reduceCtorEq, Nat.reduceAdd]; done)) ?_
  simp (disch := first | assumption | omega | rfl | (refine id ?_; simp only [gxD, ne_eq, reduceCtorEq, not_false_eq_true, Nat.reduceAdd, *]; done) | (refine id ?_; simp only [gxD]; omega)) only [↓gxPre, gxPost, ↓reduceIte, Nat.reduceEqDiff, reduceCtorEq, Nat.reduceAdd]
  refine callR_pure (w_b10Squares_ok hhib (by omega)) (by first | exact .inl rfl | (simp (disch := first | assumption | omega | rfl | (refine id ?_; simp only [gxD, ne_eq, reduceCtorEq, not_false_eq_true, Nat.reduceAdd, *]; done) | (refine id ?_; simp only [gxD]; omega)) only [↓gxPre, gxPost, ↓reduceIte, Nat.reduceEqDiff, reduceCtorEq, Nat.reduceAdd]; done)) ?_
  simp (disch := first | assumption | omega | rfl | (refine id ?_; simp only [gxD, ne_eq, reduceCtorEq, not_false_eq_true, Nat.reduceAdd, *]; done) | (refine id ?_; simp only [gxD]; omega)) only [↓gxPre, gxPost, ↓reduceIte, Nat.reduceEqDiff, reduceCtorEq, Nat.reduceAdd]
  refine callR_pure w_b10Gap_ok (by first | exact .inl rfl | (simp (disch := first | assumption | omega | rfl | (refine id ?_; simp only [gxD, ne_eq, reduceCtorEq, not_false_eq_true, Nat.reduceAdd, *]; done) | (refine id ?_; simp only [gxD]; omega)) only [↓gxPre, gxPost, ↓reduceIte, Nat.reduceEqDiff, reduceCtorEq, Nat.reduceAdd]; done)) ?_
  have hen := rings_energy q hM hM2 hLl m2 hxF hMs
  have hsq : sqD L L.length = sqD L (2 * m) := by rw [hLl]
  have hsl : sqD (tapL L (psQ q)) (tapL L (psQ q)).length = sqD (tapL L (psQ q)) m := by rw [llo]
  have hsh : sqD (tapL L (highL (psQ q))) (tapL L (highL (psQ q))).length = sqD (tapL L (highL (psQ q))) m := by rw [lhi]
  rw [hsl, hsh, hsq]
  simp (disch := first | assumption | omega | rfl | (refine id ?_; simp only [gxD, ne_eq, reduceCtorEq, not_false_eq_true, Nat.reduceAdd, *]; done) | (refine id ?_; simp only [gxD]; omega)) only [↓gxPre, gxPost, ↓reduceIte, Nat.reduceEqDiff, reduceCtorEq, Nat.reduceAdd, hen]
  refine callR_pure (w_b10Apart_no hbkb hLb (by omega) (by omega) fun i hi => leq_01 (hback i (by omega)).1 (hxF i (by omega)).1 (by
    have h1 := (hback i (by omega)).2
    unfold vF at h1
    exact ⟨by have := h1.1; grind_linarith, by have := h1.2; grind_linarith⟩)) (by first | exact .inl rfl | (simp (disch := first | assumption | omega | rfl | (refine id ?_; simp only [gxD, ne_eq, reduceCtorEq, not_false_eq_true, Nat.reduceAdd, *]; done) | (refine id ?_; simp only [gxD]; omega)) only [↓gxPre, gxPost, ↓reduceIte, Nat.reduceEqDiff, reduceCtorEq, Nat.reduceAdd]; done)) ?_
  simp (disch := first | assumption | omega | rfl | (refine id ?_; simp only [gxD, ne_eq, reduceCtorEq, not_false_eq_true, Nat.reduceAdd, *]; done) | (refine id ?_; simp only [gxD]; omega)) only [↓gxPre, gxPost, ↓reduceIte, Nat.reduceEqDiff, reduceCtorEq, Nat.reduceAdd, znb]
  refine loop_forH m (fun i => [.pointer (some ⟨G.n, 0, some 1⟩), .slice (some ⟨o, 0, none⟩) (2 * m) (2 * m), ot, nb, .int .i64 m, .int .i64 i]) (fun i J => Gb = J) rfl rfl ?_ ?_
  rotate_left
  · rintro i _ hi rfl
    have hn := none_at q hi
    have hno := none_ok q
    simp (disch := first | assumption | omega | rfl | (refine id ?_; simp only [gxD, ne_eq, reduceCtorEq, not_false_eq_true, Nat.reduceAdd, *]; done) | (refine id ?_; simp only [gxD]; omega)) only [↓gxPre, gxPost, ↓reduceIte, Nat.reduceEqDiff, reduceCtorEq, Nat.reduceAdd, hnbb.ia, hnbb.ld, lnb, hn]
    refine callR_pure w_b10Gap_ok (.inl rfl) ?_
    simp (disch := first | assumption | omega | rfl | (refine id ?_; simp only [gxD, ne_eq, reduceCtorEq, not_false_eq_true, Nat.reduceAdd, *]; done) | (refine id ?_; simp only [gxD]; omega)) only [↓gxPre, gxPost, ↓reduceIte, Nat.reduceEqDiff, reduceCtorEq, Nat.reduceAdd, hno]
    simp
  rintro _ rfl
  simp (disch := first | assumption | omega | rfl | (refine id ?_; simp only [gxD, ne_eq, reduceCtorEq, not_false_eq_true, Nat.reduceAdd, *]; done) | (refine id ?_; simp only [gxD]; omega)) only [↓gxPre, gxPost, ↓reduceIte, Nat.reduceEqDiff, reduceCtorEq, Nat.reduceAdd, Int.lt_irrefl, zot]
  refine loop_forH (psQ q).length (fun i => [.pointer (some ⟨G.n, 0, some 1⟩), .slice (some ⟨o, 0, none⟩) (2 * m) (2 * m), ot, .float .f64 (otD q i), .int .i64 (psQ q).length, .int .i64 i]) (fun i J => Gb = J) rfl rfl ?_ ?_
  rotate_left
  · rintro i _ hi rfl
    simp (disch := first | assumption | omega | rfl | (refine id ?_; simp only [gxD, ne_eq, reduceCtorEq, not_false_eq_true, Nat.reduceAdd, *]; done) | (refine id ?_; simp only [gxD]; omega)) only [↓gxPre, gxPost, ↓reduceIte, Nat.reduceEqDiff, reduceCtorEq, Nat.reduceAdd, hotb.ia, hotb.ld, lot, hbb, hpsb.ia, hpsb.ld]
    simp [otD, foldI_succ]
  rintro _ rfl
  simp (disch := first | assumption | omega | rfl | (refine id ?_; simp only [gxD, ne_eq, reduceCtorEq, not_false_eq_true, Nat.reduceAdd, *]; done) | (refine id ?_; simp only [gxD]; omega)) only [↓gxPre, gxPost, ↓reduceIte, Nat.reduceEqDiff, reduceCtorEq, Nat.reduceAdd, Int.lt_irrefl]
  refine callR_of i_HaarPair_ok ?_
  rintro _ Gc ⟨ec, hc, hc1, hc2, rfl, hcb⟩
  simp (disch := first | assumption | omega | rfl | (refine id ?_; simp only [gxD, ne_eq, reduceCtorEq, not_false_eq_true, Nat.reduceAdd, *]; done) | (refine id ?_; simp only [gxD]; omega)) only [↓gxPre, gxPost, ↓reduceIte, Nat.reduceEqDiff, reduceCtorEq, Nat.reduceAdd]
  refine callR_new ?_
  intro Gd ed hdb hdn
  refine callR_of i_FourPair_ok ?_
  rintro _ Ge ⟨ee, he, he1, he2, rfl, heb⟩
  have hbe := ((((ec.trans ed).trans ee).blk G.n (by have := e3b.n; omega))).trans hbb
  have e3e : Ext G3 Ge := ((e3b.trans ec).trans ed).trans ee
  simp (disch := first | assumption | omega | rfl | (refine id ?_; simp only [gxD, ne_eq, reduceCtorEq, not_false_eq_true, Nat.reduceAdd, *]; done) | (refine id ?_; simp only [gxD]; omega)) only [↓gxPre, gxPost, ↓reduceIte, Nat.reduceEqDiff, reduceCtorEq, Nat.reduceAdd]
  obtain ⟨Gf, hGf⟩ : ∃ Gf, Gf = Ge.new ⟨true, 26, [.slice (some ⟨he, 0, none⟩) 4 4]⟩ := ⟨_, rfl⟩
  rw [← hGf]
  have ef : Ext Ge Gf := by rw [hGf]; exact .new _ _
  have hfb : Gf.blk Ge.n = some ⟨true, 26, [.slice (some ⟨he, 0, none⟩) 4 4]⟩ := by rw [hGf]; exact new_self _ _
  have hfn : Gf.n = Ge.n + 1 := by rw [hGf]; rfl
  clear hGf
  have e3f := e3e.trans ef
  have hLf := hL.ext e3f
  have hbf := (ef.blk G.n (by have := e3e.n; omega)).trans hbe
  have hl1 : (L.drop 1).length = 2 * m - 1 := by rw [List.length_drop, hLl]
  obtain ⟨v', hs1, hs2⟩ := hLf.slc .i64 .i64 1 ((2 * m : Nat) : Int) (by omega) (by omega) (by simp; omega) (by simp; omega)
  have hsl : aSlcLo (.slice (some ⟨o, 0, none⟩) (2 * m) (2 * m)) (.int .i64 1) = some (.slice (some ⟨o, 1, none⟩) (2 * m - 1) (2 * m - 1)) := slcLo_at (h := o) (L := 2 * m) (o := 1) (by omega)
  have hvv : v' = .slice (some ⟨o, 1, none⟩) (2 * m - 1) (2 * m - 1) := by
    have : aSlcLo (.slice (some ⟨o, 0, none⟩) (2 * m) (2 * m)) (.int .i64 1) = some v' := hs1
    rw [this] at hsl
    exact Option.some.inj hsl
  subst hvv
  have hdr : ((L.map fv).drop (1 : Int).toNat).take (((2 * m : Nat) : Int).toNat - (1 : Int).toNat) = (L.drop 1).map fv := by
    rw [List.map_drop]
    exact List.take_of_length_le (by simp; omega)
  rw [hdr] at hs2
  have AD : AF Gf (.slice (some ⟨o, 1, none⟩) (2 * m - 1) (2 * m - 1)) (L.drop 1) := ⟨hs2, by omega, fun j => by
    have := hQ.w32 (j + 1)
    simpa [List.getD_eq_getElem?_getD, List.getElem?_drop] using this⟩
  have hno : splitOk (L.drop 1) (psQ q) = false := by
    unfold splitOk
    rw [decide_eq_false (show ¬ (L.drop 1).length % 2 = 0 by omega)]
    simp
  have hsl1 : aSlcLo (.slice (some ⟨o, 0, none⟩) (2 * m) (2 * m)) (.int .i64 1) = some (.slice (some ⟨o, 1, none⟩) (2 * m - 1) (2 * m - 1)) := hs1
  have osl := hs2.one
  simp (disch := first | assumption | omega | rfl | (refine id ?_; simp only [gxD, ne_eq, reduceCtorEq, not_false_eq_true, Nat.reduceAdd, *]; done) | (refine id ?_; simp only [gxD]; omega)) only [↓gxPre, gxPost, ↓reduceIte, Nat.reduceEqDiff, reduceCtorEq, Nat.reduceAdd, hsl1, hbf]
  refine callR_of (i_SplitRing_law AD (AP.ext e3f)) ?_
  rintro _ Gg ⟨eg, ra, rb, rfl, pg, _, _⟩
  simp only [hno, selL_f]
  simp (disch := first | assumption | omega | rfl | (refine id ?_; simp only [gxD, ne_eq, reduceCtorEq, not_false_eq_true, Nat.reduceAdd, *]; done) | (refine id ?_; simp only [gxD]; omega)) only [↓gxPre, gxPost, ↓reduceIte, Nat.reduceEqDiff, reduceCtorEq, Nat.reduceAdd]
  refine callR_pure w_b10Gap_ok (by first | exact .inl rfl | (simp (disch := first | assumption | omega | rfl | (refine id ?_; simp only [gxD, ne_eq, reduceCtorEq, not_false_eq_true, Nat.reduceAdd, *]; done) | (refine id ?_; simp only [gxD]; omega)) only [↓gxPre, gxPost, ↓reduceIte, Nat.reduceEqDiff, reduceCtorEq, Nat.reduceAdd]; done)) ?_
  have hot0 := ot_ok q
  have hdg : Gg.blk Gc.n = some ⟨true, 26, [.slice (some ⟨hc, 0, none⟩) 2 2]⟩ := by
    rw [eg.blk _ (by have := ed.n; have := ee.n; have := ef.n; omega), ef.blk _ (by have := ed.n; have := ee.n; omega), ee.blk _ (by omega), hdb]
  have hfg : Gg.blk Ge.n = some ⟨true, 26, [.slice (some ⟨he, 0, none⟩) 4 4]⟩ := by
    rw [eg.blk _ (by omega), hfb]
  have hcg : Gg.blk hc = some ⟨true, t_float32, haarP.map fv⟩ := by
    rw [eg.blk _ (by have := ed.n; have := ee.n; have := ef.n; omega), ef.blk _ (by have := ed.n; have := ee.n; omega), ee.blk _ (by have := ed.n; omega), ed.blk _ (by omega), hcb]; rfl
  have heg : Gg.blk he = some ⟨true, t_float32, fourP.map fv⟩ := by
    rw [eg.blk _ (by have := ef.n; omega), ef.blk _ (by omega), heb]; rfl
  have hgn : Gc.n + 1 ≤ Gd.n ∧ Gd.n ≤ Ge.n ∧ Ge.n + 1 ≤ Gf.n ∧ Gf.n ≤ Gg.n := ⟨by omega, ee.n, by omega, eg.n⟩
  simp (disch := first | assumption | omega | rfl | (refine id ?_; simp only [gxD, ne_eq, reduceCtorEq, not_false_eq_true, Nat.reduceAdd, *]; done) | (refine id ?_; simp only [gxD]; omega)) only [↓gxPre, gxPost, ↓reduceIte, Nat.reduceEqDiff, reduceCtorEq, Nat.reduceAdd, hot0, hdg]
  refine callR_of s_HaarPair_ok ?_
  rintro _ Gh ⟨eh, hh, hh1, hh2, rfl, hhb⟩
  have hdh := (eh.blk Gc.n (by omega)).trans hdg
  have hch := (eh.blk hc (by omega)).trans hcg
  simp (disch := first | assumption | omega | rfl | (refine id ?_; simp only [gxD, ne_eq, reduceCtorEq, not_false_eq_true, Nat.reduceAdd, *]; done) | (refine id ?_; simp only [gxD]; omega)) only [↓gxPre, gxPost, ↓reduceIte, Nat.reduceEqDiff, reduceCtorEq, Nat.reduceAdd, hdh]
  refine ⟨fun _ => trivial, ?_⟩
  have hhb' : Gh.blk hh = some ⟨true, t_float32, haarP.map fv⟩ := hhb
  refine callR_ext (s_SamePair_ok (xs := haarP) (ys := haarP) (FS.own hch (by have := eh.n; omega) rfl) (FS.own hhb' hh2 rfl) (by decide) (by decide) (psQ_w false) (psQ_w false)) ?_
  intro Gi ni bi
  have ei : Ext Gh Gi := ⟨ni, bi⟩
  have hsh : sameL haarP haarP = true := by decide +kernel
  have hfi := ((eh.trans ei).blk Ge.n (by omega)).trans hfg
  simp (disch := first | assumption | omega | rfl | (refine id ?_; simp only [gxD, ne_eq, reduceCtorEq, not_false_eq_true, Nat.reduceAdd, *]; done) | (refine id ?_; simp only [gxD]; omega)) only [↓gxPre, gxPost, ↓reduceIte, Nat.reduceEqDiff, reduceCtorEq, Nat.reduceAdd, hsh, hfi]
  refine callR_of s_FourPair_ok ?_
  rintro _ Gj ⟨ej, hj, hj1, hj2, rfl, hjb⟩
  have hfj := ((eh.trans (ei.trans ej)).blk Ge.n (by omega)).trans hfg
  have hej := ((eh.trans (ei.trans ej)).blk he (by omega)).trans heg
  simp (disch := first | assumption | omega | rfl | (refine id ?_; simp only [gxD, ne_eq, reduceCtorEq, not_false_eq_true, Nat.reduceAdd, *]; done) | (refine id ?_; simp only [gxD]; omega)) only [↓gxPre, gxPost, ↓reduceIte, Nat.reduceEqDiff, reduceCtorEq, Nat.reduceAdd, hfj]
  refine ⟨fun _ => trivial, ?_⟩
  have hjb' : Gj.blk hj = some ⟨true, t_float32, fourP.map fv⟩ := hjb
  refine callR_ext (s_SamePair_ok (xs := fourP) (ys := fourP) (FS.own hej (by have := eh.n; have := ei.n; have := ej.n; omega) rfl) (FS.own hjb' hj2 rfl) (by decide) (by decide) (psQ_w true) (psQ_w true)) ?_
  intro Gk nk bk'
  have hsf : sameL fourP fourP = true := by decide +kernel
  simp (disch := first | assumption | omega | rfl | (refine id ?_; simp only [gxD, ne_eq, reduceCtorEq, not_false_eq_true, Nat.reduceAdd, *]; done) | (refine id ?_; simp only [gxD]; omega)) only [↓gxPre, gxPost, ↓reduceIte, Nat.reduceEqDiff, reduceCtorEq, Nat.reduceAdd, hsf]
end Go.Proofs.Ytddekdgggpifmaa
