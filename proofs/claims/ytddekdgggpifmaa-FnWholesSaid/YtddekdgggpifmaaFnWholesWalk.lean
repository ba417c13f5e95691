/- The law FnWholes, walked: it returns true. -/
import Derived.Test.YtddekdgggpifmaaFnWholesXWToYH
namespace Go.Proofs.Ytddekdgggpifmaa
open Go.Gx
set_option maxRecDepth 100000
set_option linter.unusedSimpArgs false
set_option linter.unusedVariables false
set_option maxHeartbeats 2000000
theorem w_FnWholes_ok {H : Heap} {v0 : Value} {xs0 : List Nat} (hv0 : YA H v0 xs0) {v1 : Value} {xs1 : List Nat} (hv1 : YA H v1 xs1) : ACalls Try.prog n_w_FnWholes [v0, v1] H fun r H' => r = .bool true := by
  refine k_w_FnWholes.run rfl ?_
  unfold c_w_FnWholes
  have o0 := Sl.one hv0.rd
  have o1 := Sl.one hv1.rd
  simp (disch := first | assumption | omega | rfl | (refine id ?_; simp only [gxD, ne_eq, reduceCtorEq, not_false_eq_true, Nat.reduceAdd, *]; done) | (refine id ?_; simp only [gxD]; omega)) only [↓gxPre, gxPost, ↓reduceIte, Nat.reduceEqDiff, reduceCtorEq, Nat.reduceAdd]
  refine callR_pure (w_r8Long_ok hv0 hv1) (.inl rfl) ?_
  by_cases c0 : (decide (48 < xs0.length) || decide (48 < xs1.length)) = true
  · rw [c0]
    simp (disch := first | assumption | omega | rfl | (refine id ?_; simp only [gxD, ne_eq, reduceCtorEq, not_false_eq_true, Nat.reduceAdd, *]; done) | (refine id ?_; simp only [gxD]; omega)) only [↓gxPre, gxPost, ↓reduceIte, Nat.reduceEqDiff, reduceCtorEq, Nat.reduceAdd]
  have c0' : (decide (48 < xs0.length) || decide (48 < xs1.length)) = false := by simpa using c0
  have cl : xs0.length ≤ 48 ∧ xs1.length ≤ 48 := by
    simp only [Bool.or_eq_false_iff, decide_eq_false_iff_not] at c0'
    omega
  have A0 := hv0.yb (by omega)
  have A1 := hv1.yb (by omega)
  rw [c0']
  simp (disch := first | assumption | omega | rfl | (refine id ?_; simp only [gxD, ne_eq, reduceCtorEq, not_false_eq_true, Nat.reduceAdd, *]; done) | (refine id ?_; simp only [gxD]; omega)) only [↓gxPre, gxPost, ↓reduceIte, Nat.reduceEqDiff, reduceCtorEq, Nat.reduceAdd]
  refine callR_of (s_R8Integers_ok A0) ?_
  rintro _ G ⟨e1, L, o, g1, g2, l1, l2, lb, rfl, hb⟩
  have hIB : IB L 100 := fun j => by
    by_cases hj : j < L.length
    · have := lb (L.getD j 0) (by simp [List.getD_eq_getElem?_getD, hj])
      exact this
    · have : L.getD j 0 = 0 := by simp [List.getD_eq_getElem?_getD, List.getElem?_eq_none (Nat.le_of_not_lt hj)]
      rw [this]; omega
  have hI : I64 L := hIB.i64 (by omega)
  have hL : IS G (.slice (some ⟨o, 0, none⟩) L.length L.length) L := IS.own hb g2 rfl
  have oL := hL.one
  have A1 := A1.ext e1
  obtain ⟨kd, k0, k1, hkd⟩ := w_r8At_ok (k := 0) (n := 3) A1 (by omega) (by omega) (by omega)
  simp (disch := first | assumption | omega | rfl | (refine id ?_; simp only [gxD, ne_eq, reduceCtorEq, not_false_eq_true, Nat.reduceAdd, *]; done) | (refine id ?_; simp only [gxD]; omega)) only [↓gxPre, gxPost, ↓reduceIte, Nat.reduceEqDiff, reduceCtorEq, Nat.reduceAdd]
  refine callR_pure hkd (.inl rfl) ?_
  obtain ⟨lv, v0', v1', hlv⟩ := w_r8At_ok (k := 1) (n := 6) A1 (by omega) (by omega) (by omega)
  simp (disch := first | assumption | omega | rfl | (refine id ?_; simp only [gxD, ne_eq, reduceCtorEq, not_false_eq_true, Nat.reduceAdd, *]; done) | (refine id ?_; simp only [gxD]; omega)) only [↓gxPre, gxPost, ↓reduceIte, Nat.reduceEqDiff, reduceCtorEq, Nat.reduceAdd]
  refine callR_pure hlv (.inl rfl) ?_
  have hw : within kd 0 2 = true := within_true.2 (by omega)
  have hwl : within (1 + lv) 1 6 = true := within_true.2 (by omega)
  obtain ⟨q1, q2, q3⟩ := lift_back (kind := kd) hw hIB l1 (by omega)
  have AL : AI G (.slice (some ⟨o, 0, none⟩) L.length L.length) L := ⟨hL, by omega, hI⟩
  simp (disch := first | assumption | omega | rfl | (refine id ?_; simp only [gxD, ne_eq, reduceCtorEq, not_false_eq_true, Nat.reduceAdd, *]; done) | (refine id ?_; simp only [gxD]; omega)) only [↓gxPre, gxPost, ↓reduceIte, Nat.reduceEqDiff, reduceCtorEq, Nat.reduceAdd]
  refine callR_of (i_LiftIntegers_law (by omega) AL) ?_
  rintro _ G2 ⟨e2, lo, hg, rfl, p2, _, _⟩
  simp only [hw, q1, Bool.and_self, selL_t] at p2 ⊢
  have hlo := p2.fst.is
  have hhi := p2.snd.is
  have olo := hlo.one
  have ohi := hhi.one
  have lel := liftE_length kd L
  have lol := liftO_length kd L
  simp (disch := first | assumption | omega | rfl | (refine id ?_; simp only [gxD, ne_eq, reduceCtorEq, not_false_eq_true, Nat.reduceAdd, *]; done) | (refine id ?_; simp only [gxD]; omega)) only [↓gxPre, gxPost, ↓reduceIte, Nat.reduceEqDiff, reduceCtorEq, Nat.reduceAdd]
  refine callR_of (i_DropIntegers_law (by omega) ⟨hlo, by omega, i64_liftE _ _⟩ ⟨hhi, by omega, i64_liftO _ _⟩) ?_
  rintro _ G3 ⟨e3, bk, rfl, p3, _⟩
  simp only [q2, q3, selL_t] at p3 ⊢
  have hbk := p3.is
  have obk := hbk.one
  have e23 := e2.trans e3
  simp (disch := first | assumption | omega | rfl | (refine id ?_; simp only [gxD, ne_eq, reduceCtorEq, not_false_eq_true, Nat.reduceAdd, *]; done) | (refine id ?_; simp only [gxD]; omega)) only [↓gxPre, gxPost, ↓reduceIte, Nat.reduceEqDiff, reduceCtorEq, Nat.reduceAdd]
  refine callR_of (i_SplitIntegers_law (AL.ext e23)) ?_
  rintro _ G4 ⟨e4, ev, od, rfl, p4, _, _⟩
  simp only [q1, selL_t] at p4 ⊢
  have hev := p4.fst.is
  have hod := p4.snd.is
  have oev := hev.one
  have ood := hod.one
  have lev := evL_length (d := (0 : Int)) (xs := L) L.length
  have lod := odL_length (d := (0 : Int)) (xs := L) L.length
  have e24 := e23.trans e4
  simp (disch := first | assumption | omega | rfl | (refine id ?_; simp only [gxD, ne_eq, reduceCtorEq, not_false_eq_true, Nat.reduceAdd, *]; done) | (refine id ?_; simp only [gxD]; omega)) only [↓gxPre, gxPost, ↓reduceIte, Nat.reduceEqDiff, reduceCtorEq, Nat.reduceAdd]
  refine callR_of (i_LiftLevels_law (by omega) (AL.ext e24) (by omega)) ?_
  rintro _ G5 ⟨e5, bs, rfl, p5, p5t⟩
  simp only [hw, q1, hwl, Bool.and_self, selL_t] at p5 p5t ⊢
  have e25 := e24.trans e5
  obtain ⟨r1, r2⟩ := lev_back (L := (1 + lv).toNat) hw hIB l1 (by omega) (by omega) (by omega)
  have hbs := p5.si
  have obs := hbs.one
  have hW : I64S (levelsI kd L (1 + lv).toNat) := fun j => by
    rw [levelsI_eq]
    by_cases hj : j < bzS L.length (1 + lv).toNat
    · rw [outI_at hj]; exact i64_liftO _ _
    · by_cases hj2 : j = bzS L.length (1 + lv).toNat
      · subst hj2
        have := @getD_app_at _ (outI kd L (bzS L.length (1 + lv).toNat)) (nowI kd L (bzS L.length (1 + lv).toNat)) []
        rw [outI_len] at this
        rw [this]
        exact i64_nowI hI _
      · have : ∀ (a : List (List Int)), a.length ≤ j → a.getD j [] = [] := fun a ha => by simp [List.getD_eq_getElem?_getD, List.getElem?_eq_none ha]
        rw [this _ (by simp [outI_len]; omega)]
        intro i
        simp
  simp (disch := first | assumption | omega | rfl | (refine id ?_; simp only [gxD, ne_eq, reduceCtorEq, not_false_eq_true, Nat.reduceAdd, *]; done) | (refine id ?_; simp only [gxD]; omega)) only [↓gxPre, gxPost, ↓reduceIte, Nat.reduceEqDiff, reduceCtorEq, Nat.reduceAdd]
  refine callR_of (i_DropLevels_law (by omega) ⟨hbs, p5t, hW⟩) ?_
  rintro _ G6 ⟨e6, dp, rfl, p6, _⟩
  simp only [r1, r2, selL_t] at p6 ⊢
  have hdp := p6.is
  have odp := hdp.one
  have e26 := e25.trans e6
  have t46 := (e4.trans e5).trans e6
  have t36 := e3.trans t46
  have t56 := e5.trans e6
  have B1 := A1.ext (e26)
  have hL6 := hL.ext e26
  have hlo6 := hlo.ext t36
  have hhi6 := hhi.ext t36
  have hbk6 := hbk.ext t46
  have hev6 := hev.ext t56
  have hod6 := hod.ext t56
  have hbs6 := hbs.ext e6
  have c2 : ((L.length : Int) + 1).tdiv 2 = (((L.length + 1) / 2 : Nat) : Int) := by
    have := tdivN (L.length + 1) 2
    simpa using this
  have c3 := tdiv2 L.length
  have llo := hlo6.len
  have lhi := hhi6.len
  have llv := hev6.len
  have lld := hod6.len
  have llb := hbk6.len
  have llp := hdp.len
  rw [lel] at llo
  rw [lol] at lhi
  rw [lev] at llv
  rw [lod] at lld
  simp (disch := first | assumption | omega | rfl | (refine id ?_; simp only [gxD, ne_eq, reduceCtorEq, not_false_eq_true, Nat.reduceAdd, *]; done) | (refine id ?_; simp only [gxD]; omega)) only [↓gxPre, gxPost, ↓reduceIte, Nat.reduceEqDiff, reduceCtorEq, Nat.reduceAdd, hL6.len, llo, lhi, llv, lld, llb, llp, c2, c3]
  refine loop_forH L.length (fun i => [v1, .slice (some ⟨o, 0, none⟩) L.length L.length, .int .i64 kd, .int .i64 (1 + lv), lo, hg, bk, ev, od, bs, dp, .int .i64 L.length, .int .i64 i]) (fun i G => G6 = G) rfl rfl ?_ ?_
  rotate_left
  · rintro i _ hi rfl
    have ci := tmod2 i
    have di := tdiv2 i
    by_cases c4 : i % 2 = 0
    · have ci' : ((i : Int)).tmod 2 = 0 := by rw [ci]; omega
      have hx : (evL (0 : Int) L L.length).getD (i / 2) 0 = L.getD i 0 := by rw [evL_at (by omega)]; congr 1; omega
      simp (disch := first | assumption | omega | rfl | (refine id ?_; simp only [gxD, ne_eq, reduceCtorEq, not_false_eq_true, Nat.reduceAdd, *]; done) | (refine id ?_; simp only [gxD]; omega)) only [↓gxPre, gxPost, ↓reduceIte, Nat.reduceEqDiff, reduceCtorEq, Nat.reduceAdd, hbk6.ia, hbk6.ld, hL6.ia, hL6.ld, hdp.ia, hdp.ld, hev6.ia, hev6.ld, lev, ci', di, hx]
      simp
    · have ci' : ((i : Int)).tmod 2 = 1 := by rw [ci]; omega
      have hx : (odL (0 : Int) L L.length).getD (i / 2) 0 = L.getD i 0 := by rw [odL_at (by omega)]; congr 1; omega
      simp (disch := first | assumption | omega | rfl | (refine id ?_; simp only [gxD, ne_eq, reduceCtorEq, not_false_eq_true, Nat.reduceAdd, *]; done) | (refine id ?_; simp only [gxD]; omega)) only [↓gxPre, gxPost, ↓reduceIte, Nat.reduceEqDiff, reduceCtorEq, Nat.reduceAdd, hbk6.ia, hbk6.ld, hL6.ia, hL6.ld, hdp.ia, hdp.ld, hod6.ia, hod6.ld, lod, ci', di, hx]
      simp
  rintro _ rfl
  simp (disch := first | assumption | omega | rfl | (refine id ?_; simp only [gxD, ne_eq, reduceCtorEq, not_false_eq_true, Nat.reduceAdd, *]; done) | (refine id ?_; simp only [gxD]; omega)) only [↓gxPre, gxPost, ↓reduceIte, Nat.reduceEqDiff, reduceCtorEq, Nat.reduceAdd, Int.lt_irrefl]
  refine callR_of (i_BandSizes_law (H := G6)) ?_
  rintro _ G7 ⟨e7, sz, rfl, p7, _⟩
  have hwn : within (L.length : Int) 1 128 = true := within_true.2 (by omega)
  simp only [hwn, hwl, Bool.and_self, selL_t, Int.toNat_natCast] at p7 ⊢
  have hsz := p7.is
  have osz := hsz.one
  have e67 := e6.trans e7
  have B2 := B1.ext e7
  have hL7 := hL6.ext e7
  have hlo7 := hlo6.ext e7
  have hhi7 := hhi6.ext e7
  have hbs7 := hbs6.ext e7
  have lsz := hsz.len
  have lbs := hbs7.len
  have hs1 : (castL (bzL L.length (1 + lv).toNat)).length = bzS L.length (1 + lv).toNat + 1 := by rw [castL_length, bzL]; simp [bzO_length]
  have hs2 := levelsI_len kd L (1 + lv).toNat
  rw [hs1] at lsz
  rw [hs2] at lbs
  simp (disch := first | assumption | omega | rfl | (refine id ?_; simp only [gxD, ne_eq, reduceCtorEq, not_false_eq_true, Nat.reduceAdd, *]; done) | (refine id ?_; simp only [gxD]; omega)) only [↓gxPre, gxPost, ↓reduceIte, Nat.reduceEqDiff, reduceCtorEq, Nat.reduceAdd, lsz, lbs]
  have hbz : bzS L.length (1 + lv).toNat ≤ (1 + lv).toNat := stopN_le _ _
  obtain ⟨us, hu, hul, hus⟩ := hbs7
  refine loop_forH (bzS L.length (1 + lv).toNat + 1) (fun i => [v1, .slice (some ⟨o, 0, none⟩) L.length L.length, .int .i64 kd, lo, hg, bs, .int .i64 L.length, sz, .int .i64 i]) (fun i G => G7 = G) rfl rfl ?_ ?_
  rotate_left
  · rintro i _ hi rfl
    have hx : (castL (bzL L.length (1 + lv).toNat)).getD i 0 = (((levelsI kd L (1 + lv).toNat).getD i []).length : Int) := by
      rw [castL_getD, ← levelsI_sizes kd, sizesJ_len]
    simp (disch := first | assumption | omega | rfl | (refine id ?_; simp only [gxD, ne_eq, reduceCtorEq, not_false_eq_true, Nat.reduceAdd, *]; done) | (refine id ?_; simp only [gxD]; omega)) only [↓gxPre, gxPost, ↓reduceIte, Nat.reduceEqDiff, reduceCtorEq, Nat.reduceAdd, lbs, hu.ia, hu.ldD, hul, hs2, (hus i (by omega)).len, hsz.ia, hsz.ld, hs1, hx]
    simp
  rintro _ rfl
  simp (disch := first | assumption | omega | rfl | (refine id ?_; simp only [gxD, ne_eq, reduceCtorEq, not_false_eq_true, Nat.reduceAdd, *]; done) | (refine id ?_; simp only [gxD]; omega)) only [↓gxPre, gxPost, ↓reduceIte, Nat.reduceEqDiff, reduceCtorEq, Nat.reduceAdd, lbs, Int.lt_irrefl]
  obtain ⟨c, hc⟩ : ∃ c, c = L.getD 0 0 := ⟨_, rfl⟩
  have hc0 : L.getD (Int.toNat 0) 0 = c := hc.symm
  have hc1 : L.getD 0 0 = c := hc.symm
  have hc2 : L[0]?.getD 0 = c := by rw [hc, List.getD_eq_getElem?_getD]
  clear hc
  refine loop_forH L.length (fun i => [v1, .slice (some ⟨o, 0, none⟩) L.length L.length, .int .i64 kd, lo, hg, .int .i64 L.length, .slice (some ⟨G7.n, 0, none⟩) i i, .int .i64 i])
    (fun i G => G7.n + 1 ≤ G.n ∧ Ext G7 G ∧ G.blk G7.n = some ⟨true, t_int64, (List.replicate i c).map iv⟩) rfl ⟨by simp only [new_n]; omega, ⟨by first | omega | (simp only [new_n, put_n]; omega) | (simp only [new_n, put_n] at *; omega), fun i hi => by simp (disch := first | assumption | omega | rfl | (refine id ?_; simp only [gxD, ne_eq, reduceCtorEq, not_false_eq_true, Nat.reduceAdd, *]; done) | (refine id ?_; simp only [gxD]; omega)) only [↓gxPre, gxPost, ↓reduceIte, Nat.reduceEqDiff, reduceCtorEq, Nat.reduceAdd, *]⟩, by simp (disch := first | assumption | omega | rfl | (refine id ?_; simp only [gxD, ne_eq, reduceCtorEq, not_false_eq_true, Nat.reduceAdd, *]; done) | (refine id ?_; simp only [gxD]; omega)) only [↓gxPre, gxPost, ↓reduceIte, Nat.reduceEqDiff, reduceCtorEq, Nat.reduceAdd]; rfl⟩ ?_ ?_
  rotate_left
  · rintro i G8 hi ⟨j1, j2, j3⟩
    have hL8 := hL7.ext j2
    have hlr : ((List.replicate i c).map iv).length = i := by simp
    have hsn : (List.replicate i c).map iv ++ [.int .i64 c] = (List.replicate (i + 1) c).map iv := by rw [List.replicate_succ', List.map_append]; rfl
    obtain ⟨f1, f2, f3, f4⟩ := push_at j2 j3 (Nat.le_refl _) (by omega) hsn
    simp (disch := first | assumption | omega | rfl | (refine id ?_; simp only [gxD, ne_eq, reduceCtorEq, not_false_eq_true, Nat.reduceAdd, *]; done) | (refine id ?_; simp only [gxD]; omega)) only [↓gxPre, gxPost, ↓reduceIte, Nat.reduceEqDiff, reduceCtorEq, Nat.reduceAdd, hL8.ia, hL8.ld, j3, rd1_at, hc0, hc1]
    exact ⟨by simp, by omega, f1, by rw [hsn]⟩
  rintro G8 ⟨j1, j2, j3⟩
  simp (disch := first | assumption | omega | rfl | (refine id ?_; simp only [gxD, ne_eq, reduceCtorEq, not_false_eq_true, Nat.reduceAdd, *]; done) | (refine id ?_; simp only [gxD]; omega)) only [↓gxPre, gxPost, ↓reduceIte, Nat.reduceEqDiff, reduceCtorEq, Nat.reduceAdd, Int.lt_irrefl]
  have hcb : -100 ≤ c ∧ c ≤ 100 := by rw [← hc1]; exact hIB 0
  have heq : Eq1 (List.replicate L.length c) c := fun j hj => by simp at hj; simp [List.getD_eq_getElem?_getD, hj]
  have hpb : IB (List.replicate L.length c) 100 := fun j => by
    by_cases hj : j < L.length
    · rw [heq j (by simpa using hj)]; exact hcb
    · have : (List.replicate L.length c).getD j 0 = 0 := by simp [List.getD_eq_getElem?_getD, List.getElem?_eq_none (l := List.replicate L.length c) (i := j) (by simp; omega)]
      rw [this]; omega
  have hpl : (List.replicate L.length c).length = L.length := by simp
  have hpi : integersF (List.replicate L.length c) = true := integers_of hpb (by omega) (by omega) (by omega)
  refine callR_of (i_LiftIntegers_law (by omega) ⟨IS.own j3 (by omega) hpl, by omega, hpb.i64 (by omega)⟩) ?_
  rintro _ G9 ⟨e9, pa, pb, rfl, p9, _, _⟩
  simp only [hw, hpi, Bool.and_self, selL_t] at p9 ⊢
  have hpa := p9.fst.is
  have hpb' := p9.snd.is
  have opa := hpa.one
  have opb := hpb'.one
  have e79 := j2.trans e9
  have hL9 := hL7.ext e79
  have hlo9 := hlo7.ext e79
  have hhi9 := hhi7.ext e79
  have B3 := B2.ext e79
  have lpa := hpa.len
  have lpb := hpb'.len
  have la9 := hlo9.len
  have lb9 := hhi9.len
  have kpa := liftE_length kd (List.replicate L.length c)
  have kpb := liftO_length kd (List.replicate L.length c)
  rw [kpa, hpl] at lpa
  rw [kpb, hpl] at lpb
  rw [lel] at la9
  rw [lol] at lb9
  have ea := liftE_eq (kind := kd) heq (by omega) (by omega)
  have eb := liftO_eq (kind := kd) heq (by omega) (by omega)
  simp (disch := first | assumption | omega | rfl | (refine id ?_; simp only [gxD, ne_eq, reduceCtorEq, not_false_eq_true, Nat.reduceAdd, *]; done) | (refine id ?_; simp only [gxD]; omega)) only [↓gxPre, gxPost, ↓reduceIte, Nat.reduceEqDiff, reduceCtorEq, Nat.reduceAdd, lpa, lpb, la9, lb9]
  refine loop_forH ((L.length + 1) / 2) (fun i => [v1, .slice (some ⟨o, 0, none⟩) L.length L.length, pa, pb, .int .i64 i]) (fun i G => G9 = G) rfl rfl ?_ ?_
  rotate_left
  · rintro i _ hi rfl
    have xa := ea i (by rw [kpa, hpl]; exact hi)
    by_cases c4 : i < L.length / 2
    · have xb := eb i (by rw [kpb, hpl]; exact c4)
      simp (disch := first | assumption | omega | rfl | (refine id ?_; simp only [gxD, ne_eq, reduceCtorEq, not_false_eq_true, Nat.reduceAdd, *]; done) | (refine id ?_; simp only [gxD]; omega)) only [↓gxPre, gxPost, ↓reduceIte, Nat.reduceEqDiff, reduceCtorEq, Nat.reduceAdd, lpa, lpb, hpa.ia, hpa.ld, hL9.ia, hL9.ld, hpb'.ia, hpb'.ld, kpa, kpb, hpl, xa, xb, hc0, hc1, hc2]
      simp
    · simp (disch := first | assumption | omega | rfl | (refine id ?_; simp only [gxD, ne_eq, reduceCtorEq, not_false_eq_true, Nat.reduceAdd, *]; done) | (refine id ?_; simp only [gxD]; omega)) only [↓gxPre, gxPost, ↓reduceIte, Nat.reduceEqDiff, reduceCtorEq, Nat.reduceAdd, lpa, lpb, hpa.ia, hpa.ld, hL9.ia, hL9.ld, kpa, kpb, hpl, xa, hc0, hc1, hc2]
      simp
  rintro _ rfl
  simp (disch := first | assumption | omega | rfl | (refine id ?_; simp only [gxD, ne_eq, reduceCtorEq, not_false_eq_true, Nat.reduceAdd, *]; done) | (refine id ?_; simp only [gxD]; omega)) only [↓gxPre, gxPost, ↓reduceIte, Nat.reduceEqDiff, reduceCtorEq, Nat.reduceAdd, lpa, Int.lt_irrefl]
  obtain ⟨m, m0, m1, hm⟩ := w_r8At_ok (k := 2) (n := 20) B3 (by omega) (by omega) (by omega)
  refine callR_pure hm (.inl rfl) ?_
  obtain ⟨p, x0, x1, hp⟩ := w_r8At_ok (k := 3) (n := 200) B3 (by omega) (by omega) (by omega)
  simp (disch := first | assumption | omega | rfl | (refine id ?_; simp only [gxD, ne_eq, reduceCtorEq, not_false_eq_true, Nat.reduceAdd, *]; done) | (refine id ?_; simp only [gxD]; omega)) only [↓gxPre, gxPost, ↓reduceIte, Nat.reduceEqDiff, reduceCtorEq, Nat.reduceAdd]
  refine callR_pure hp (.inl rfl) ?_
  simp (disch := first | assumption | omega | rfl | (refine id ?_; simp only [gxD, ne_eq, reduceCtorEq, not_false_eq_true, Nat.reduceAdd, *]; done) | (refine id ?_; simp only [gxD]; omega)) only [↓gxPre, gxPost, ↓reduceIte, Nat.reduceEqDiff, reduceCtorEq, Nat.reduceAdd]
  refine callR_pure (i_MirrorAt_ok (by omega) (by omega)) (.inl rfl) ?_
  simp (disch := first | assumption | omega | rfl | (refine id ?_; simp only [gxD, ne_eq, reduceCtorEq, not_false_eq_true, Nat.reduceAdd, *]; done) | (refine id ?_; simp only [gxD]; omega)) only [↓gxPre, gxPost, ↓reduceIte, Nat.reduceEqDiff, reduceCtorEq, Nat.reduceAdd]
  refine callR_pure (i_MirrorAt_ok (by omega) (by omega)) (.inl rfl) ?_
  simp (disch := first | assumption | omega | rfl | (refine id ?_; simp only [gxD, ne_eq, reduceCtorEq, not_false_eq_true, Nat.reduceAdd, *]; done) | (refine id ?_; simp only [gxD]; omega)) only [↓gxPre, gxPost, ↓reduceIte, Nat.reduceEqDiff, reduceCtorEq, Nat.reduceAdd]
  refine callR_pure (i_MirrorAt_ok (by omega) (by omega)) (.inl rfl) ?_
  have n1 := mir_range (n := 1 + m) (i := p - 100) (by omega)
  have n2 := mir_neg (n := 1 + m) (i := p - 100) (by omega)
  have n3 := mir_ref (n := 1 + m) (i := p - 100) (by omega)
  rw [show -(p - 100) = 0 - (p - 100) by omega] at n2
  by_cases d1 : p - 100 < 0
  · simp (disch := first | assumption | omega | rfl | (refine id ?_; simp only [gxD, ne_eq, reduceCtorEq, not_false_eq_true, Nat.reduceAdd, *]; done) | (refine id ?_; simp only [gxD]; omega)) only [↓gxPre, gxPost, ↓reduceIte, Nat.reduceEqDiff, reduceCtorEq, Nat.reduceAdd, n2, n3, d1]
  · by_cases d2 : 1 + m ≤ p - 100
    · simp (disch := first | assumption | omega | rfl | (refine id ?_; simp only [gxD, ne_eq, reduceCtorEq, not_false_eq_true, Nat.reduceAdd, *]; done) | (refine id ?_; simp only [gxD]; omega)) only [↓gxPre, gxPost, ↓reduceIte, Nat.reduceEqDiff, reduceCtorEq, Nat.reduceAdd, n2, n3, d1, d2]
    · have n4 := mir_in (n := 1 + m) (i := p - 100) (by omega) (by omega)
      simp (disch := first | assumption | omega | rfl | (refine id ?_; simp only [gxD, ne_eq, reduceCtorEq, not_false_eq_true, Nat.reduceAdd, *]; done) | (refine id ?_; simp only [gxD]; omega)) only [↓gxPre, gxPost, ↓reduceIte, Nat.reduceEqDiff, reduceCtorEq, Nat.reduceAdd, n2, n3, d1, d2, n4]
end Go.Proofs.Ytddekdgggpifmaa
