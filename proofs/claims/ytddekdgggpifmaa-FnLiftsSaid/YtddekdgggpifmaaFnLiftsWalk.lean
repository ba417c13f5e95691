/- The law FnLifts, walked: it returns true. -/
import Derived.Test.YtddekdgggpifmaaFnLiftsYVToYY
namespace Go.Proofs.Ytddekdgggpifmaa
open Go.Gx
set_option maxRecDepth 100000
set_option linter.unusedSimpArgs false
set_option linter.unusedVariables false
set_option maxHeartbeats 2000000
theorem w_FnLifts_ok {H : Heap} {v0 : Value} {xs0 : List Nat} (hv0 : YA H v0 xs0) {v1 : Value} {xs1 : List Nat} (hv1 : YA H v1 xs1) : ACalls Try.prog n_w_FnLifts [v0, v1] H fun r H' => r = .bool true := by
  refine k_w_FnLifts.run rfl ?_
  unfold c_w_FnLifts
  have o0 := Sl.one hv0.rd
  have o1 := Sl.one hv1.rd
  simp (disch := first | assumption | omega | rfl | (refine id ?_; simp only [gxD, ne_eq, reduceCtorEq, not_false_eq_true, Nat.reduceAdd, *]; done) | (refine id ?_; simp only [gxD]; omega)) only [↓gxPre, gxPost, ↓reduceIte, Nat.reduceEqDiff, reduceCtorEq, Nat.reduceAdd]
  refine callR_pure (w_r8Long_ok hv0 hv1) (.inl rfl) ?_
  by_cases c0 : (decide (48 < xs0.length) || decide (48 < xs1.length)) = true
  · rw [c0]
    simp (disch := first | assumption | omega | rfl | (refine id ?_; simp only [gxD, ne_eq, reduceCtorEq, not_false_eq_true, Nat.reduceAdd, *]; done) | (refine id ?_; simp only [gxD]; omega)) only [↓gxPre, gxPost, ↓reduceIte, Nat.reduceEqDiff, reduceCtorEq, Nat.reduceAdd]
  have c0' : (decide (48 < xs0.length) || decide (48 < xs1.length)) = false := by simpa using c0
  have cl : xs0.length ≤ 48 ∧ xs1.length ≤ 48 := by
    simp only [Bool.or_eq_false_iff, decide_eq_false_iff_not] at c0'
    omega
  have A0 := hv0.yb (by omega)
  have A1 := hv1.yb (by omega)
  rw [c0']
  simp (disch := first | assumption | omega | rfl | (refine id ?_; simp only [gxD, ne_eq, reduceCtorEq, not_false_eq_true, Nat.reduceAdd, *]; done) | (refine id ?_; simp only [gxD]; omega)) only [↓gxPre, gxPost, ↓reduceIte, Nat.reduceEqDiff, reduceCtorEq, Nat.reduceAdd]
  refine callR_of (s_R8List_ok A0) ?_
  rintro _ G ⟨e1, L, o, g1, g2, l1, l2, hQ, rfl, hbL⟩
  have hL : FS G (.slice (some ⟨o, 0, none⟩) L.length L.length) L := FS.own hbL g2 rfl
  have oL := hL.one
  have A1 := A1.ext e1
  simp (disch := first | assumption | omega | rfl | (refine id ?_; simp only [gxD, ne_eq, reduceCtorEq, not_false_eq_true, Nat.reduceAdd, *]; done) | (refine id ?_; simp only [gxD]; omega)) only [↓gxPre, gxPost, ↓reduceIte, Nat.reduceEqDiff, reduceCtorEq, Nat.reduceAdd]
  refine callR_of (s_R8Scheme_ok A1) ?_
  rintro _ G2 ⟨e2, q, ho, hs1, hs2, rfl, hbs⟩
  simp (disch := first | assumption | omega | rfl | (refine id ?_; simp only [gxD, ne_eq, reduceCtorEq, not_false_eq_true, Nat.reduceAdd, *]; done) | (refine id ?_; simp only [gxD]; omega)) only [↓gxPre, gxPost, ↓reduceIte, Nat.reduceEqDiff, reduceCtorEq, Nat.reduceAdd]
  refine callR_new ?_
  intro G3 e3 h3b h3n
  have e23 := e2.trans e3
  have hwl := wsQ_len q
  obtain ⟨wq, hwq⟩ : ∃ w, w = wsQ q := ⟨_, rfl⟩
  obtain ⟨sq, hsq⟩ : ∃ s, s = scQ q := ⟨_, rfl⟩
  have hws : FS G3 (.slice (some ⟨ho, 0, none⟩) (wsQ q).length (wsQ q).length) (wsQ q) := FS.own ((e3.blk ho hs2).trans hbs) (by omega) rfl
  have AW : AF G3 _ (wsQ q) := ⟨hws, by omega, wsQ_w q⟩
  have A1 := A1.ext e23
  have AL : AF G3 _ L := ⟨hL.ext e23, by omega, hQ.w32⟩
  obtain ⟨M, ⟨m1, m2⟩, hM8, hMb, _⟩ := qd_max hQ
  have h0M : 1 / 16 ≤ M := by grind_linarith
  obtain ⟨lv, v0', v1', hlv⟩ := w_r8At_ok (k := 40) (n := 6) A1 (by omega) (by omega) (by omega)
  refine callR_pure hlv (.inl rfl) ?_
  obtain ⟨n, hn, n1, n5⟩ : ∃ n : Nat, 1 + lv = (n : Int) ∧ 1 ≤ n ∧ n ≤ 6 := ⟨(1 + lv).toNat, by omega, by omega, by omega⟩
  simp (disch := first | assumption | omega | rfl | (refine id ?_; simp only [gxD, ne_eq, reduceCtorEq, not_false_eq_true, Nat.reduceAdd, *]; done) | (refine id ?_; simp only [gxD]; omega)) only [↓gxPre, gxPost, ↓reduceIte, Nat.reduceEqDiff, reduceCtorEq, Nat.reduceAdd, hn, h3b]
  obtain ⟨t1, t2, t3, t4⟩ := both_once q hQ h0M hM8 hMb l1 l2
  have hlong := hQ.long l1 l2
  have hsch := scheme_ok q
  have k1 := liftF_len1 (wsQ q) (scQ q) L
  have k2 := liftF_len2 (wsQ q) (scQ q) L
  refine callR_of (i_LiftOnce_law AW (scQ_lt q) AL) ?_
  rintro _ G4 ⟨e4, lo, hi, rfl, p4, _, _⟩
  simp only [hsch, hlong, t1, Bool.and_self, selL_t] at p4 ⊢
  have hlo := p4.fst.fs
  have hhi := p4.snd.fs
  have olo := hlo.one
  have ohi := hhi.one
  have h4b := (e4.blk G2.n (by omega)).trans h3b
  simp (disch := first | assumption | omega | rfl | (refine id ?_; simp only [gxD, ne_eq, reduceCtorEq, not_false_eq_true, Nat.reduceAdd, *]; done) | (refine id ?_; simp only [gxD]; omega)) only [↓gxPre, gxPost, ↓reduceIte, Nat.reduceEqDiff, reduceCtorEq, Nat.reduceAdd, h4b]
  obtain ⟨w1, w2⟩ := liftF_w (ws := wsQ q) (sc := scQ q) hQ.w32
  refine callR_of (i_DropOnce_law (AW.ext e4) (scQ_lt q) ⟨hlo, by omega, w1⟩ ⟨hhi, by omega, w2⟩) ?_
  rintro _ G5 ⟨e5, bk, rfl, p5, _⟩
  simp only [t2, selL_t] at p5 ⊢
  have hbk := p5.fs
  have obk := hbk.one
  have h5b := (e5.blk G2.n (by have := e4.n; omega)).trans h4b
  have e35 := e4.trans e5
  simp (disch := first | assumption | omega | rfl | (refine id ?_; simp only [gxD, ne_eq, reduceCtorEq, not_false_eq_true, Nat.reduceAdd, *]; done) | (refine id ?_; simp only [gxD]; omega)) only [↓gxPre, gxPost, ↓reduceIte, Nat.reduceEqDiff, reduceCtorEq, Nat.reduceAdd, h5b]
  have hdeep := both_deep q hQ h0M hM8 hMb l1 l2 n1 n5
  refine callR_of (i_LiftDeep_law (AW.ext e35) (scQ_lt q) (AL.ext e35) (by omega)) ?_
  rintro _ G6 ⟨e6, bs, rfl, p6, t6⟩
  simp only [hdeep, selL_t, Int.toNat_natCast] at p6 t6 ⊢
  have hbsS := p6.ss
  have obs := p6.one
  have h6b := (e6.blk G2.n (by have := e35.n; omega)).trans h5b
  have e36 := e35.trans e6
  have AB : AS G6 bs (levelsD (wsQ q) (scQ q) L n) := ⟨hbsS, t6, levelsD_w hQ.w32 n⟩
  simp (disch := first | assumption | omega | rfl | (refine id ?_; simp only [gxD, ne_eq, reduceCtorEq, not_false_eq_true, Nat.reduceAdd, *]; done) | (refine id ?_; simp only [gxD]; omega)) only [↓gxPre, gxPost, ↓reduceIte, Nat.reduceEqDiff, reduceCtorEq, Nat.reduceAdd, h6b]
  refine callR_of (i_DropDeep_law (AW.ext e36) (scQ_lt q) AB) ?_
  rintro _ G7 ⟨e7, dp, rfl, p7, _⟩
  have hun := both_un q hQ h0M hM8 hMb l1 l2 n1 n5
  simp only [hun, selL_t] at p7 ⊢
  have hdp := p7.fs
  have odp := hdp.one
  simp (disch := first | assumption | omega | rfl | (refine id ?_; simp only [gxD, ne_eq, reduceCtorEq, not_false_eq_true, Nat.reduceAdd, *]; done) | (refine id ?_; simp only [gxD]; omega)) only [↓gxPre, gxPost, ↓reduceIte, Nat.reduceEqDiff, reduceCtorEq, Nat.reduceAdd]
  have hbands := both_bands q hQ h0M hM8 hMb l1 l2 n1 n5
  refine callR_of (i_FlatBands_law (⟨hbsS.ext e7, t6, AB.w⟩ : AS G7 bs _)) ?_
  rintro _ G8 ⟨e8, fl, rfl, p8, _⟩
  have bsl := levelsD_bz (wsQ q) (scQ q) L n
  have h4 := bz_four ⟨L.length, by omega⟩ ⟨n, by omega⟩
  simp only at h4
  have hsz := levelsD_sizes (wsQ q) (scQ q) L n
  have hsuf := levels_suf (wsQ q) (scQ q) L n (stopN (moreD (wsQ q) (scQ q) L) n) 0 (by omega)
  have hrow : ∀ k, k < (levelsD (wsQ q) (scQ q) L n).length → BL 256 ((levelsD (wsQ q) (scQ q) L n).getD k []) := fun k hk => both_row q hQ h0M hM8 hMb l2 n5 (by omega)
  obtain ⟨bq1, bq2⟩ := both_back q hQ h0M hM8 hMb l1 l2 n5 (t := bzS L.length n) (Nat.le_refl _)
  rw [Nat.sub_self] at bq1 bq2
  have zz : bzN L.length 0 = L.length := rfl
  have zn : nowD (wsQ q) (scQ q) L 0 = L := rfl
  rw [zz] at bq1 bq2
  rw [zn] at bq2
  rw [zn] at hsuf
  simp only [hbands, selL_t] at p8 ⊢
  rw [show (levelsD (wsQ q) (scQ q) L n).length - 1 = bzS L.length n by omega] at p7 hdp
  rw [hsz] at hsuf
  generalize hxss : levelsD (wsQ q) (scQ q) L n = xss at *
  have hfl := flat_suf xss xss.length (Nat.le_refl _)
  rw [Nat.sub_self, hsz, hsuf] at hfl
  have hFB := bl_flat hrow xss.length (Nat.le_refl _)
  obtain ⟨en1, en2, r, en3, en4⟩ := en_ok (by omega) (by omega) hrow
  have hflat := p8.fs
  have ofl := hflat.one
  have hcut := cut_flat xss
  generalize hF : flatF xss xss.length = F at *
  have hlF : isLongF F = true := by unfold isLongF; rw [hFB.all, within_true.2 (by omega)]; rfl
  have hsF : sufS (bzL F.length n) 0 = F.length := by rw [hfl]; exact hsuf
  simp (disch := first | assumption | omega | rfl | (refine id ?_; simp only [gxD, ne_eq, reduceCtorEq, not_false_eq_true, Nat.reduceAdd, *]; done) | (refine id ?_; simp only [gxD]; omega)) only [↓gxPre, gxPost, ↓reduceIte, Nat.reduceEqDiff, reduceCtorEq, Nat.reduceAdd]
  refine callR_of (i_CutFlat_law hflat hlF n1 n5 hsF) ?_
  rintro _ G9 ⟨e9, ct, rfl, p9⟩
  rw [hfl, ← hsz, hcut] at p9
  have hct := p9.ss
  have oct := p9.one
  simp (disch := first | assumption | omega | rfl | (refine id ?_; simp only [gxD, ne_eq, reduceCtorEq, not_false_eq_true, Nat.reduceAdd, *]; done) | (refine id ?_; simp only [gxD]; omega)) only [↓gxPre, gxPost, ↓reduceIte, Nat.reduceEqDiff, reduceCtorEq, Nat.reduceAdd]
  have e68 := e7.trans e8
  have e69 := e68.trans e9
  refine callR_of (i_FlatBands_law (⟨hct, t6, AB.w⟩ : AS G9 ct xss)) ?_
  rintro _ Ga ⟨ea, ag, rfl, pa, _⟩
  simp only [hbands, selL_t, hF] at pa ⊢
  have hag := pa.fs
  have oag := hag.one
  simp (disch := first | assumption | omega | rfl | (refine id ?_; simp only [gxD, ne_eq, reduceCtorEq, not_false_eq_true, Nat.reduceAdd, *]; done) | (refine id ?_; simp only [gxD]; omega)) only [↓gxPre, gxPost, ↓reduceIte, Nat.reduceEqDiff, reduceCtorEq, Nat.reduceAdd]
  have e6a := e69.trans ea
  refine callR_of (i_ListEnergies_law (⟨hbsS.ext e6a, t6, AB.w⟩ : AS Ga bs xss)) ?_
  rintro _ Gb ⟨eb, es, rfl, pb, _⟩
  have hen : (tabL xss.length (sqF xss)).all finF = true := all_fin fun k hk => by
    rw [tabL_length] at hk
    have : (tabL xss.length (sqF xss)).getD k 0 = squaresF (xss.getD k []) := getD_range_map hk
    rw [this]
    exact en1 k hk
  simp only [hbands, hen, Bool.and_self, selL_t] at pb ⊢
  have hes := pb.fs
  have oes := hes.one
  simp (disch := first | assumption | omega | rfl | (refine id ?_; simp only [gxD, ne_eq, reduceCtorEq, not_false_eq_true, Nat.reduceAdd, *]; done) | (refine id ?_; simp only [gxD]; omega)) only [↓gxPre, gxPost, ↓reduceIte, Nat.reduceEqDiff, reduceCtorEq, Nat.reduceAdd]
  have e6b := e6a.trans eb
  have e8b := (e9.trans ea).trans eb
  refine callR_of (i_EnergyOf_law (hflat.ext e8b) (by omega) hlF) ?_
  rintro _ Gc ⟨rfl, ec⟩
  have hef : finF (squaresF F) = true := en2.fin
  unfold numV
  simp (disch := first | assumption | omega | rfl | (refine id ?_; simp only [gxD, ne_eq, reduceCtorEq, not_false_eq_true, Nat.reduceAdd, *]; done) | (refine id ?_; simp only [gxD]; omega)) only [↓gxPre, gxPost, ↓reduceIte, Nat.reduceEqDiff, reduceCtorEq, Nat.reduceAdd, hef]
  have e4c := (((e5.trans e6).trans e6b).trans ec)
  have e6c := e6b.trans ec
  have llo := hlo.len
  have lhi := hhi.len
  have lbk := hbk.len
  have lbs := hbsS.len
  have ldp := hdp.len
  have lfl := hflat.len
  have lct := hct.len
  have lag := hag.len
  have les := hes.len
  rw [k1] at llo
  rw [k2] at lhi
  rw [t3] at lbk
  rw [bq1] at ldp
  rw [hfl] at lfl lag
  rw [tabL_length] at les
  have q1 : Int.tdiv ((L.length : Int) + 1) 2 = ((L.length + 1) / 2 : Nat) := by rw [Int.tdiv_eq_ediv_of_nonneg (by omega)]; omega
  have q2 : Int.tdiv (L.length : Int) 2 = (L.length / 2 : Nat) := by rw [Int.tdiv_eq_ediv_of_nonneg (by omega)]; omega
  simp (disch := first | assumption | omega | rfl | (refine id ?_; simp only [gxD, ne_eq, reduceCtorEq, not_false_eq_true, Nat.reduceAdd, *]; done) | (refine id ?_; simp only [gxD]; omega)) only [↓gxPre, gxPost, ↓reduceIte, Nat.reduceEqDiff, reduceCtorEq, Nat.reduceAdd, llo, lhi, lbk, lbs, ldp, lfl, lct, lag, les, q1, q2]
  refine callR_ext (i_AreBands_ok (hbsS.ext e6c) t6) ?_
  intro Gd nd bd
  have ed : Ext Gc Gd := ⟨nd, bd⟩
  simp (disch := first | assumption | omega | rfl | (refine id ?_; simp only [gxD, ne_eq, reduceCtorEq, not_false_eq_true, Nat.reduceAdd, *]; done) | (refine id ?_; simp only [gxD]; omega)) only [↓gxPre, gxPost, ↓reduceIte, Nat.reduceEqDiff, reduceCtorEq, Nat.reduceAdd, hbands]
  have e3d := (e36.trans e6c).trans ed
  refine callR_ext (i_IsList_ok (AL.rd.ext e3d) AL.le) ?_
  intro Ge ne be
  have ee : Ext Gd Ge := ⟨ne, be⟩
  simp (disch := first | assumption | omega | rfl | (refine id ?_; simp only [gxD, ne_eq, reduceCtorEq, not_false_eq_true, Nat.reduceAdd, *]; done) | (refine id ?_; simp only [gxD]; omega)) only [↓gxPre, gxPost, ↓reduceIte, Nat.reduceEqDiff, reduceCtorEq, Nat.reduceAdd, hlong]
  have e3e := e3d.trans ee
  have ece := ed.trans ee
  have e6e := e6c.trans ece
  have ebe := ec.trans ece
  have e9e := (ea.trans eb).trans ebe
  have e7e := ((e8.trans e9).trans e9e)
  have e5e := (e6.trans e6e)
  have e8e := e8b.trans ebe
  have eae := eb.trans ebe
  have hbsE := hbsS.ext e6e
  have hctE := hct.ext e9e
  have hesE := hes.ext ebe
  obtain ⟨us, hu, hul, hus⟩ := hbsE
  obtain ⟨vs, hv, hvl, hvs⟩ := hctE
  have hxl : xss.length ≤ 7 := by omega
  refine loop_forH xss.length (fun k => [.slice (some ⟨o, 0, none⟩) L.length L.length, .pointer (some ⟨G2.n, 0, some 2⟩), .int .i64 L.length, bk, bs, dp, fl, ct, ag, es, .float .f32 (squaresF F), .float .f64 (enS xss k), .int .i64 k]) (fun k J => Ge = J) rfl rfl ?_ ?_
  rotate_left
  · rintro k _ hk rfl
    have hxr := (hus k (by omega)).len
    have hyr := (hvs k (by omega)).len
    have htb : (tabL xss.length (sqF xss)).getD k 0 = squaresF (xss.getD k []) := getD_range_map hk
    have htl : (tabL xss.length (sqF xss)).length = xss.length := tabL_length _ _
    have hes1 := enS_succ xss k
    simp (disch := first | assumption | omega | rfl | (refine id ?_; simp only [gxD, ne_eq, reduceCtorEq, not_false_eq_true, Nat.reduceAdd, *]; done) | (refine id ?_; simp only [gxD]; omega)) only [↓gxPre, gxPost, ↓reduceIte, Nat.reduceEqDiff, reduceCtorEq, Nat.reduceAdd, lbs, hu.ia, hu.ldD, hul, hv.ia, hv.ldD, hvl, hxr, hyr, hesE.ia, hesE.ld, htl, htb]
    rw [hes1]
    simp
  rintro _ rfl
  simp (disch := first | assumption | omega | rfl | (refine id ?_; simp only [gxD, ne_eq, reduceCtorEq, not_false_eq_true, Nat.reduceAdd, *]; done) | (refine id ?_; simp only [gxD]; omega)) only [↓gxPre, gxPost, ↓reduceIte, Nat.reduceEqDiff, reduceCtorEq, Nat.reduceAdd, lbs, Int.lt_irrefl]
  obtain ⟨c1, c2⟩ := c001_val
  obtain ⟨d1, d2⟩ := c01_val
  have hLE := AL.rd.ext e3e
  have hbkE := hbk.ext e5e
  have hdpE := hdp.ext e7e
  have hflE := hflat.ext e8e
  have hagE := hag.ext eae
  refine loop_forH L.length (fun i => [.slice (some ⟨o, 0, none⟩) L.length L.length, .pointer (some ⟨G2.n, 0, some 2⟩), .int .i64 L.length, bk, dp, fl, ag, .float .f32 (squaresF F), .float .f64 (enS xss xss.length), .int .i64 i]) (fun i J => Ge = J) rfl rfl ?_ ?_
  rotate_left
  · rintro i _ hi rfl
    obtain ⟨u1, u2, u3⟩ := t4 i hi
    obtain ⟨x1, x2, x3⟩ := bq2 i hi
    have hLF := (hQ i hi).ok.1
    obtain ⟨f1, f2⟩ := f64_fin u1
    obtain ⟨f3, f4⟩ := f64_fin hLF
    obtain ⟨f5, f6⟩ := f64_fin x1
    unfold vF at u2 u3 x2 x3
    obtain ⟨r1, hr1, hr2⟩ := gap8_le f1 f3 c1 (by rw [f2, f4, c2]; grind_linarith) (by rw [f2, f4, c2]; grind_linarith)
    obtain ⟨r2, hr3, hr4⟩ := gap8_le f5 f3 d1 (by rw [f6, f4, d2]; grind_linarith) (by rw [f6, f4, d2]; grind_linarith)
    have hFi := (hFB i (by omega)).1
    have hnn := fcB_neq hFi hFi
    rw [decide_eq_true rfl, Bool.not_true] at hnn
    simp (disch := first | assumption | omega | rfl | (refine id ?_; simp only [gxD, ne_eq, reduceCtorEq, not_false_eq_true, Nat.reduceAdd, *]; done) | (refine id ?_; simp only [gxD]; omega)) only [↓gxPre, gxPost, ↓reduceIte, Nat.reduceEqDiff, reduceCtorEq, Nat.reduceAdd, hLE.ia, hLE.ld, hbkE.ia, hbkE.ld, t3, hdpE.ia, hdpE.ld, bq1, hflE.ia, hflE.ld, hagE.ia, hagE.ld, hfl]
    refine callR_pure (w_r8Gap_ok hr1) (by first | exact .inl rfl | (simp (disch := first | assumption | omega | rfl | (refine id ?_; simp only [gxD, ne_eq, reduceCtorEq, not_false_eq_true, Nat.reduceAdd, *]; done) | (refine id ?_; simp only [gxD]; omega)) only [↓gxPre, gxPost, ↓reduceIte, Nat.reduceEqDiff, reduceCtorEq, Nat.reduceAdd]; done)) ?_
    simp (disch := first | assumption | omega | rfl | (refine id ?_; simp only [gxD, ne_eq, reduceCtorEq, not_false_eq_true, Nat.reduceAdd, *]; done) | (refine id ?_; simp only [gxD]; omega)) only [↓gxPre, gxPost, ↓reduceIte, Nat.reduceEqDiff, reduceCtorEq, Nat.reduceAdd, hr2, hLE.ia, hLE.ld, hbkE.ia, hbkE.ld, t3, hdpE.ia, hdpE.ld, bq1, hflE.ia, hflE.ld, hagE.ia, hagE.ld, hfl]
    refine callR_pure (w_r8Gap_ok hr3) (by first | exact .inl rfl | (simp (disch := first | assumption | omega | rfl | (refine id ?_; simp only [gxD, ne_eq, reduceCtorEq, not_false_eq_true, Nat.reduceAdd, *]; done) | (refine id ?_; simp only [gxD]; omega)) only [↓gxPre, gxPost, ↓reduceIte, Nat.reduceEqDiff, reduceCtorEq, Nat.reduceAdd]; done)) ?_
    simp (disch := first | assumption | omega | rfl | (refine id ?_; simp only [gxD, ne_eq, reduceCtorEq, not_false_eq_true, Nat.reduceAdd, *]; done) | (refine id ?_; simp only [gxD]; omega)) only [↓gxPre, gxPost, ↓reduceIte, Nat.reduceEqDiff, reduceCtorEq, Nat.reduceAdd, hr4, hLE.ia, hLE.ld, hbkE.ia, hbkE.ld, t3, hdpE.ia, hdpE.ld, bq1, hflE.ia, hflE.ld, hagE.ia, hagE.ld, hfl, hnn]
    simp
  rintro _ rfl
  simp (disch := first | assumption | omega | rfl | (refine id ?_; simp only [gxD, ne_eq, reduceCtorEq, not_false_eq_true, Nat.reduceAdd, *]; done) | (refine id ?_; simp only [gxD]; omega)) only [↓gxPre, gxPost, ↓reduceIte, Nat.reduceEqDiff, reduceCtorEq, Nat.reduceAdd, Int.lt_irrefl]
  refine callR_pure (w_r8Gap_ok en3) (by first | exact .inl rfl | (simp (disch := first | assumption | omega | rfl | (refine id ?_; simp only [gxD, ne_eq, reduceCtorEq, not_false_eq_true, Nat.reduceAdd, *]; done) | (refine id ?_; simp only [gxD]; omega)) only [↓gxPre, gxPost, ↓reduceIte, Nat.reduceEqDiff, reduceCtorEq, Nat.reduceAdd]; done)) ?_
  simp (disch := first | assumption | omega | rfl | (refine id ?_; simp only [gxD, ne_eq, reduceCtorEq, not_false_eq_true, Nat.reduceAdd, *]; done) | (refine id ?_; simp only [gxD]; omega)) only [↓gxPre, gxPost, ↓reduceIte, Nat.reduceEqDiff, reduceCtorEq, Nat.reduceAdd, en4]
  have heb := (e3e.blk G2.n (by omega)).trans h3b
  obtain ⟨w, hw0⟩ : ∃ w, w = L.getD 0 0 := ⟨_, rfl⟩
  have hQw : Qd w := by rw [hw0]; exact hQ 0 (by omega)
  have hMw : Bd (fval .f32 w) M := by rw [hw0]; exact hMb 0 (by omega)
  have hc0 : L.getD (Int.toNat 0) 0 = w := hw0.symm
  have hc1 : L.getD 0 0 = w := hw0.symm
  have hc2 : L[0]?.getD 0 = w := by rw [hw0, List.getD_eq_getElem?_getD]
  clear hw0
  refine loop_forH L.length (fun i => [.slice (some ⟨o, 0, none⟩) L.length L.length, .pointer (some ⟨G2.n, 0, some 2⟩), .int .i64 L.length, .slice (some ⟨Ge.n, 0, none⟩) i i, .slice (some ⟨Ge.n + 1, 0, none⟩) i i, .int .i64 i])
    (fun i J => Ge.n + 2 ≤ J.n ∧ Ext Ge J ∧ J.blk Ge.n = some ⟨true, t_float32, (List.replicate i w).map fv⟩ ∧ J.blk (Ge.n + 1) = some ⟨true, t_float32, (lineL w i).map fv⟩) rfl ⟨by simp only [new_n]; omega, ⟨by first | omega | (simp only [new_n, put_n]; omega) | (simp only [new_n, put_n] at *; omega), fun i hi => by simp (disch := first | assumption | omega | rfl | (refine id ?_; simp only [gxD, ne_eq, reduceCtorEq, not_false_eq_true, Nat.reduceAdd, *]; done) | (refine id ?_; simp only [gxD]; omega)) only [↓gxPre, gxPost, ↓reduceIte, Nat.reduceEqDiff, reduceCtorEq, Nat.reduceAdd, *]⟩, by simp (disch := first | assumption | omega | rfl | (refine id ?_; simp only [gxD, ne_eq, reduceCtorEq, not_false_eq_true, Nat.reduceAdd, *]; done) | (refine id ?_; simp only [gxD]; omega)) only [↓gxPre, gxPost, ↓reduceIte, Nat.reduceEqDiff, reduceCtorEq, Nat.reduceAdd]; rfl, by simp (disch := first | assumption | omega | rfl | (refine id ?_; simp only [gxD, ne_eq, reduceCtorEq, not_false_eq_true, Nat.reduceAdd, *]; done) | (refine id ?_; simp only [gxD]; omega)) only [↓gxPre, gxPost, ↓reduceIte, Nat.reduceEqDiff, reduceCtorEq, Nat.reduceAdd]; rfl⟩ ?_ ?_
  rotate_left
  · rintro i J hi ⟨j1, j2, j3, j4⟩
    have hLJ := hLE.ext j2
    have hlr : ((List.replicate i w).map fv).length = i := by simp
    have hll : ((lineL w i).map fv).length = i := by simp [lineL_len]
    have hsn : (List.replicate i w).map fv ++ [.float .f32 w] = (List.replicate (i + 1) w).map fv := by rw [List.replicate_succ', List.map_append]; rfl
    have hsl := lineL_snoc w i
    have hmw : fbin .mul .f32 w (i2f .f32 (i : Int)) = lineW w i := rfl
    obtain ⟨f1, f2, f3, f4⟩ := push_at j2 j3 (Nat.le_refl _) (by omega) hsn
    obtain ⟨J1, hJ1⟩ : ∃ J1, J1 = (J.new ⟨true, t_float32, [.float .f32 w]⟩).put Ge.n ⟨true, t_float32, (List.replicate i w).map fv ++ [.float .f32 w]⟩ := ⟨_, rfl⟩
    rw [← hJ1] at f1 f2 f3 f4
    have j4' := (f4 (Ge.n + 1) (by omega) (by omega)).trans j4
    obtain ⟨g1, g2, g3, g4⟩ := push_at f1 j4' (by omega) (by omega) hsl
    have hLJ1 := hLE.ext f1
    have gk := (g4 Ge.n (by omega) (by omega)).trans f2
    simp (disch := first | assumption | omega | rfl | (refine id ?_; simp only [gxD, ne_eq, reduceCtorEq, not_false_eq_true, Nat.reduceAdd, *]; done) | (refine id ?_; simp only [gxD]; omega)) only [↓gxPre, gxPost, ↓reduceIte, Nat.reduceEqDiff, reduceCtorEq, Nat.reduceAdd, hLJ.ia, hLJ.ld, j3, rd1_at, hc0, hc1]
    rw [← hJ1]
    clear hJ1
    have hia : iaB (J1.blk o) o 0 L.length L.length 0 = some (elp (.slice (some ⟨o, 0, none⟩) L.length L.length) 0) := hLJ1.ia .i64 0 (by omega) (by omega)
    simp (disch := first | assumption | omega | rfl | (refine id ?_; simp only [gxD, ne_eq, reduceCtorEq, not_false_eq_true, Nat.reduceAdd, *]; done) | (refine id ?_; simp only [gxD]; omega)) only [↓gxPre, gxPost, ↓reduceIte, Nat.reduceEqDiff, reduceCtorEq, Nat.reduceAdd, hia, hLJ1.ia, hLJ1.ld, j4', rd1_at, hc0, hc1, hmw]
    exact ⟨by simp, by omega, g1, f2, by rw [hsl]⟩
  rintro J ⟨j1, j2, j3, j4⟩
  have hbJ := (j2.blk G2.n (by have := e3e.n; omega)).trans heb
  simp (disch := first | assumption | omega | rfl | (refine id ?_; simp only [gxD, ne_eq, reduceCtorEq, not_false_eq_true, Nat.reduceAdd, *]; done) | (refine id ?_; simp only [gxD]; omega)) only [↓gxPre, gxPost, ↓reduceIte, Nat.reduceEqDiff, reduceCtorEq, Nat.reduceAdd, Int.lt_irrefl, hbJ]
  have e3J := e3e.trans j2
  have hpl : (List.replicate L.length w).length = L.length := by simp
  have hpQ := QdL.rep hQw L.length
  have hpF : FS J (.slice (some ⟨Ge.n, 0, none⟩) L.length L.length) (List.replicate L.length w) := FS.own j3 (by omega) (by simp)
  have hlF2 : FS J (.slice (some ⟨Ge.n + 1, 0, none⟩) L.length L.length) (lineL w L.length) := FS.own j4 (by omega) (lineL_len w L.length)
  obtain ⟨a1, _, _, _⟩ := both_once q hpQ h0M hM8 (fun i hi => by unfold vF; rw [rep_at (by omega)]; exact hMw) (by omega) (by omega)
  have hpl2 := hpQ.long (by omega) (by omega)
  refine callR_of (i_LiftOnce_law (AW.ext e3J) (scQ_lt q) ⟨hpF, by omega, hpQ.w32⟩) ?_
  rintro _ Gf ⟨ef, z1, od, rfl, pf, _, _⟩
  simp only [hsch, hpl2, a1, Bool.and_self, selL_t] at pf ⊢
  have hod := pf.snd.fs
  have ood := hod.one
  simp (disch := first | assumption | omega | rfl | (refine id ?_; simp only [gxD, ne_eq, reduceCtorEq, not_false_eq_true, Nat.reduceAdd, *]; done) | (refine id ?_; simp only [gxD]; omega)) only [↓gxPre, gxPost, ↓reduceIte, Nat.reduceEqDiff, reduceCtorEq, Nat.reduceAdd]
  refine callR_of i_LinesScheme_ok ?_
  rintro _ Gg ⟨eg, hs, hsa, hsb, rfl, hbs2⟩
  have hww : W32 linesW := wsQ_w false
  have AW2 : AF Gg (.slice (some ⟨hs, 0, none⟩) 2 2) linesW := ⟨FS.own hbs2 (by omega) rfl, by decide, hww⟩
  obtain ⟨y1, y2⟩ := line_ok hQw l1 l2
  have hsc2 : schemeF linesW 1065353216 = true := lines_scheme
  have efg := ef.trans eg
  simp (disch := first | assumption | omega | rfl | (refine id ?_; simp only [gxD, ne_eq, reduceCtorEq, not_false_eq_true, Nat.reduceAdd, *]; done) | (refine id ?_; simp only [gxD]; omega)) only [↓gxPre, gxPost, ↓reduceIte, Nat.reduceEqDiff, reduceCtorEq, Nat.reduceAdd]
  refine callR_of (i_LiftOnce_law AW2 (by decide) ⟨hlF2.ext efg, by rw [lineL_len]; omega, lineL_w w _⟩) ?_
  rintro _ Gh ⟨eh, z2, rp, rfl, ph, _, _⟩
  simp only [hsc2, y1, y2, Bool.and_self, selL_t] at ph ⊢
  have hrp := ph.snd.fs
  have orp := hrp.one
  have egh := eg.trans eh
  have hodH := hod.ext egh
  have lod := hodH.len
  have lrp := hrp.len
  have kod := liftF_len2 (wsQ q) (scQ q) (List.replicate L.length w)
  have krp := liftF_len2 linesW 1065353216 (lineL w L.length)
  rw [hpl] at kod
  rw [lineL_len] at krp
  rw [kod] at lod
  rw [krp] at lrp
  simp (disch := first | assumption | omega | rfl | (refine id ?_; simp only [gxD, ne_eq, reduceCtorEq, not_false_eq_true, Nat.reduceAdd, *]; done) | (refine id ?_; simp only [gxD]; omega)) only [↓gxPre, gxPost, ↓reduceIte, Nat.reduceEqDiff, reduceCtorEq, Nat.reduceAdd, lod, lrp, q2]
  have hLH := ((hLE.ext j2).ext efg).ext eh
  have hwF := hQw.ok.1
  obtain ⟨r2, hr3, hr4, hr5⟩ := gap8_zero hwF
  refine loop_forH (L.length / 2) (fun i => [.slice (some ⟨o, 0, none⟩) L.length L.length, .int .i64 L.length, od, rp, .int .i64 i]) (fun i K => Gh = K) rfl rfl ?_ ?_
  · rintro _ rfl
    simp (disch := first | assumption | omega | rfl | (refine id ?_; simp only [gxD, ne_eq, reduceCtorEq, not_false_eq_true, Nat.reduceAdd, *]; done) | (refine id ?_; simp only [gxD]; omega)) only [↓gxPre, gxPost, ↓reduceIte, Nat.reduceEqDiff, reduceCtorEq, Nat.reduceAdd, q2, Int.lt_irrefl]
  · rintro i _ hi rfl
    obtain ⟨x1, x2⟩ := both_flat q hQw (show 2 ≤ L.length by omega) l2 hi
    obtain ⟨x3, x4⟩ := line_flat hQw (show 2 ≤ L.length by omega) l2 hi
    have hone : oneW = 1065353216 := rfl
    rw [hone] at x3 x4
    obtain ⟨r1, hr1, hr2, hr6⟩ := gap8_zero x1
    have hg := odd_ok hr2 hr4 (by rw [hr6]; exact absR_le x2) (by rw [hr5]; exact absR_pos _) (by rw [hr5]; exact absR_le ⟨by have := hMw.1; grind_linarith, by have := hMw.2; grind_linarith⟩)
    have hii : ((i : Int) < ((L.length / 2 : Nat) : Int)) := by omega
    simp (disch := first | assumption | omega | rfl | (refine id ?_; simp only [gxD, ne_eq, reduceCtorEq, not_false_eq_true, Nat.reduceAdd, *]; done) | (refine id ?_; simp only [gxD]; omega)) only [↓gxPre, gxPost, ↓reduceIte, Nat.reduceEqDiff, reduceCtorEq, Nat.reduceAdd, q2, hii, hodH.ia, hodH.ld, kod, hLH.ia, hLH.ld, hc0, hc1]
    refine callR_pure (w_r8Gap_ok hr1) (by first | exact .inl rfl | exact ⟨hLH.ia .i64 0 (by omega) (by omega), (hLH.ld 0 (by omega)).trans (by rw [hc1])⟩ | (simp (disch := first | assumption | omega | rfl | (refine id ?_; simp only [gxD, ne_eq, reduceCtorEq, not_false_eq_true, Nat.reduceAdd, *]; done) | (refine id ?_; simp only [gxD]; omega)) only [↓gxPre, gxPost, ↓reduceIte, Nat.reduceEqDiff, reduceCtorEq, Nat.reduceAdd, hLH.ia, hLH.ld, hc0, hc1]; done)) ?_
    simp (disch := first | assumption | omega | rfl | (refine id ?_; simp only [gxD, ne_eq, reduceCtorEq, not_false_eq_true, Nat.reduceAdd, *]; done) | (refine id ?_; simp only [gxD]; omega)) only [↓gxPre, gxPost, ↓reduceIte, Nat.reduceEqDiff, reduceCtorEq, Nat.reduceAdd, q2, hii, hodH.ia, hodH.ld, kod, hLH.ia, hLH.ld, hc0, hc1]
    refine callR_pure (w_r8Gap_ok hr3) (by first | exact .inl rfl | (simp (disch := first | assumption | omega | rfl | (refine id ?_; simp only [gxD, ne_eq, reduceCtorEq, not_false_eq_true, Nat.reduceAdd, *]; done) | (refine id ?_; simp only [gxD]; omega)) only [↓gxPre, gxPost, ↓reduceIte, Nat.reduceEqDiff, reduceCtorEq, Nat.reduceAdd]; done)) ?_
    simp (disch := first | assumption | omega | rfl | (refine id ?_; simp only [gxD, ne_eq, reduceCtorEq, not_false_eq_true, Nat.reduceAdd, *]; done) | (refine id ?_; simp only [gxD]; omega)) only [↓gxPre, gxPost, ↓reduceIte, Nat.reduceEqDiff, reduceCtorEq, Nat.reduceAdd, hg]
    by_cases c : 2 * (i : Int) + 2 < (L.length : Int)
    · have hz : fcB .neq .f32 ((liftF linesW 1065353216 (lineL w L.length)).2.getD i 0) 0 = false := by
        rw [fcB_neq x3 finW_zero.1, finW_zero.2, decide_eq_true (x4 (by omega))]
        rfl
      simp (disch := first | assumption | omega | rfl | (refine id ?_; simp only [gxD, ne_eq, reduceCtorEq, not_false_eq_true, Nat.reduceAdd, *]; done) | (refine id ?_; simp only [gxD]; omega)) only [↓gxPre, gxPost, ↓reduceIte, Nat.reduceEqDiff, reduceCtorEq, Nat.reduceAdd, c, hrp.ia, hrp.ld, krp, hz]
      simp
    · simp (disch := first | assumption | omega | rfl | (refine id ?_; simp only [gxD, ne_eq, reduceCtorEq, not_false_eq_true, Nat.reduceAdd, *]; done) | (refine id ?_; simp only [gxD]; omega)) only [↓gxPre, gxPost, ↓reduceIte, Nat.reduceEqDiff, reduceCtorEq, Nat.reduceAdd, c]
      simp
end Go.Proofs.Ytddekdgggpifmaa
