/- The law FnCoarse, walked: it returns true. -/
import Derived.Test.YtddekdgggpifmaaFnCoarseYSToYU
namespace Go.Proofs.Ytddekdgggpifmaa
open Go.Gx
set_option maxRecDepth 100000
set_option linter.unusedSimpArgs false
set_option linter.unusedVariables false
set_option maxHeartbeats 2000000
theorem w_FnCoarse_ok {H : Heap} {v0 : Value} {xs0 : List Nat} (hv0 : YA H v0 xs0) {v1 : Value} {xs1 : List Nat} (hv1 : YA H v1 xs1) : ACalls Try.prog n_w_FnCoarse [v0, v1] H fun r H' => r = .bool true := by
  refine k_w_FnCoarse.run rfl ?_
  unfold c_w_FnCoarse
  have o0 := Sl.one hv0.rd
  have o1 := Sl.one hv1.rd
  simp (disch := first | assumption | omega | rfl | (refine id ?_; simp only [gxD, ne_eq, reduceCtorEq, not_false_eq_true, Nat.reduceAdd, *]; done) | (refine id ?_; simp only [gxD]; omega)) only [↓gxPre, gxPost, ↓reduceIte, Nat.reduceEqDiff, reduceCtorEq, Nat.reduceAdd]
  refine callR_pure (w_r8Long_ok hv0 hv1) (.inl rfl) ?_
  by_cases c0 : (decide (48 < xs0.length) || decide (48 < xs1.length)) = true
  · rw [c0]
    simp (disch := first | assumption | omega | rfl | (refine id ?_; simp only [gxD, ne_eq, reduceCtorEq, not_false_eq_true, Nat.reduceAdd, *]; done) | (refine id ?_; simp only [gxD]; omega)) only [↓gxPre, gxPost, ↓reduceIte, Nat.reduceEqDiff, reduceCtorEq, Nat.reduceAdd]
  have c0' : (decide (48 < xs0.length) || decide (48 < xs1.length)) = false := by simpa using c0
  have cl : xs0.length ≤ 48 ∧ xs1.length ≤ 48 := by
    simp only [Bool.or_eq_false_iff, decide_eq_false_iff_not] at c0'
    omega
  have A0 := hv0.yb (by omega)
  have A1 := hv1.yb (by omega)
  rw [c0']
  simp (disch := first | assumption | omega | rfl | (refine id ?_; simp only [gxD, ne_eq, reduceCtorEq, not_false_eq_true, Nat.reduceAdd, *]; done) | (refine id ?_; simp only [gxD]; omega)) only [↓gxPre, gxPost, ↓reduceIte, Nat.reduceEqDiff, reduceCtorEq, Nat.reduceAdd]
  refine callR_of (s_R8List_ok A0) ?_
  rintro _ G ⟨e1, L, o, g1, g2, l1, l2, hQ, rfl, hbL⟩
  have hL : FS G (.slice (some ⟨o, 0, none⟩) L.length L.length) L := FS.own hbL g2 rfl
  have oL := hL.one
  have AL : AF G _ L := ⟨hL, by omega, hQ.w32⟩
  have A1 := A1.ext e1
  obtain ⟨lv, v0', v1', hlv⟩ := w_r8At_ok (k := 0) (n := 5) A1 (by omega) (by omega) (by omega)
  simp (disch := first | assumption | omega | rfl | (refine id ?_; simp only [gxD, ne_eq, reduceCtorEq, not_false_eq_true, Nat.reduceAdd, *]; done) | (refine id ?_; simp only [gxD]; omega)) only [↓gxPre, gxPost, ↓reduceIte, Nat.reduceEqDiff, reduceCtorEq, Nat.reduceAdd]
  refine callR_pure hlv (.inl rfl) ?_
  obtain ⟨kd, k0, k1, hkd⟩ := w_r8At_ok (k := 1) (n := 17) A1 (by omega) (by omega) (by omega)
  simp (disch := first | assumption | omega | rfl | (refine id ?_; simp only [gxD, ne_eq, reduceCtorEq, not_false_eq_true, Nat.reduceAdd, *]; done) | (refine id ?_; simp only [gxD]; omega)) only [↓gxPre, gxPost, ↓reduceIte, Nat.reduceEqDiff, reduceCtorEq, Nat.reduceAdd]
  obtain ⟨n, hn, n1, n5⟩ : ∃ n : Nat, 1 + lv = (n : Int) ∧ 1 ≤ n ∧ n ≤ 5 := ⟨(1 + lv).toNat, by omega, by omega, by omega⟩
  rw [hn]
  refine callR_pure hkd (.inl rfl) ?_
  obtain ⟨t1, t2, t3, t4⟩ := limit_val (q := kd) k0 k1
  obtain ⟨lim, hlim⟩ : ∃ lim, lim = quartW kd := ⟨_, rfl⟩
  have hlimd : fbin .quo .f32 (i2f .f32 kd) 1082130432 = lim := hlim.symm
  rw [← hlim] at t1 t2 t3 t4
  clear hlim
  simp (disch := first | assumption | omega | rfl | (refine id ?_; simp only [gxD, ne_eq, reduceCtorEq, not_false_eq_true, Nat.reduceAdd, *]; done) | (refine id ?_; simp only [gxD]; omega)) only [↓gxPre, gxPost, ↓reduceIte, Nat.reduceEqDiff, reduceCtorEq, Nat.reduceAdd, hlimd]
  refine callR_of i_LinesScheme_ok ?_
  rintro _ G2 ⟨e2, hs, hs1, hs2, rfl, hbs⟩
  simp (disch := first | assumption | omega | rfl | (refine id ?_; simp only [gxD, ne_eq, reduceCtorEq, not_false_eq_true, Nat.reduceAdd, *]; done) | (refine id ?_; simp only [gxD]; omega)) only [↓gxPre, gxPost, ↓reduceIte, Nat.reduceEqDiff, reduceCtorEq, Nat.reduceAdd]
  refine callR_new ?_
  intro G3 e3 h3b h3n
  have e23 := e2.trans e3
  have hws : FS G3 (.slice (some ⟨hs, 0, none⟩) 2 2) linesW := FS.own ((e3.blk hs hs2).trans hbs) (by omega) rfl
  have hww : W32 linesW := fun j => by
    match j with
    | 0 => decide
    | 1 => decide
    | j + 2 => simp [linesW, List.getD_eq_getElem?_getD]
  have AW : AF G3 _ linesW := ⟨hws, by decide, hww⟩
  have AL3 := AL.ext e23
  have hdeep := lines_deep hQ l1 l2 n1 (by omega : n ≤ 6)
  have hbands := bands_lines hQ l1 l2 n1 (by omega : n ≤ 6)
  have hone : (1065353216 : Nat) = oneW := rfl
  refine callR_of (i_LiftDeep_law AW (by decide) AL3 (by omega)) ?_
  rintro _ G4 ⟨e4, bs, rfl, p4, t4'⟩
  simp only [hone, hdeep, selL_t, Int.toNat_natCast] at p4 t4' ⊢
  have hbsS := p4.ss
  have obs := p4.one
  have bsl := levelsD_bz linesW oneW L n
  have h4 := bz_four ⟨L.length, by omega⟩ ⟨n, by omega⟩
  simp only at h4
  have hrowF : ∀ k, k < (levelsD linesW oneW L n).length → ∀ i, i < ((levelsD linesW oneW L n).getD k []).length → FinW .f32 (((levelsD linesW oneW L n).getD k []).getD i 0) := fun k hk i hi => by
    rw [bsl] at hk
    by_cases c : k < bzS L.length n
    · rw [levelsD_lo c] at hi ⊢
      exact (lines_hi hQ l2 (by omega) c i hi).1
    · have e : k = bzS L.length n := by omega
      subst e
      rw [levelsD_top] at hi ⊢
      exact (lines_now hQ l2 (by omega) _ (Nat.le_refl _) i hi).1
  have hbw : W32S (levelsD linesW oneW L n) := levelsD_w hQ.w32 n
  have AB : AS G4 bs (levelsD linesW oneW L n) := ⟨hbsS, t4', hbw⟩
  have h4b := (e4.blk G2.n (by omega)).trans h3b
  simp (disch := first | assumption | omega | rfl | (refine id ?_; simp only [gxD, ne_eq, reduceCtorEq, not_false_eq_true, Nat.reduceAdd, *]; done) | (refine id ?_; simp only [gxD]; omega)) only [↓gxPre, gxPost, ↓reduceIte, Nat.reduceEqDiff, reduceCtorEq, Nat.reduceAdd]
  refine callR_of (i_SmallOut_law AB t4) ?_
  rintro _ G5 ⟨e5, sm, rfl, p5, t5⟩
  simp only [hbands, t1, Bool.and_self, selL_t, selI_t] at p5 t5 ⊢
  have hsm := p5.ss
  have osm := p5.one
  simp (disch := first | assumption | omega | rfl | (refine id ?_; simp only [gxD, ne_eq, reduceCtorEq, not_false_eq_true, Nat.reduceAdd, *]; done) | (refine id ?_; simp only [gxD]; omega)) only [↓gxPre, gxPost, ↓reduceIte, Nat.reduceEqDiff, reduceCtorEq, Nat.reduceAdd]
  refine callR_of (i_SmallOut_law (AB.rd.ext e5 |> fun r => (⟨r, AB.le, AB.w⟩ : AS G5 bs _)) (by decide)) ?_
  rintro _ G6 ⟨e6, sn, rfl, p6, t6⟩
  have hz0 : leastF 0 = true := by decide +kernel
  simp only [hbands, hz0, Bool.and_self, selL_t, selI_t] at p6 t6 ⊢
  have osn := p6.one
  have e46 := e5.trans e6
  have e36 := e4.trans e46
  have h6b := (e46.blk G2.n (by have := e4.n; omega)).trans h4b
  simp (disch := first | assumption | omega | rfl | (refine id ?_; simp only [gxD, ne_eq, reduceCtorEq, not_false_eq_true, Nat.reduceAdd, *]; done) | (refine id ?_; simp only [gxD]; omega)) only [↓gxPre, gxPost, ↓reduceIte, Nat.reduceEqDiff, reduceCtorEq, Nat.reduceAdd, h6b]
  have hun := lines_un hQ l1 l2 n1 (by omega : n ≤ 6)
  have hck := coarse_keep (xss := levelsD linesW oneW L n) (keep := 99) (by omega)
  refine callR_of (i_CoarseOf_law (AW.ext e36) (by decide) (AL3.ext e36) (by omega) (by omega)) ?_
  rintro _ G7 ⟨e7, sa, rfl, p7, _⟩
  have hco : coarseOk linesW 1065353216 L (n : Int) 99 = true := by
    unfold coarseOk
    rw [hone, hdeep, Int.toNat_natCast]
    show (decide ((0 : Int) ≤ 99) && (true && unOk linesW oneW (coarseU (levelsD linesW oneW L n) 99 ((levelsD linesW oneW L n).length - 1 - 99)))) = true
    rw [hck, hun]
    rfl
  have hcd : coarseD linesW 1065353216 L (n : Int) 99 = dropD linesW oneW (levelsD linesW oneW L n) (bzS L.length n) := by
    unfold coarseD
    rw [hone, Int.toNat_natCast]
    show dropD linesW oneW (coarseU (levelsD linesW oneW L n) 99 ((levelsD linesW oneW L n).length - 1 - 99)) ((levelsD linesW oneW L n).length - 1) = _
    rw [hck, bsl, Nat.add_sub_cancel]
  simp only [hco, hcd, selL_t] at p7 ⊢
  have hsa := p7.fs
  have osa := hsa.one
  obtain ⟨sl, sv⟩ := lines_back hQ l1 l2 (by omega : n ≤ 6) (bzS L.length n) (Nat.le_refl _)
  rw [Nat.sub_self] at sl sv
  have z0 : bzN L.length 0 = L.length := rfl
  have z1 : nowD linesW oneW L 0 = L := rfl
  rw [z0] at sl sv
  rw [z1] at sv
  have h7b := (e7.blk G2.n (by have := e36.n; omega)).trans h6b
  have e37 := e36.trans e7
  simp (disch := first | assumption | omega | rfl | (refine id ?_; simp only [gxD, ne_eq, reduceCtorEq, not_false_eq_true, Nat.reduceAdd, *]; done) | (refine id ?_; simp only [gxD]; omega)) only [↓gxPre, gxPost, ↓reduceIte, Nat.reduceEqDiff, reduceCtorEq, Nat.reduceAdd, h7b]
  refine callR_of (i_CoarseOf_law (AW.ext e37) (by decide) (AL3.ext e37) (by omega) (by omega)) ?_
  rintro _ G8 ⟨e8, sb, rfl, p8, _⟩
  have hcu := lines_coarse hQ l1 l2 n1 (by omega : n ≤ 6) 0
  have hco0 : coarseOk linesW 1065353216 L (n : Int) 0 = true := by
    unfold coarseOk
    rw [hone, hdeep, Int.toNat_natCast]
    show (decide ((0 : Int) ≤ 0) && (true && unOk linesW oneW (coarseU (levelsD linesW oneW L n) 0 ((levelsD linesW oneW L n).length - 1 - 0)))) = true
    rw [hcu]
    rfl
  have hsz := bz_ok ⟨L.length, by omega⟩ ⟨n, by omega⟩ l1 n1
  simp only at hsz
  have hcl : (coarseD linesW 1065353216 L (n : Int) 0).length = L.length := by
    unfold coarseD
    rw [hone, Int.toNat_natCast]
    show (dropD linesW oneW (coarseU (levelsD linesW oneW L n) 0 ((levelsD linesW oneW L n).length - 1 - 0)) ((levelsD linesW oneW L n).length - 1)).length = _
    have hlen := dropD_len (ws := linesW) (sc := oneW) (xss := coarseU (levelsD linesW oneW L n) 0 ((levelsD linesW oneW L n).length - 1 - 0)) (by rw [coarseU_sizes, levelsD_sizes]; exact hsz) ((levelsD linesW oneW L n).length - 1) (by rw [coarseU_len]; exact Nat.le_refl _)
    rw [hlen, coarseU_len, coarseU_sizes, Nat.sub_self]
    have := levels_suf linesW oneW L n (stopN (moreD linesW oneW L) n) 0 (by omega)
    rw [this]
    rfl
  simp only [hco0, selL_t] at p8 ⊢
  have hsb := p8.fs
  have osb := hsb.one
  have lsb := hsb.len
  rw [hcl] at lsb
  have e38 := e37.trans e8
  have e48 := (e46.trans e7).trans e8
  have e58 := (e6.trans e7).trans e8
  have hL8 := AL3.rd.ext e38
  have hbs8 := hbsS.ext e48
  have hsm8 := hsm.ext e58
  have hsa8 := hsa.ext e8
  have lL := hL8.len
  have lbs := hbs8.len
  have lsm := hsm8.len
  have lsa := hsa8.len
  rw [sl] at lsa
  rw [outS_len] at lsm
  have hmono := cntS_mono finW_zero.1 t2 (by rw [finW_zero.2]; exact t3) hrowF _ (Nat.le_refl _)
  have hnlt : ¬ ((cntS lim (levelsD linesW oneW L n) (levelsD linesW oneW L n).length : Nat) : Int) < (cntS 0 (levelsD linesW oneW L n) (levelsD linesW oneW L n).length : Nat) := by omega
  simp (disch := first | assumption | omega | rfl | (refine id ?_; simp only [gxD, ne_eq, reduceCtorEq, not_false_eq_true, Nat.reduceAdd, *]; done) | (refine id ?_; simp only [gxD]; omega)) only [↓gxPre, gxPost, ↓reduceIte, Nat.reduceEqDiff, reduceCtorEq, Nat.reduceAdd, lL, lbs, lsm, lsa, lsb, hnlt]
  obtain ⟨us, hu, hul, hus⟩ := hbs8
  obtain ⟨ws, hw, hwl, hws'⟩ := hsm8
  rw [outS_len] at hwl hws'
  generalize hxss : levelsD linesW oneW L n = xss at *
  have hxl : xss.length ≤ 7 := by omega
  have htot : ∀ k, k ≤ xss.length → cntS lim xss k ≤ 2 ^ 40 := fun k hk => by
    have a1 := cntS_le lim xss k hk
    have a2 := offN_le xss hk
    unfold totL at t4'
    omega
  obtain ⟨lf1, lf2⟩ := f64_fin t2
  refine loop_forH xss.length (fun k => [.slice (some ⟨o, 0, none⟩) L.length L.length, .int .i64 n, .float .f32 lim, .pointer (some ⟨G2.n, 0, some 2⟩), bs, sm, .int .i64 ((cntS lim xss xss.length : Nat) : Int), sa, .int .i64 ((cntS lim xss k : Nat) : Int), .int .i64 k]) (fun k J => G8 = J) rfl rfl ?_ ?_
  rotate_left
  · rintro k _ hk rfl
    obtain ⟨row, hrow⟩ : ∃ row, row = xss.getD k [] := ⟨_, rfl⟩
    obtain ⟨b, hb⟩ : ∃ b, b = decide (k + 1 < xss.length) := ⟨_, rfl⟩
    have hxr := hus k (by omega)
    have hyr := hws' k (by omega)
    have hbr : (outS lim xss xss.length).getD k [] = row.map (outX b lim) := by rw [outS, getD_range_map hk, bandS, ← hrow, ← hb]
    rw [hbr] at hyr
    rw [← hrow] at hxr
    have hrF := hrowF k hk
    rw [← hrow] at hrF
    have lxr := hxr.len
    have lyr := hyr.len
    rw [List.length_map] at lyr
    simp (disch := first | assumption | omega | rfl | (refine id ?_; simp only [gxD, ne_eq, reduceCtorEq, not_false_eq_true, Nat.reduceAdd, *]; done) | (refine id ?_; simp only [gxD]; omega)) only [↓gxPre, gxPost, ↓reduceIte, Nat.reduceEqDiff, reduceCtorEq, Nat.reduceAdd, lbs, hu.ia, hu.ldD, hul, hw.ia, hw.ldD, hwl, lxr, lyr]
    have hrl : row.length ≤ 2 ^ 40 := by rw [hrow]; exact totL_row t4' k
    have hck' := htot k (by omega)
    have hcs : cntS lim xss (k + 1) = cntS lim xss k + cntK b lim row row.length := by rw [cntS_succ, ← hb, ← hrow]
    refine loop_forH row.length (fun i => [.slice (some ⟨o, 0, none⟩) L.length L.length, .int .i64 n, .float .f32 lim, .pointer (some ⟨G2.n, 0, some 2⟩), bs, sm, .int .i64 ((cntS lim xss xss.length : Nat) : Int), sa, .int .i64 ((cntS lim xss k + cntK b lim row i : Nat) : Int), .int .i64 k, .int .i64 i]) (fun i J => G8 = J) rfl rfl ?_ ?_
    · rintro _ rfl
      simp (disch := first | assumption | omega | rfl | (refine id ?_; simp only [gxD, ne_eq, reduceCtorEq, not_false_eq_true, Nat.reduceAdd, *]; done) | (refine id ?_; simp only [gxD]; omega)) only [↓gxPre, gxPost, ↓reduceIte, Nat.reduceEqDiff, reduceCtorEq, Nat.reduceAdd, Int.lt_irrefl, hu.ia, hu.ldD, hul, lxr]
      rw [hcs]
      simp
    · rintro i _ hi rfl
      obtain ⟨x, hx⟩ : ∃ x, x = row.getD i 0 := ⟨_, rfl⟩
      have hxF := hrF i hi
      rw [← hx] at hxF
      have hy : (row.map (outX b lim)).getD i 0 = outX b lim x := by rw [map_at hi, ← hx]
      have hml : (row.map (outX b lim)).length = row.length := by simp
      simp (disch := first | assumption | omega | rfl | (refine id ?_; simp only [gxD, ne_eq, reduceCtorEq, not_false_eq_true, Nat.reduceAdd, *]; done) | (refine id ?_; simp only [gxD]; omega)) only [↓gxPre, gxPost, ↓reduceIte, Nat.reduceEqDiff, reduceCtorEq, Nat.reduceAdd, hu.ia, hu.ldD, hul, lxr, hw.ia, hw.ldD, hwl, lyr, hxr.ia, hxr.ld, hyr.ia, hyr.ld, hml, hy, ← hx]
      have hcn := cntK_succ b lim row i
      rw [← hx] at hcn
      have hci := cntK_le b lim row i
      have hqv := outQ_val (b := b) t2 hxF
      obtain ⟨r, hr1, hr2, hr3⟩ := gap8_zero hxF
      cases b
      · have hkl : (k : Int) + 1 = xss.length := by
          have := of_decide_eq_false hb.symm
          omega
        have hyx : outX false lim x = x := rfl
        have hnn := fcB_neq hxF hxF
        rw [decide_eq_true rfl, Bool.not_true] at hnn
        have hcz : cntK false lim row (i + 1) = cntK false lim row i := by rw [cntK_no, cntK_no]
        simp (disch := first | assumption | omega | rfl | (refine id ?_; simp only [gxD, ne_eq, reduceCtorEq, not_false_eq_true, Nat.reduceAdd, *]; done) | (refine id ?_; simp only [gxD]; omega)) only [↓gxPre, gxPost, ↓reduceIte, Nat.reduceEqDiff, reduceCtorEq, Nat.reduceAdd, hkl, lbs, hyx, hnn]
        rw [hcz]
        simp
      · have hkl : ¬ ((k : Int) + 1 = xss.length) := by
          have := of_decide_eq_true hb.symm
          omega
        rw [Bool.true_and] at hqv
        by_cases hq : absR (fval .f32 x) ≤ fval .f32 lim
        · rw [decide_eq_true hq] at hqv
          have hyx : outX true lim x = 0 := by unfold outX; rw [hqv, if_pos rfl]
          have z1 : fcB .eql .f32 0 0 = true := by decide +kernel
          have z2 : fcB .neq .f32 0 0 = false := by decide +kernel
          have hgt : fcB .gtr .f64 r (f64 lim) = false := by rw [fcB_gtr hr2 lf1, decide_eq_false (by rw [hr3, lf2]; exact Rat.not_lt.2 hq)]
          rw [hqv, if_pos rfl] at hcn
          simp (disch := first | assumption | omega | rfl | (refine id ?_; simp only [gxD, ne_eq, reduceCtorEq, not_false_eq_true, Nat.reduceAdd, *]; done) | (refine id ?_; simp only [gxD]; omega)) only [↓gxPre, gxPost, ↓reduceIte, Nat.reduceEqDiff, reduceCtorEq, Nat.reduceAdd, hkl, lbs, hyx, z1, z2]
          refine callR_pure (w_r8Gap_ok hr1) (by first | exact .inl rfl | (simp (disch := first | assumption | omega | rfl | (refine id ?_; simp only [gxD, ne_eq, reduceCtorEq, not_false_eq_true, Nat.reduceAdd, *]; done) | (refine id ?_; simp only [gxD]; omega)) only [↓gxPre, gxPost, ↓reduceIte, Nat.reduceEqDiff, reduceCtorEq, Nat.reduceAdd]; done)) ?_
          simp (disch := first | assumption | omega | rfl | (refine id ?_; simp only [gxD, ne_eq, reduceCtorEq, not_false_eq_true, Nat.reduceAdd, *]; done) | (refine id ?_; simp only [gxD]; omega)) only [↓gxPre, gxPost, ↓reduceIte, Nat.reduceEqDiff, reduceCtorEq, Nat.reduceAdd, hgt, z2]
          rw [hcn]
          simp
          omega
        · rw [decide_eq_false hq] at hqv
          have hyx : outX true lim x = x := by unfold outX; rw [hqv, if_neg (by decide)]
          have hx0 : fval .f32 x ≠ 0 := fun e => by
            rw [e] at hq
            have : absR 0 = 0 := by unfold absR; rw [if_pos (by decide)]
            rw [this] at hq
            exact hq t3
          have z1 : fcB .eql .f32 x 0 = false := by rw [fcB_eql hxF finW_zero.1, finW_zero.2, decide_eq_false hx0]
          have z2 : fcB .neq .f32 x 0 = true := by rw [fcB_neq hxF finW_zero.1, finW_zero.2, decide_eq_false hx0]; rfl
          have z3 := fcB_neq hxF hxF
          rw [decide_eq_true rfl, Bool.not_true] at z3
          have hle : fcB .leq .f64 r (f64 lim) = false := by rw [fcB_leq hr2 lf1, decide_eq_false (by rw [hr3, lf2]; exact hq)]
          rw [hqv, if_neg (by decide)] at hcn
          simp (disch := first | assumption | omega | rfl | (refine id ?_; simp only [gxD, ne_eq, reduceCtorEq, not_false_eq_true, Nat.reduceAdd, *]; done) | (refine id ?_; simp only [gxD]; omega)) only [↓gxPre, gxPost, ↓reduceIte, Nat.reduceEqDiff, reduceCtorEq, Nat.reduceAdd, hkl, lbs, hyx, z1, z2, z3]
          refine callR_pure (w_r8Gap_ok hr1) (by first | exact .inl rfl | (simp (disch := first | assumption | omega | rfl | (refine id ?_; simp only [gxD, ne_eq, reduceCtorEq, not_false_eq_true, Nat.reduceAdd, *]; done) | (refine id ?_; simp only [gxD]; omega)) only [↓gxPre, gxPost, ↓reduceIte, Nat.reduceEqDiff, reduceCtorEq, Nat.reduceAdd]; done)) ?_
          simp (disch := first | assumption | omega | rfl | (refine id ?_; simp only [gxD, ne_eq, reduceCtorEq, not_false_eq_true, Nat.reduceAdd, *]; done) | (refine id ?_; simp only [gxD]; omega)) only [↓gxPre, gxPost, ↓reduceIte, Nat.reduceEqDiff, reduceCtorEq, Nat.reduceAdd, hle, z1, z2]
          rw [hcn]
          simp
  rintro _ rfl
  simp (disch := first | assumption | omega | rfl | (refine id ?_; simp only [gxD, ne_eq, reduceCtorEq, not_false_eq_true, Nat.reduceAdd, *]; done) | (refine id ?_; simp only [gxD]; omega)) only [↓gxPre, gxPost, ↓reduceIte, Nat.reduceEqDiff, reduceCtorEq, Nat.reduceAdd, lbs, Int.lt_irrefl]
  have hL8' := hL8
  refine loop_forH L.length (fun i => [.slice (some ⟨o, 0, none⟩) L.length L.length, .int .i64 n, .pointer (some ⟨G2.n, 0, some 2⟩), sa, .int .i64 i]) (fun i J => G8 = J) rfl rfl ?_ ?_
  rotate_left
  · rintro i _ hi rfl
    obtain ⟨d1, d2⟩ := sv i hi
    obtain ⟨f1, f2⟩ := f64_fin d1
    have hLF := (hQ i hi).ok.1
    obtain ⟨f3, f4⟩ := f64_fin hLF
    unfold vF at d2
    obtain ⟨c1, c2⟩ := c01_val
    obtain ⟨r, hr1, hr2⟩ := gap8_le f1 f3 c1 (by rw [f2, f4, d2, c2]; grind_linarith) (by rw [f2, f4, d2, c2]; grind_linarith)
    simp (disch := first | assumption | omega | rfl | (refine id ?_; simp only [gxD, ne_eq, reduceCtorEq, not_false_eq_true, Nat.reduceAdd, *]; done) | (refine id ?_; simp only [gxD]; omega)) only [↓gxPre, gxPost, ↓reduceIte, Nat.reduceEqDiff, reduceCtorEq, Nat.reduceAdd, lL, hsa8.ia, hsa8.ld, sl, hL8.ia, hL8.ld]
    refine callR_pure (w_r8Gap_ok hr1) (by first | exact .inl rfl | (simp (disch := first | assumption | omega | rfl | (refine id ?_; simp only [gxD, ne_eq, reduceCtorEq, not_false_eq_true, Nat.reduceAdd, *]; done) | (refine id ?_; simp only [gxD]; omega)) only [↓gxPre, gxPost, ↓reduceIte, Nat.reduceEqDiff, reduceCtorEq, Nat.reduceAdd]; done)) ?_
    simp (disch := first | assumption | omega | rfl | (refine id ?_; simp only [gxD, ne_eq, reduceCtorEq, not_false_eq_true, Nat.reduceAdd, *]; done) | (refine id ?_; simp only [gxD]; omega)) only [↓gxPre, gxPost, ↓reduceIte, Nat.reduceEqDiff, reduceCtorEq, Nat.reduceAdd, hr2]
    simp
  rintro _ rfl
  have hmk : eMks t_int 8 (.int .i64 0) (.int .i64 (L.length : Int)) (.int .i64 (L.length : Int)) G8 = some (.slice (some ⟨G8.n, 0, none⟩) L.length L.length, G8.new ⟨true, t_int, List.replicate L.length (.int .i64 0)⟩) := eMks_i (by omega)
  simp (disch := first | assumption | omega | rfl | (refine id ?_; simp only [gxD, ne_eq, reduceCtorEq, not_false_eq_true, Nat.reduceAdd, *]; done) | (refine id ?_; simp only [gxD]; omega)) only [↓gxPre, gxPost, ↓reduceIte, Nat.reduceEqDiff, reduceCtorEq, Nat.reduceAdd, lL, Int.lt_irrefl, hmk]
  have e8a : Ext G8 (G8.new ⟨true, t_int, List.replicate L.length (.int .i64 0)⟩) := .new _ _
  refine callR_of (i_BandSizes_law (H := G8.new ⟨true, t_int, List.replicate L.length (.int .i64 0)⟩)) ?_
  rintro _ G9 ⟨e9, sz, rfl, p9, _⟩
  have w1 : within (L.length : Int) 1 128 = true := within_true.2 (by omega)
  have w2 : within (n : Int) 1 6 = true := within_true.2 (by omega)
  simp only [w1, w2, Bool.and_self, selL_t, Int.toNat_natCast] at p9 ⊢
  have osz := p9.one
  have hs1 : (castL (bzL L.length n)).length = bzS L.length n + 1 := by rw [castL_length, bzL]; simp [bzO_length]
  have e89 : Ext G8 G9 := e8a.trans e9
  have n9 : G8.n + 1 ≤ G9.n := by have := e9.n; simp only [new_n] at this; exact this
  have hc0 : (List.replicate L.length (.int .i64 0) : List Value) = (covK L.length n 0).map iv := by simp [covK, foldI_zero, iv]
  have b9 : G9.blk G8.n = some ⟨true, t_int, (covK L.length n 0).map iv⟩ := by
    rw [e9.blk G8.n (by simp only [new_n]; omega), new_self, hc0]
  have hcs1 : ∀ k, (bzL L.length n).getD k 0 ≤ 128 := bzL_le l1 (by omega)
  simp (disch := first | assumption | omega | rfl | (refine id ?_; simp only [gxD, ne_eq, reduceCtorEq, not_false_eq_true, Nat.reduceAdd, *]; done) | (refine id ?_; simp only [gxD]; omega)) only [↓gxPre, gxPost, ↓reduceIte, Nat.reduceEqDiff, reduceCtorEq, Nat.reduceAdd]
  have keepsz : ∀ Q : Heap, G9.n ≤ Q.n → (∀ h, h < G9.n → h ≠ G8.n → Q.blk h = G9.blk h) → IS Q sz (castL (bzL L.length n)) := fun Q q1 q2 => (p9.keep q1 fun h hh => by
    obtain ⟨a1, a2, a3, _⟩ := p9.hdl hh
    simp only [new_n] at a1
    exact q2 h a3 (by omega)).is
  refine loop_forH (bzS L.length n + 1) (fun k => [.slice (some ⟨o, 0, none⟩) L.length L.length, .int .i64 n, .pointer (some ⟨G2.n, 0, some 2⟩), .int .i64 L.length, .slice (some ⟨G8.n, 0, none⟩) L.length L.length, sz, .int .i64 k])
    (fun k Q => G9.n ≤ Q.n ∧ Ext G8 Q ∧ Q.blk G8.n = some ⟨true, t_int, (covK L.length n k).map iv⟩ ∧ ∀ h, h < G9.n → h ≠ G8.n → Q.blk h = G9.blk h) rfl ⟨Nat.le_refl _, e89, b9, fun _ _ _ => rfl⟩ ?_ ?_
  rotate_left
  · rintro k Q hk ⟨q1, q2, q3, q4⟩
    have hsz := keepsz Q q1 q4
    have lsz := hsz.len
    rw [hs1] at lsz
    have hgd := castL_getD (bzL L.length n) k
    have hkb := hcs1 k
    simp (disch := first | assumption | omega | rfl | (refine id ?_; simp only [gxD, ne_eq, reduceCtorEq, not_false_eq_true, Nat.reduceAdd, *]; done) | (refine id ?_; simp only [gxD]; omega)) only [↓gxPre, gxPost, ↓reduceIte, Nat.reduceEqDiff, reduceCtorEq, Nat.reduceAdd, lsz, hsz.ia, hsz.ld, hs1, hgd]
    refine loop_forH ((bzL L.length n).getD k 0) (fun i => [.slice (some ⟨o, 0, none⟩) L.length L.length, .int .i64 n, .pointer (some ⟨G2.n, 0, some 2⟩), .int .i64 L.length, .slice (some ⟨G8.n, 0, none⟩) L.length L.length, sz, .int .i64 k, .int .i64 i])
      (fun i Q => G9.n ≤ Q.n ∧ Ext G8 Q ∧ Q.blk G8.n = some ⟨true, t_int, (covI L.length n k (covK L.length n k) i).map iv⟩ ∧ ∀ h, h < G9.n → h ≠ G8.n → Q.blk h = G9.blk h) rfl ⟨q1, q2, q3, q4⟩ ?_ ?_
    · rintro Q ⟨q1, q2, q3, q4⟩
      have hsz := keepsz Q q1 q4
      simp (disch := first | assumption | omega | rfl | (refine id ?_; simp only [gxD, ne_eq, reduceCtorEq, not_false_eq_true, Nat.reduceAdd, *]; done) | (refine id ?_; simp only [gxD]; omega)) only [↓gxPre, gxPost, ↓reduceIte, Nat.reduceEqDiff, reduceCtorEq, Nat.reduceAdd, lsz, hsz.ia, hsz.ld, hs1, hgd, Int.lt_irrefl]
      exact ⟨by simp, q1, q2, by rw [covK_succ]; exact q3, q4⟩
    · rintro i Q hi ⟨q1, q2, q3, q4⟩
      have hsz := keepsz Q q1 q4
      have h12 := cov_small ⟨L.length, by omega⟩ ⟨n, by omega⟩ l1 n1 ⟨k, by omega⟩ (by simp only; omega)
      have hin := cov_in ⟨L.length, by omega⟩ ⟨n, by omega⟩ l1 n1 ⟨k, by omega⟩ (by simp only; omega) ⟨i, by simp only at h12; omega⟩ hi
      simp only at h12 hin
      have hbd := covI_bd L.length n k (S := covK L.length n k) (M := 128 * k) (by omega) (covK_bd L.length n hcs1 k) i (covA L.length n k i)
      simp (disch := first | assumption | omega | rfl | (refine id ?_; simp only [gxD, ne_eq, reduceCtorEq, not_false_eq_true, Nat.reduceAdd, *]; done) | (refine id ?_; simp only [gxD]; omega)) only [↓gxPre, gxPost, ↓reduceIte, Nat.reduceEqDiff, reduceCtorEq, Nat.reduceAdd, lsz, hsz.ia, hsz.ld, hs1, hgd]
      refine callR_ext (i_CoverOf_ok (H := Q) (n := L.length) (L := n) (k := k) (i := i) l1 (by omega) n1 (by omega) (by omega) hi) ?_
      intro Q1 m1 b1
      have u1 : Ext Q Q1 := ⟨m1, b1⟩
      have q3' := (b1 G8.n (by omega)).trans q3
      have hfar : ¬ ((covB L.length n k : Nat) : Int) < 1 := by
        have : 1 ≤ covB L.length n k := by
          unfold covB
          split <;> exact Nat.one_le_two_pow
        omega
      have hlen : (covI L.length n k (covK L.length n k) i).length = L.length := by rw [covI_len, covK_len]
      have hlm : ((covI L.length n k (covK L.length n k) i).map iv).length = L.length := by rw [lMapI, hlen]
      have ha : ((covI L.length n k (covK L.length n k) i).map iv)[covA L.length n k i]? = some (.int .i64 ((covI L.length n k (covK L.length n k) i).getD (covA L.length n k i) 0)) := by
        have : covA L.length n k i < (covI L.length n k (covK L.length n k) i).length := by omega
        simp [List.getD_eq_getElem?_getD, this, iv]
      have hst : ((covI L.length n k (covK L.length n k) i).map iv).set (covA L.length n k i) (.int .i64 ((covI L.length n k (covK L.length n k) i).getD (covA L.length n k i) 0 + 1)) = (covI L.length n k (covK L.length n k) (i + 1)).map iv := by rw [iv_set, covI_succ]
      simp (disch := first | assumption | omega | rfl | (refine id ?_; simp only [gxD, ne_eq, reduceCtorEq, not_false_eq_true, Nat.reduceAdd, *]; done) | (refine id ?_; simp only [gxD]; omega)) only [↓gxPre, gxPost, ↓reduceIte, Nat.reduceEqDiff, reduceCtorEq, Nat.reduceAdd, hfar, q3', ha]
      exact ⟨by simp, by omega, (q2.trans u1).put (Nat.le_refl _) _, by rw [hst], fun h h1 h2 => by rw [hput_other _ _ _ _ h2, b1 h (by omega), q4 h h1 h2]⟩
  rintro Q ⟨q1, q2, q3, q4⟩
  have hsz := keepsz Q q1 q4
  have lsz := hsz.len
  rw [hs1] at lsz
  have hall := cov_all ⟨L.length, by omega⟩ ⟨n, by omega⟩ l1 n1
  simp only at hall
  rw [hall] at q3
  simp (disch := first | assumption | omega | rfl | (refine id ?_; simp only [gxD, ne_eq, reduceCtorEq, not_false_eq_true, Nat.reduceAdd, *]; done) | (refine id ?_; simp only [gxD]; omega)) only [↓gxPre, gxPost, ↓reduceIte, Nat.reduceEqDiff, reduceCtorEq, Nat.reduceAdd, lsz, Int.lt_irrefl]
  refine loop_forH L.length (fun i => [.slice (some ⟨o, 0, none⟩) L.length L.length, .pointer (some ⟨G2.n, 0, some 2⟩), .int .i64 L.length, .slice (some ⟨G8.n, 0, none⟩) L.length L.length, .int .i64 i]) (fun i J => Q = J) rfl rfl ?_ ?_
  rotate_left
  · rintro i _ hi rfl
    have hlm : ((List.replicate L.length (1 : Int)).map iv).length = L.length := by simp
    have ha : ((List.replicate L.length (1 : Int)).map iv)[i]? = some (.int .i64 1) := by simp [hi, iv]
    simp (disch := first | assumption | omega | rfl | (refine id ?_; simp only [gxD, ne_eq, reduceCtorEq, not_false_eq_true, Nat.reduceAdd, *]; done) | (refine id ?_; simp only [gxD]; omega)) only [↓gxPre, gxPost, ↓reduceIte, Nat.reduceEqDiff, reduceCtorEq, Nat.reduceAdd, q3, ha]
    simp
  rintro _ rfl
  have h8Q := (q2.blk G2.n (by have := e38.n; omega)).trans ((e8.blk G2.n (by have := e37.n; omega)).trans h7b)
  have e3Q := e38.trans q2
  simp (disch := first | assumption | omega | rfl | (refine id ?_; simp only [gxD, ne_eq, reduceCtorEq, not_false_eq_true, Nat.reduceAdd, *]; done) | (refine id ?_; simp only [gxD]; omega)) only [↓gxPre, gxPost, ↓reduceIte, Nat.reduceEqDiff, reduceCtorEq, Nat.reduceAdd, Int.lt_irrefl, h8Q]
  have hlong := hQ.long l1 l2
  obtain ⟨gr1, gr2, gr3, gr4⟩ := lines_grow hQ l1 l2
  have hdok : dropOk linesW oneW L (zerosF L.length) = true := by
    unfold dropOk
    rw [lines_scheme, zerosF_length, fit_same l1 (by omega), zerosF_fin, gl_all gr2, gl_all hQ.gl]
    rfl
  have hgok : growOk linesW oneW L = true := by
    unfold growOk
    rw [hlong, hdok, decide_eq_true (show L.length ≤ 64 by omega)]
    rfl
  refine callR_of (i_GrowList_law (AW.ext e3Q) (by decide) (AL3.ext e3Q)) ?_
  rintro _ R1 ⟨f1, gw, rfl, pg, _⟩
  simp only [hgok, hone, selL_t] at pg ⊢
  have hgw := pg.fs
  have ogw := hgw.one
  have h1R := (f1.blk G2.n (by have := e3Q.n; omega)).trans h8Q
  have e3R := e3Q.trans f1
  simp (disch := first | assumption | omega | rfl | (refine id ?_; simp only [gxD, ne_eq, reduceCtorEq, not_false_eq_true, Nat.reduceAdd, *]; done) | (refine id ?_; simp only [gxD]; omega)) only [↓gxPre, gxPost, ↓reduceIte, Nat.reduceEqDiff, reduceCtorEq, Nat.reduceAdd, h1R]
  obtain ⟨li1, li2, li3, li4⟩ := lines_lift (s := 3) (N := 64) (by omega) (by omega) gr2 (by omega)
  have hgl1 := liftF_len1 linesW oneW (dropF linesW oneW L (zerosF L.length))
  have hgl2 := liftF_len2 linesW oneW (dropF linesW oneW L (zerosF L.length))
  have hll : isLongF (dropF linesW oneW L (zerosF L.length)) = true := by
    unfold isLongF
    rw [gl_all gr2, within_true.2 (by omega)]
    rfl
  have hlok : liftOkF linesW oneW (dropF linesW oneW L (zerosF L.length)) = true := by
    unfold liftOkF
    have a1 := gl_all li1
    have a2 := gl_all li2
    rw [hone] at a1 a2
    rw [a1, a2]
    simp
  have hgww : W32 (dropF linesW oneW L (zerosF L.length)) := dropF_w hQ.w32 (by rw [zerosF_length]; omega)
  refine callR_of (i_LiftOnce_law (AW.ext e3R) (by decide) ⟨hgw, by omega, hgww⟩) ?_
  rintro _ R2 ⟨f2, lo, hg, rfl, pl, _, _⟩
  simp only [hone, lines_scheme, hll, hlok, Bool.and_self, selL_t] at pl ⊢
  have hlo := pl.fst.fs
  have hhi := pl.snd.fs
  have olo := hlo.one
  have ohi := hhi.one
  have hgw2 := hgw.ext f2
  have hL2 := (AL3.rd.ext e3R).ext f2
  have lgw := hgw2.len
  have llo := hlo.len
  have lhi := hhi.len
  have lL2 := hL2.len
  rw [gr1] at lgw
  rw [hgl1, gr1, show (2 * L.length + 1) / 2 = L.length by omega] at llo
  rw [hgl2, gr1, show 2 * L.length / 2 = L.length by omega] at lhi
  simp (disch := first | assumption | omega | rfl | (refine id ?_; simp only [gxD, ne_eq, reduceCtorEq, not_false_eq_true, Nat.reduceAdd, *]; done) | (refine id ?_; simp only [gxD]; omega)) only [↓gxPre, gxPost, ↓reduceIte, Nat.reduceEqDiff, reduceCtorEq, Nat.reduceAdd, lgw, llo, lhi, lL2]
  refine loop_forH L.length (fun i => [.slice (some ⟨o, 0, none⟩) L.length L.length, gw, hg, .int .i64 i]) (fun i J => R2 = J) rfl rfl ?_ ?_
  rotate_left
  · rintro i _ hi rfl
    have hLF := (hQ i hi).ok.1
    obtain ⟨f3, f4⟩ := f64_fin hLF
    obtain ⟨d1, d2⟩ := gr2 (2 * i) (by omega)
    have d3 := gr3 i hi
    unfold vF at d3
    obtain ⟨f5, f6⟩ := f64_fin d1
    obtain ⟨c1, c2⟩ := c001_val
    obtain ⟨r, hr1, hr2⟩ := gap8_le f5 f3 c1 (by rw [f4, f6, d3, c2]; grind_linarith) (by rw [f4, f6, d3, c2]; grind_linarith)
    obtain ⟨x1, x2⟩ := grow_flat hQ l1 l2 hi
    obtain ⟨u, hu1, hu2, hu3⟩ := gap8_zero x1
    unfold vF at x2
    rw [x2] at hu3
    have habs : absR 0 = 0 := by unfold absR; rw [if_pos (by decide)]
    rw [habs] at hu3
    have hgt : fcB .gtr .f64 u 4562254508917369340 = false := by rw [fcB_gtr hu2 c1, decide_eq_false (by rw [hu3, c2]; decide +kernel)]
    simp (disch := first | assumption | omega | rfl | (refine id ?_; simp only [gxD, ne_eq, reduceCtorEq, not_false_eq_true, Nat.reduceAdd, *]; done) | (refine id ?_; simp only [gxD]; omega)) only [↓gxPre, gxPost, ↓reduceIte, Nat.reduceEqDiff, reduceCtorEq, Nat.reduceAdd, lL2, hgw2.ia, hgw2.ld, gr1, hL2.ia, hL2.ld]
    refine callR_pure (w_r8Gap_ok hr1) (by first | exact .inl rfl | (simp (disch := first | assumption | omega | rfl | (refine id ?_; simp only [gxD, ne_eq, reduceCtorEq, not_false_eq_true, Nat.reduceAdd, *]; done) | (refine id ?_; simp only [gxD]; omega)) only [↓gxPre, gxPost, ↓reduceIte, Nat.reduceEqDiff, reduceCtorEq, Nat.reduceAdd]; done)) ?_
    simp (disch := first | assumption | omega | rfl | (refine id ?_; simp only [gxD, ne_eq, reduceCtorEq, not_false_eq_true, Nat.reduceAdd, *]; done) | (refine id ?_; simp only [gxD]; omega)) only [↓gxPre, gxPost, ↓reduceIte, Nat.reduceEqDiff, reduceCtorEq, Nat.reduceAdd, hr2, hhi.ia, hhi.ld, hgl2, gr1]
    refine callR_pure (w_r8Gap_ok hu1) (by first | exact .inl rfl | (simp (disch := first | assumption | omega | rfl | (refine id ?_; simp only [gxD, ne_eq, reduceCtorEq, not_false_eq_true, Nat.reduceAdd, *]; done) | (refine id ?_; simp only [gxD]; omega)) only [↓gxPre, gxPost, ↓reduceIte, Nat.reduceEqDiff, reduceCtorEq, Nat.reduceAdd]; done)) ?_
    simp (disch := first | assumption | omega | rfl | (refine id ?_; simp only [gxD, ne_eq, reduceCtorEq, not_false_eq_true, Nat.reduceAdd, *]; done) | (refine id ?_; simp only [gxD]; omega)) only [↓gxPre, gxPost, ↓reduceIte, Nat.reduceEqDiff, reduceCtorEq, Nat.reduceAdd, hgt]
    simp
  rintro _ rfl
  simp (disch := first | assumption | omega | rfl | (refine id ?_; simp only [gxD, ne_eq, reduceCtorEq, not_false_eq_true, Nat.reduceAdd, *]; done) | (refine id ?_; simp only [gxD]; omega)) only [↓gxPre, gxPost, ↓reduceIte, Nat.reduceEqDiff, reduceCtorEq, Nat.reduceAdd, lL2, Int.lt_irrefl]
end Go.Proofs.Ytddekdgggpifmaa
