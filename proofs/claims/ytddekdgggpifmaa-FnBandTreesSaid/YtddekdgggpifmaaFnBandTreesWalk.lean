/- The law FnBandTrees, walked: it returns true. -/
import Derived.Test.YtddekdgggpifmaaFnBandTreesYJToYQ
namespace Go.Proofs.Ytddekdgggpifmaa
open Go.Gx
set_option maxRecDepth 100000
set_option linter.unusedSimpArgs false
set_option linter.unusedVariables false
set_option maxHeartbeats 2000000
theorem w_FnBandTrees_ok {H : Heap} {v0 : Value} {xs0 : List Nat} (hv0 : YA H v0 xs0) {v1 : Value} {xs1 : List Nat} (hv1 : YA H v1 xs1) : ACalls Try.prog n_w_FnBandTrees [v0, v1] H fun r H' => r = .bool true := by
  refine k_w_FnBandTrees.run rfl ?_
  unfold c_w_FnBandTrees
  have o0 := Sl.one hv0.rd
  have o1 := Sl.one hv1.rd
  simp (disch := first | assumption | omega | rfl | (refine id ?_; simp only [gxD, ne_eq, reduceCtorEq, not_false_eq_true, Nat.reduceAdd, *]; done) | (refine id ?_; simp only [gxD]; omega)) only [↓gxPre, gxPost, ↓reduceIte, Nat.reduceEqDiff, reduceCtorEq, Nat.reduceAdd]
  refine callR_pure (w_b10Long_ok hv0 hv1) (.inl rfl) ?_
  by_cases c0 : (decide (1048576 < xs0.length) || decide (1048576 < xs1.length)) = true
  · rw [c0]
    simp (disch := first | assumption | omega | rfl | (refine id ?_; simp only [gxD, ne_eq, reduceCtorEq, not_false_eq_true, Nat.reduceAdd, *]; done) | (refine id ?_; simp only [gxD]; omega)) only [↓gxPre, gxPost, ↓reduceIte, Nat.reduceEqDiff, reduceCtorEq, Nat.reduceAdd]
  have c0' : (decide (1048576 < xs0.length) || decide (1048576 < xs1.length)) = false := by simpa using c0
  have cl : xs0.length ≤ 1048576 ∧ xs1.length ≤ 1048576 := by
    simp only [Bool.or_eq_false_iff, decide_eq_false_iff_not] at c0'
    omega
  have A0 := hv0.yb (by omega)
  have A1 := hv1.yb (by omega)
  rw [c0']
  simp (disch := first | assumption | omega | rfl | (refine id ?_; simp only [gxD, ne_eq, reduceCtorEq, not_false_eq_true, Nat.reduceAdd, *]; done) | (refine id ?_; simp only [gxD]; omega)) only [↓gxPre, gxPost, ↓reduceIte, Nat.reduceEqDiff, reduceCtorEq, Nat.reduceAdd]
  refine callR_of (s_B10Pair_ok A0) ?_
  rintro _ G ⟨e1, ps, h, hps, h1, h2, rfl, hbp⟩
  obtain ⟨q, rfl⟩ : ∃ q, ps = psQ q := by
    rcases hps with rfl | rfl
    · exact ⟨true, rfl⟩
    · exact ⟨false, rfl⟩
  have hp4 := psQ_len q
  have hpw := psQ_w q
  have hpv := psQ_valid q
  simp (disch := first | assumption | omega | rfl | (refine id ?_; simp only [gxD, ne_eq, reduceCtorEq, not_false_eq_true, Nat.reduceAdd, *]; done) | (refine id ?_; simp only [gxD]; omega)) only [↓gxPre, gxPost, ↓reduceIte, Nat.reduceEqDiff, reduceCtorEq, Nat.reduceAdd]
  refine callR_new ?_
  intro K eK hKb hKn
  have hKp : K.blk h = some ⟨true, t_float32, (psQ q).map fv⟩ := (eK.blk h h2).trans hbp
  have e2 := e1.trans eK
  obtain ⟨nn, k0, k1, hkd⟩ := w_b10At_ok (k := 0) (n := 3) (A1.ext e2) (by omega) (by omega) (by omega) (by omega)
  refine callR_pure hkd (.inl rfl) ?_
  simp (disch := first | assumption | omega | rfl | (refine id ?_; simp only [gxD, ne_eq, reduceCtorEq, not_false_eq_true, Nat.reduceAdd, *]; done) | (refine id ?_; simp only [gxD]; omega)) only [↓gxPre, gxPost, ↓reduceIte, Nat.reduceEqDiff, reduceCtorEq, Nat.reduceAdd]
  obtain ⟨n, hn, n1, n3⟩ : ∃ n : Nat, 1 + nn = (n : Int) ∧ 1 ≤ n ∧ n ≤ 3 := ⟨(1 + nn).toNat, by omega, by omega, by omega⟩
  rw [hn]
  obtain ⟨cc, d0, d1, hcd⟩ := w_b10At_ok (k := 1) (n := 4) (A1.ext e2) (by omega) (by omega) (by omega) (by omega)
  refine callR_pure hcd (.inl rfl) ?_
  simp (disch := first | assumption | omega | rfl | (refine id ?_; simp only [gxD, ne_eq, reduceCtorEq, not_false_eq_true, Nat.reduceAdd, *]; done) | (refine id ?_; simp only [gxD]; omega)) only [↓gxPre, gxPost, ↓reduceIte, Nat.reduceEqDiff, reduceCtorEq, Nat.reduceAdd]
  obtain ⟨c, hc, c1, c4⟩ : ∃ c : Nat, 8 * (1 + cc) = ((8 * c : Nat) : Int) ∧ 1 ≤ c ∧ c ≤ 4 := ⟨(1 + cc).toNat, by omega, by omega, by omega⟩
  rw [hc]
  refine callR_of (s_B10Signal_ok (A1.ext e2) (by omega)) ?_
  rintro _ G3 ⟨e3, L, o, g1, g2, hLl, hQ, rfl, hbL⟩
  obtain ⟨M, hM, hM8, hMb, hMs⟩ := qd_max hQ
  have hM0 := hM.1
  rw [hLl] at hMs
  have hp3 : G3.blk h = some ⟨true, t_float32, (psQ q).map fv⟩ := (e3.blk h (by omega)).trans hKp
  have hb3 := (e3.blk G.n (by omega)).trans hKb
  have hL : FS G3 (.slice (some ⟨o, 0, none⟩) (8 * c) (8 * c)) L := FS.own hbL g2 hLl
  have hps : FS G3 (.slice (some ⟨h, 0, none⟩) (psQ q).length (psQ q).length) (psQ q) := FS.own hp3 (by omega) rfl
  have AL : AF G3 _ L := ⟨hL, by omega, hQ.w32⟩
  have AP : AF G3 _ (psQ q) := ⟨hps, by omega, hpw⟩
  have oL := hL.one
  have oP := hps.one
  have hxF : ∀ i, i < 8 * c → FinW .f32 (L.getD i 0) ∧ Bd (vF L i) M := fun i hi => ⟨(hQ i (by omega)).ok.1, hMb i (by omega)⟩
  have hS := levels_ok q hM0 hM8 hLl c1 c4 n1 n3 hxF
  have hV := bands_valid q hM0 hM8 hLl c1 c4 n1 n3 hxF
  have hPf := powers_fin q hM0 hM8 hLl c1 c4 n1 n3 hxF
  have hBk := levels_back q hM0 hM8 hLl c1 c4 n1 n3 hxF n (Nat.le_refl _)
  have dl := detsS_length L (psQ q) n
  simp (disch := first | assumption | omega | rfl | (refine id ?_; simp only [gxD, ne_eq, reduceCtorEq, not_false_eq_true, Nat.reduceAdd, *]; done) | (refine id ?_; simp only [gxD]; omega)) only [↓gxPre, gxPost, ↓reduceIte, Nat.reduceEqDiff, reduceCtorEq, Nat.reduceAdd, hb3]
  refine callR_of (i_SplitLevels_law AL AP (by omega)) ?_
  rintro _ G4 ⟨e4, yc, yd, rfl, p4, q4, r4⟩
  simp only [hS, selL_t, Int.toNat_natCast] at p4 q4 r4 ⊢
  have oyc := p4.co.one
  have oyd := p4.de.one
  have hb4 := (e4.blk G.n (by omega)).trans hb3
  have nG4 : G.n < G4.n := by have := e3.n; have := e4.n; omega
  simp (disch := first | assumption | omega | rfl | (refine id ?_; simp only [gxD, ne_eq, reduceCtorEq, not_false_eq_true, Nat.reduceAdd, *]; done) | (refine id ?_; simp only [gxD]; omega)) only [↓gxPre, gxPost, ↓reduceIte, Nat.reduceEqDiff, reduceCtorEq, Nat.reduceAdd, hb4]
  refine callR_new ?_
  intro G5 e5 h5b h5n
  have hb5 := (e5.blk G.n nG4).trans hb4
  have hyc := p4.fs.ext e5
  have hyd := p4.ss.ext e5
  have hdw : W32S (detsS L (psQ q) n) := fun j => by
    by_cases hj : j < n
    · rw [dets_at hj]; exact tapL_w _ _
    · have : (detsS L (psQ q) n).getD j [] = [] := by simp [List.getD_eq_getElem?_getD, List.getElem?_eq_none (l := detsS L (psQ q) n) (i := j) (by omega)]
      rw [this]; intro i; simp
  have AC : AF G5 yc (nowS L (psQ q) n) := ⟨hyc, q4, nowS_w hQ.w32 n⟩
  have AD : AS G5 yd (detsS L (psQ q) n) := ⟨hyd, r4, hdw⟩
  have e35 := e4.trans e5
  have hjok : joinLevOk (nowS L (psQ q) n) (detsS L (psQ q) n) (psQ q) = true := by
    unfold joinLevOk allJ
    rw [hV, hpv, dl]
    simp only [Bool.true_and]
    rw [List.all_eq_true]
    intro t ht
    have ht' : t < n := by simpa using ht
    obtain ⟨a1, a2⟩ := levels_back q hM0 hM8 hLl c1 c4 n1 n3 hxF (t + 1) (by omega)
    exact all_fin fun i hi => (a2 i (by rw [a1] at hi; exact hi)).1
  refine callR_of (i_JoinLevels_law AC AD (AP.ext e35)) ?_
  rintro _ G6 ⟨e6, bk, rfl, p6, _⟩
  simp only [hjok, selL_t, dl] at p6 ⊢
  have hbk := p6.fs
  have obk := hbk.one
  have hb6 := (e6.blk G.n (by have := e5.n; omega)).trans hb5
  have h6b := (e6.blk G4.n (by omega)).trans h5b
  simp (disch := first | assumption | omega | rfl | (refine id ?_; simp only [gxD, ne_eq, reduceCtorEq, not_false_eq_true, Nat.reduceAdd, *]; done) | (refine id ?_; simp only [gxD]; omega)) only [↓gxPre, gxPost, ↓reduceIte, Nat.reduceEqDiff, reduceCtorEq, Nat.reduceAdd, h6b]
  refine callR_of (i_PowersOfBands_law ⟨AC.rd.ext e6, AC.le, AC.w⟩ ⟨AD.rd.ext e6, AD.le, AD.w⟩) ?_
  rintro _ G7 ⟨e7, en, rfl, p7, _⟩
  simp only [hV, hPf, Bool.and_self, selL_t] at p7 ⊢
  have hen := p7.fs
  have oen := hen.one
  have hb7 := (e7.blk G.n (by have := e5.n; have := e6.n; omega)).trans hb6
  have h7b := (e7.blk G4.n (by have := e6.n; omega)).trans h6b
  have e57 := e6.trans e7
  have nG7 : G4.n < G7.n := by have := e57.n; omega
  simp (disch := first | assumption | omega | rfl | (refine id ?_; simp only [gxD, ne_eq, reduceCtorEq, not_false_eq_true, Nat.reduceAdd, *]; done) | (refine id ?_; simp only [gxD]; omega)) only [↓gxPre, gxPost, ↓reduceIte, Nat.reduceEqDiff, reduceCtorEq, Nat.reduceAdd, h7b]
  refine callR_ext (s_ValidBands_law ⟨AC.rd.ext e57, AC.le, AC.w⟩ ⟨AD.rd.ext e57, AD.le, AD.w⟩) ?_
  intro G8 n8 b8
  have e8 : Ext G7 G8 := ⟨n8, b8⟩
  have h8b := (b8 G4.n nG7).trans h7b
  have e58 := e57.trans e8
  simp (disch := first | assumption | omega | rfl | (refine id ?_; simp only [gxD, ne_eq, reduceCtorEq, not_false_eq_true, Nat.reduceAdd, *]; done) | (refine id ?_; simp only [gxD]; omega)) only [↓gxPre, gxPost, ↓reduceIte, Nat.reduceEqDiff, reduceCtorEq, Nat.reduceAdd, hV, h8b]
  refine callR_ext (i_ValidBands_law ⟨AC.rd.ext e58, AC.le, AC.w⟩ ⟨AD.rd.ext e58, AD.le, AD.w⟩) ?_
  intro G9 n9 b9
  have e9 : Ext G8 G9 := ⟨n9, b9⟩
  have h9b := (b9 G4.n (by omega)).trans h8b
  have e59 := e58.trans e9
  have hyd9 := AD.rd.ext e59
  have lyd := hyd9.len
  rw [dl] at lyd
  have e79 := e8.trans e9
  have hen9 := hen.ext e79
  have len' := hen9.len
  rw [powers_len] at len'
  have hbk9 := hbk.ext (e7.trans e79)
  have e39 := e35.trans e59
  have hL9 := hL.ext e39
  have hb9 := ((e79.blk G.n (by omega))).trans hb7
  have lbk : (nowJ (nowS L (psQ q) n) (detsS L (psQ q) n) (psQ q) n).length = 8 * c := by rw [hBk.1, Nat.sub_self]; rfl
  have hbL8 := bT_le hM0 hM8 n n3
  simp (disch := first | assumption | omega | rfl | (refine id ?_; simp only [gxD, ne_eq, reduceCtorEq, not_false_eq_true, Nat.reduceAdd, *]; done) | (refine id ?_; simp only [gxD]; omega)) only [↓gxPre, gxPost, ↓reduceIte, Nat.reduceEqDiff, reduceCtorEq, Nat.reduceAdd, hV, h9b, lyd, len']
  refine callR_pure (w_b10Apart_no hbk9 hL9 (by omega) (by omega) fun i hi => leq_01 (hBk.2 i (by rw [Nat.sub_self]; show i < 8 * c; omega)).1 (hxF i (by omega)).1 (by
    obtain ⟨u1, u2⟩ := (hBk.2 i (by rw [Nat.sub_self]; show i < 8 * c; omega)).2
    rw [Nat.sub_self] at u1 u2
    have z0 : nowS L (psQ q) 0 = L := rfl
    have z1 : bT M 0 = M := rfl
    rw [z0, z1] at u1 u2
    unfold vF at u1 u2
    exact ⟨by grind_linarith, by grind_linarith⟩)) (by first | exact .inl rfl | (simp (disch := first | assumption | omega | rfl | (refine id ?_; simp only [gxD, ne_eq, reduceCtorEq, not_false_eq_true, Nat.reduceAdd, *]; done) | (refine id ?_; simp only [gxD]; omega)) only [↓gxPre, gxPost, ↓reduceIte, Nat.reduceEqDiff, reduceCtorEq, Nat.reduceAdd]; done)) ?_
  simp (disch := first | assumption | omega | rfl | (refine id ?_; simp only [gxD, ne_eq, reduceCtorEq, not_false_eq_true, Nat.reduceAdd, *]; done) | (refine id ?_; simp only [gxD]; omega)) only [↓gxPre, gxPost, ↓reduceIte, Nat.reduceEqDiff, reduceCtorEq, Nat.reduceAdd, len']
  refine loop_forH (n + 1) (fun i => [.pointer (some ⟨G.n, 0, some 1⟩), .int .i64 n, .slice (some ⟨o, 0, none⟩) (8 * c) (8 * c), .pointer (some ⟨G4.n, 0, some 2⟩), en, .float .f64 (enD q L n i), .int .i64 ((n + 1 : Nat) : Int), .int .i64 i]) (fun i J => G9 = J) rfl rfl ?_ ?_
  rotate_left
  · rintro i _ hi rfl
    have hpl : (powersF (nowS L (psQ q) n) (detsS L (psQ q) n)).length = n + 1 := powers_len q
    simp (disch := first | assumption | omega | rfl | (refine id ?_; simp only [gxD, ne_eq, reduceCtorEq, not_false_eq_true, Nat.reduceAdd, *]; done) | (refine id ?_; simp only [gxD]; omega)) only [↓gxPre, gxPost, ↓reduceIte, Nat.reduceEqDiff, reduceCtorEq, Nat.reduceAdd, hen9.ia, hen9.ld, hpl]
    simp [enD, foldI_succ, powW]
  rintro _ rfl
  simp (disch := first | assumption | omega | rfl | (refine id ?_; simp only [gxD, ne_eq, reduceCtorEq, not_false_eq_true, Nat.reduceAdd, *]; done) | (refine id ?_; simp only [gxD]; omega)) only [↓gxPre, gxPost, ↓reduceIte, Nat.reduceEqDiff, reduceCtorEq, Nat.reduceAdd, Int.lt_irrefl]
  refine callR_pure (w_b10Squares_ok hL9 (by omega)) (.inl rfl) ?_
  simp (disch := first | assumption | omega | rfl | (refine id ?_; simp only [gxD, ne_eq, reduceCtorEq, not_false_eq_true, Nat.reduceAdd, *]; done) | (refine id ?_; simp only [gxD]; omega)) only [↓gxPre, gxPost, ↓reduceIte, Nat.reduceEqDiff, reduceCtorEq, Nat.reduceAdd]
  refine callR_pure w_b10Gap_ok (.inl rfl) ?_
  have hte := trees_energy q hM0 hM8 hLl c1 c4 n1 n3 hxF hMs
  rw [hLl]
  have hmk : eMks t_float32 4 (.float .f32 0) (.int .i64 ((8 * c : Nat) : Int)) (.int .i64 ((8 * c : Nat) : Int)) G9 = some (.slice (some ⟨G9.n, 0, none⟩) (8 * c) (8 * c), G9.new ⟨true, t_float32, List.replicate (8 * c) (.float .f32 0)⟩) := eMks_i (by omega)
  obtain ⟨f, hf⟩ : ∃ f : Nat → Nat → Nat, f = fun l i => (bandW q L n l).getD i 0 := ⟨_, rfl⟩
  have hz : List.replicate (8 * c) (Value.float .f32 0) = (accM f (8 * c) 0 0).map fv := by rw [accM_zero, rep_fv]
  simp (disch := first | assumption | omega | rfl | (refine id ?_; simp only [gxD, ne_eq, reduceCtorEq, not_false_eq_true, Nat.reduceAdd, *]; done) | (refine id ?_; simp only [gxD]; omega)) only [↓gxPre, gxPost, ↓reduceIte, Nat.reduceEqDiff, reduceCtorEq, Nat.reduceAdd, hte, hmk]
  have h9b' := h9b
  refine loop_forH (n + 1) (fun k => [.pointer (some ⟨G.n, 0, some 1⟩), .int .i64 n, .slice (some ⟨o, 0, none⟩) (8 * c) (8 * c), .pointer (some ⟨G4.n, 0, some 2⟩), .slice (some ⟨G9.n, 0, none⟩) (8 * c) (8 * c), .slice (some ⟨G9.n + 1, 0, none⟩) k k, .int .i64 k])
    (fun k J => G9.n + 2 ≤ J.n ∧ Ext G9 J ∧ J.blk G9.n = some ⟨true, t_float32, (accM f (8 * c) k 0).map fv⟩ ∧ J.blk (G9.n + 1) = some ⟨true, t_bool, (List.replicate k true).map bv⟩) rfl ⟨by simp only [new_n]; omega, ⟨by first | omega | (simp only [new_n, put_n]; omega) | (simp only [new_n, put_n] at *; omega), fun i hi => by simp (disch := first | assumption | omega | rfl | (refine id ?_; simp only [gxD, ne_eq, reduceCtorEq, not_false_eq_true, Nat.reduceAdd, *]; done) | (refine id ?_; simp only [gxD]; omega)) only [↓gxPre, gxPost, ↓reduceIte, Nat.reduceEqDiff, reduceCtorEq, Nat.reduceAdd, *]⟩, by rw [← hz]; simp (disch := first | assumption | omega | rfl | (refine id ?_; simp only [gxD, ne_eq, reduceCtorEq, not_false_eq_true, Nat.reduceAdd, *]; done) | (refine id ?_; simp only [gxD]; omega)) only [↓gxPre, gxPost, ↓reduceIte, Nat.reduceEqDiff, reduceCtorEq, Nat.reduceAdd], by simp (disch := first | assumption | omega | rfl | (refine id ?_; simp only [gxD, ne_eq, reduceCtorEq, not_false_eq_true, Nat.reduceAdd, *]; done) | (refine id ?_; simp only [gxD]; omega)) only [↓gxPre, gxPost, ↓reduceIte, Nat.reduceEqDiff, reduceCtorEq, Nat.reduceAdd]; rfl⟩ ?_ ?_
  rotate_left
  · rintro k J hk ⟨j1, j2, j3, j4⟩
    have e3J := e39.trans j2
    have hbJ := (j2.blk G.n (by omega)).trans hb9
    have hdJ := (j2.blk G4.n (by omega)).trans h9b
    have e5J := e59.trans j2
    have hck : (k : Int) ≤ n := by omega
    obtain ⟨aok, aln⟩ := alone_ok q hM0 hM8 hLl c1 c4 n1 n3 hxF (l := k) (by omega)
    simp (disch := first | assumption | omega | rfl | (refine id ?_; simp only [gxD, ne_eq, reduceCtorEq, not_false_eq_true, Nat.reduceAdd, *]; done) | (refine id ?_; simp only [gxD]; omega)) only [↓gxPre, gxPost, ↓reduceIte, Nat.reduceEqDiff, reduceCtorEq, Nat.reduceAdd, hck, hbJ, hdJ]
    refine callR_of (i_BandAlone_law ⟨AC.rd.ext e5J, AC.le, AC.w⟩ ⟨AD.rd.ext e5J, AD.le, AD.w⟩ (AP.ext e3J) (by omega)) ?_
    rintro _ J1 ⟨u1, al, rfl, pa, _⟩
    simp only [aok, selL_t] at pa ⊢
    have hal : FS J1 al (bandW q L n k) := pa.fs
    have oal := hal.one
    have lal := hal.len
    rw [aln] at lal
    have j3' := (u1.blk G9.n (by omega)).trans j3
    have j4' := (u1.blk (G9.n + 1) (by omega)).trans j4
    have e9J := j2.trans u1
    have nJ1 := u1.n
    have hL1 := hL.ext (e3J.trans u1)
    have lL1 := hL1.len
    rw [hLl] at lL1
    simp (disch := first | assumption | omega | rfl | (refine id ?_; simp only [gxD, ne_eq, reduceCtorEq, not_false_eq_true, Nat.reduceAdd, *]; done) | (refine id ?_; simp only [gxD]; omega)) only [↓gxPre, gxPost, ↓reduceIte, Nat.reduceEqDiff, reduceCtorEq, Nat.reduceAdd, lal, lL1]
    refine loop_forH (8 * c) (fun i => [.pointer (some ⟨G.n, 0, some 1⟩), .int .i64 n, .slice (some ⟨o, 0, none⟩) (8 * c) (8 * c), .pointer (some ⟨G4.n, 0, some 2⟩), .slice (some ⟨G9.n, 0, none⟩) (8 * c) (8 * c), .slice (some ⟨G9.n + 1, 0, none⟩) k k, .int .i64 k, al, .int .i64 ((8 * c : Nat) : Int), .int .i64 i])
      (fun i Q => Q.n = J1.n ∧ Ext G9 Q ∧ Q.blk G9.n = some ⟨true, t_float32, (accM f (8 * c) k i).map fv⟩ ∧ ∀ h, h ≠ G9.n → Q.blk h = J1.blk h) rfl ⟨rfl, e9J, j3', fun _ _ => rfl⟩ ?_ ?_
    rotate_left
    · rintro i Q hi ⟨q1, q2, q3, q4⟩
      have hQal : FS Q al (bandW q L n k) := (pa.keep (by omega) fun h hh => q4 h (by have := (pa.hdl hh).1; omega)).fs
      have ha : ((accM f (8 * c) k i).map fv)[i]? = some (.float .f32 (accF (fun l => f l i) k)) := by rw [fv_at (by rw [accM_len]; exact hi), accM_at hi, if_neg (Nat.lt_irrefl _)]
      have hlm : ((accM f (8 * c) k i).map fv).length = 8 * c := by rw [lMapN, accM_len]
      have hs : ((accM f (8 * c) k i).map fv).set i (.float .f32 (fbin .add .f32 (accF (fun l => f l i) k) (f k i))) = (accM f (8 * c) k (i + 1)).map fv := by rw [fv_set', accM_set hi]
      have hfk : (bandW q L n k).getD i 0 = f k i := by rw [hf]
      simp (disch := first | assumption | omega | rfl | (refine id ?_; simp only [gxD, ne_eq, reduceCtorEq, not_false_eq_true, Nat.reduceAdd, *]; done) | (refine id ?_; simp only [gxD]; omega)) only [↓gxPre, gxPost, ↓reduceIte, Nat.reduceEqDiff, reduceCtorEq, Nat.reduceAdd, q3, ha, hQal.ia, hQal.ld, aln, hfk]
      refine ⟨by simp, q1, q2.put (Nat.le_refl _) _, by rw [hs], fun h hh => ?_⟩
      rw [hput_other _ _ _ _ hh, q4 h hh]
    rintro Q ⟨q1, q2, q3, q4⟩
    have k4 : Q.blk (G9.n + 1) = some ⟨true, t_bool, (List.replicate k true).map bv⟩ := (q4 _ (by omega)).trans j4'
    have hlr : ((List.replicate k true).map bv).length = k := by simp
    have hsn : (List.replicate k true).map bv ++ [.bool true] = (List.replicate (k + 1) true).map bv := by rw [List.replicate_succ', List.map_append]; rfl
    obtain ⟨f1, f2, f3, f4⟩ := push_at q2 k4 (by omega) (by omega) hsn
    simp (disch := first | assumption | omega | rfl | (refine id ?_; simp only [gxD, ne_eq, reduceCtorEq, not_false_eq_true, Nat.reduceAdd, *]; done) | (refine id ?_; simp only [gxD]; omega)) only [↓gxPre, gxPost, ↓reduceIte, Nat.reduceEqDiff, reduceCtorEq, Nat.reduceAdd, Int.lt_irrefl, k4, rd1_at]
    refine ⟨by simp, by omega, f1, ?_, by rw [hsn]⟩
    rw [← accM_all]
    exact q3
  rintro J ⟨j1, j2, j3, j4⟩
  have e3J := e39.trans j2
  have hbJ := (j2.blk G.n (by omega)).trans hb9
  have hdJ := (j2.blk G4.n (by omega)).trans h9b
  have e5J := e59.trans j2
  have hck : ¬ (((n + 1 : Nat) : Int) ≤ n) := by omega
  simp (disch := first | assumption | omega | rfl | (refine id ?_; simp only [gxD, ne_eq, reduceCtorEq, not_false_eq_true, Nat.reduceAdd, *]; done) | (refine id ?_; simp only [gxD]; omega)) only [↓gxPre, gxPost, ↓reduceIte, Nat.reduceEqDiff, reduceCtorEq, Nat.reduceAdd, hck]
  have hkF : BS J (.slice (some ⟨G9.n + 1, 0, none⟩) (n + 1) (n + 1)) (List.replicate (n + 1) true) := FS0.own j4 (by omega) (by simp)
  obtain ⟨w', hs1, hs2⟩ := Sl.slc hkF .i64 .i64 1 ((n + 1 : Nat) : Int) (by omega) (by omega) (by simp) (by simp)
  have hsl : aSlcLo (.slice (some ⟨G9.n + 1, 0, none⟩) (n + 1) (n + 1)) (.int .i64 1) = some w' := hs1
  have hdr : (((List.replicate (n + 1) true).map bv).drop (1 : Int).toNat).take (((n + 1 : Nat) : Int).toNat - (1 : Int).toNat) = (List.replicate n true).map bv := by
    rw [← List.map_drop, ← List.map_take]
    congr 1
    apply List.ext_getElem
    · simp
    · intro i h1 h2
      simp
  rw [hdr] at hs2
  have ow' := hs2.one
  have hkok : keepOk (nowS L (psQ q) n) (detsS L (psQ q) n) (List.replicate n true) = true := by
    unfold keepOk
    rw [hV, dl, decide_eq_true (by simp)]
    rfl
  have hkS : keepS (List.replicate n true) (detsS L (psQ q) n) (detsS L (psQ q) n).length = detsS L (psQ q) n := by
    have := keepS_all (yss := detsS L (psQ q) n)
    rwa [dl] at this ⊢
  have hkL : keepL true (nowS L (psQ q) n) = nowS L (psQ q) n := rfl
  apply bothGen (A := fun p y z Q => G.n < p ∧ G4.n < p ∧ G9.n + 1 < p ∧ p < Q.n ∧ Ext J Q ∧ Q.blk p = some ⟨true, t_Bands, [y, z]⟩ ∧ FS Q y (nowS L (psQ q) n) ∧ SS Q z (detsS L (psQ q) n))
  case main =>
    intro key
    refine bothR_mk ?_ ?_
    · simp (disch := first | assumption | omega | rfl | (refine id ?_; simp only [gxD, ne_eq, reduceCtorEq, not_false_eq_true, Nat.reduceAdd, *]; done) | (refine id ?_; simp only [gxD]; omega)) only [↓gxPre, gxPost, ↓reduceIte, Nat.reduceEqDiff, reduceCtorEq, Nat.reduceAdd, hdJ, hsl]
      refine callR_of (i_KeepBands_law ⟨AC.rd.ext e5J, AC.le, AC.w⟩ ⟨AD.rd.ext e5J, AD.le, AD.w⟩ ⟨hs2, by simp; omega⟩) ?_
      rintro _ Q ⟨u1, y, z, rfl, pq, _, _⟩
      simp only [hkok, selL_t, hkS] at pq ⊢
      have oy := pq.co.one
      have oz := pq.de.one
      have nJQ := u1.n
      simp (disch := first | assumption | omega | rfl | (refine id ?_; simp only [gxD, ne_eq, reduceCtorEq, not_false_eq_true, Nat.reduceAdd, *]; done) | (refine id ?_; simp only [gxD]; omega)) only [↓gxPre, gxPost, ↓reduceIte, Nat.reduceEqDiff, reduceCtorEq, Nat.reduceAdd]
      obtain ⟨p, hp⟩ : ∃ p, p = Q.n := ⟨_, rfl⟩
      obtain ⟨V, hV'⟩ : ∃ V, V = Q.new ⟨true, t_Bands, [y, z]⟩ := ⟨_, rfl⟩
      have eV : Ext Q V := by rw [hV']; exact .new _ _
      have bV : V.blk p = some ⟨true, t_Bands, [y, z]⟩ := by rw [hV', hp]; exact new_self _ _
      have nV : V.n = Q.n + 1 := by rw [hV']; rfl
      rw [← hV', ← hp]
      refine key p y z V ⟨by omega, by omega, by omega, by omega, u1.trans eV, bV, pq.fs.ext eV, pq.ss.ext eV⟩
    · simp (disch := first | assumption | omega | rfl | (refine id ?_; simp only [gxD, ne_eq, reduceCtorEq, not_false_eq_true, Nat.reduceAdd, *]; done) | (refine id ?_; simp only [gxD]; omega)) only [↓gxPre, gxPost, ↓reduceIte, Nat.reduceEqDiff, reduceCtorEq, Nat.reduceAdd, hdJ, hsl]
      refine callR_new ?_
      intro K2 eK2 hbK2 nK2
      have hdK2 := (eK2.blk G4.n (by omega)).trans hdJ
      refine callR_of (i_KeepBands_law ⟨(AC.rd.ext e5J).ext eK2, AC.le, AC.w⟩ ⟨(AD.rd.ext e5J).ext eK2, AD.le, AD.w⟩ ⟨Sl.ext hs2 eK2, by simp; omega⟩) ?_
      rintro _ Q ⟨u1, y, z, rfl, pq, _, _⟩
      simp only [hkok, selL_t, hkS] at pq ⊢
      have oy := pq.co.one
      have oz := pq.de.one
      have nJQ := u1.n
      have hbQ := (u1.blk J.n (by omega)).trans hbK2
      simp (disch := first | assumption | omega | rfl | (refine id ?_; simp only [gxD, ne_eq, reduceCtorEq, not_false_eq_true, Nat.reduceAdd, *]; done) | (refine id ?_; simp only [gxD]; omega)) only [↓gxPre, gxPost, ↓reduceIte, Nat.reduceEqDiff, reduceCtorEq, Nat.reduceAdd, hdK2, hbQ]
      obtain ⟨p, hp⟩ : ∃ p, p = J.n := ⟨_, rfl⟩
      obtain ⟨V, hV'⟩ : ∃ V, V = Q.put J.n ⟨true, t_Bands, [y, z]⟩ := ⟨_, rfl⟩
      have eV : Ext J V := by rw [hV']; exact (eK2.trans u1).put (Nat.le_refl _) _
      have bV : V.blk p = some ⟨true, t_Bands, [y, z]⟩ := by rw [hV', hp]; exact hput_self _ _ _
      have nV : V.n = Q.n := by rw [hV']; rfl
      have pV := OwB.keepB pq (H' := V) (by omega) fun h h1 h2 => by rw [hV']; exact hput_other _ _ _ _ (by omega)
      rw [← hV', ← hp]
      refine key p y z V ⟨by omega, by omega, by omega, by omega, eV, bV, pV.fs, pV.ss⟩
  case kk =>
    rintro p y z Q ⟨w1, w2, w3, w4, eQ, hbQ, hyQ, hzQ⟩
    have e3Q := e3J.trans eQ
    have hbQ1 := (eQ.blk G.n (by omega)).trans hbJ
    have hdQ := (eQ.blk G4.n (by omega)).trans hdJ
    have hLq := hL.ext e3Q
    have hl1 : (L.drop 1).length = 8 * c - 1 := by rw [List.length_drop, hLl]
    obtain ⟨v', hs3, hs4⟩ := hLq.slc .i64 .i64 1 ((8 * c : Nat) : Int) (by omega) (by omega) (by simp; omega) (by simp; omega)
    have hsl3 : aSlcLo (.slice (some ⟨o, 0, none⟩) (8 * c) (8 * c)) (.int .i64 1) = some v' := hs3
    have hdr3 : ((L.map fv).drop (1 : Int).toNat).take (((8 * c : Nat) : Int).toNat - (1 : Int).toNat) = (L.drop 1).map fv := by
      rw [List.map_drop]
      exact List.take_of_length_le (by simp; omega)
    rw [hdr3] at hs4
    have ov' := hs4.one
    have AD1 : AF Q v' (L.drop 1) := ⟨hs4, by omega, fun j => by
      have := hQ.w32 (j + 1)
      simpa [List.getD_eq_getElem?_getD, List.getElem?_drop] using this⟩
    have hno : splitLevOk (L.drop 1) (psQ q) (n : Int) = false := by
      unfold splitLevOk
      have : ¬ (L.drop 1).length % 2 ^ ((n : Int)).toNat = 0 := by
        rw [Int.toNat_natCast, hl1]
        rcases (by omega : n = 1 ∨ n = 2 ∨ n = 3) with e | e | e <;> rw [e] <;> omega
      rw [decide_eq_false this]
      simp
    apply bothGen (A := fun p2 y2 z2 V => Ext Q V)
    case main =>
      intro key
      refine bothR_mk ?_ ?_
      · simp (disch := first | assumption | omega | rfl | (refine id ?_; simp only [gxD, ne_eq, reduceCtorEq, not_false_eq_true, Nat.reduceAdd, *]; done) | (refine id ?_; simp only [gxD]; omega)) only [↓gxPre, gxPost, ↓reduceIte, Nat.reduceEqDiff, reduceCtorEq, Nat.reduceAdd, hsl3, hbQ1]
        refine callR_of (i_SplitLevels_law AD1 (AP.ext e3Q) (by omega)) ?_
        rintro _ Q2 ⟨u1, y2, z2, rfl, pq, _, _⟩
        simp only [hno, selL_f] at pq ⊢
        have oy := pq.co.one
        have oz := pq.de.one
        have hp2 := (u1.blk p w4).trans hbQ
        have hd2 := (u1.blk G4.n (by omega)).trans hdQ
        have nQ2 := u1.n
        simp (disch := first | assumption | omega | rfl | (refine id ?_; simp only [gxD, ne_eq, reduceCtorEq, not_false_eq_true, Nat.reduceAdd, *]; done) | (refine id ?_; simp only [gxD]; omega)) only [↓gxPre, gxPost, ↓reduceIte, Nat.reduceEqDiff, reduceCtorEq, Nat.reduceAdd, hp2, hd2]
        obtain ⟨p0, _⟩ : ∃ p0 : Nat, p0 = 0 := ⟨0, rfl⟩
        obtain ⟨V, hV'⟩ : ∃ V, V = Q2.new ⟨true, t_Bands, [y2, z2]⟩ := ⟨_, rfl⟩
        have eV : Ext Q V := by rw [hV']; exact u1.trans (.new _ _)
        rw [← hV']
        refine key p0 y2 z2 V eV
      · simp (disch := first | assumption | omega | rfl | (refine id ?_; simp only [gxD, ne_eq, reduceCtorEq, not_false_eq_true, Nat.reduceAdd, *]; done) | (refine id ?_; simp only [gxD]; omega)) only [↓gxPre, gxPost, ↓reduceIte, Nat.reduceEqDiff, reduceCtorEq, Nat.reduceAdd, hsl3, hbQ1]
        refine callR_new ?_
        intro K2 eK2 hbK2 nK2
        have hbK3 := (eK2.blk G.n (by omega)).trans hbQ1
        refine callR_of (i_SplitLevels_law (AD1.ext eK2) ((AP.ext e3Q).ext eK2) (by omega)) ?_
        rintro _ Q2 ⟨u1, y2, z2, rfl, pq, _, _⟩
        simp only [hno, selL_f] at pq ⊢
        have oy := pq.co.one
        have oz := pq.de.one
        have hbQ2 := (u1.blk Q.n (by omega)).trans hbK2
        have nQ2 := u1.n
        have hp2 := ((eK2.trans u1).blk p w4).trans hbQ
        have hd2 := ((eK2.trans u1).blk G4.n (by omega)).trans hdQ
        simp (disch := first | assumption | omega | rfl | (refine id ?_; simp only [gxD, ne_eq, reduceCtorEq, not_false_eq_true, Nat.reduceAdd, *]; done) | (refine id ?_; simp only [gxD]; omega)) only [↓gxPre, gxPost, ↓reduceIte, Nat.reduceEqDiff, reduceCtorEq, Nat.reduceAdd, hbK3, hbQ2, hp2, hd2]
        obtain ⟨p0, _⟩ : ∃ p0 : Nat, p0 = 0 := ⟨0, rfl⟩
        obtain ⟨V, hV'⟩ : ∃ V, V = Q2.put Q.n ⟨true, t_Bands, [y2, z2]⟩ := ⟨_, rfl⟩
        have eV : Ext Q V := by rw [hV']; exact (eK2.trans u1).put (Nat.le_refl _) _
        rw [← hV']
        refine key p0 y2 z2 V eV
    case kk =>
      rintro _ _ _ V eV
      have hbV := (eV.blk p w4).trans hbQ
      have hdV := (eV.blk G4.n (by omega)).trans hdQ
      have e5V := (e5J.trans eQ).trans eV
      refine callR_ext (i_SameBands_law ⟨hyQ.ext eV, AC.le, AC.w⟩ ⟨hzQ.ext eV, AD.le, AD.w⟩ ⟨AC.rd.ext e5V, AC.le, AC.w⟩ ⟨AD.rd.ext e5V, AD.le, AD.w⟩) ?_
      intro W nW bW
      have eW : Ext V W := ⟨nW, bW⟩
      have e3W := (e3Q.trans eV).trans eW
      have hLW := hL.ext e3W
      have hall : FS W (.slice (some ⟨G9.n, 0, none⟩) (8 * c) (8 * c)) (accM f (8 * c) (n + 1) 0) := FS.own (((eQ.trans eV).trans eW).blk G9.n (by omega) |>.trans j3) (by have := eQ.n; have := eV.n; omega) (accM_len _ _ _ _)
      rw [sameL_self, sameRows_self, Bool.and_self]
      simp (disch := first | assumption | omega | rfl | (refine id ?_; simp only [gxD, ne_eq, reduceCtorEq, not_false_eq_true, Nat.reduceAdd, *]; done) | (refine id ?_; simp only [gxD]; omega)) only [↓gxPre, gxPost, ↓reduceIte, Nat.reduceEqDiff, reduceCtorEq, Nat.reduceAdd]
      refine callR_pure (w_b10Apart_no hall hLW (by rw [accM_len]; omega) (by rw [accM_len]; omega) fun i hi => ?_) (by first | exact .inl rfl | (simp (disch := first | assumption | omega | rfl | (refine id ?_; simp only [gxD, ne_eq, reduceCtorEq, not_false_eq_true, Nat.reduceAdd, *]; done) | (refine id ?_; simp only [gxD]; omega)) only [↓gxPre, gxPost, ↓reduceIte, Nat.reduceEqDiff, reduceCtorEq, Nat.reduceAdd]; done)) ?_
      · rw [accM_len] at hi
        obtain ⟨a1, a2⟩ := all_near q hM0 hM8 hLl c1 c4 n1 n3 hxF hi
        rw [accM_at hi, if_neg (by omega), hf]
        exact leq_01 a1 (hxF i hi).1 a2
      simp (disch := first | assumption | omega | rfl | (refine id ?_; simp only [gxD, ne_eq, reduceCtorEq, not_false_eq_true, Nat.reduceAdd, *]; done) | (refine id ?_; simp only [gxD]; omega)) only [↓gxPre, gxPost, ↓reduceIte, Nat.reduceEqDiff, reduceCtorEq, Nat.reduceAdd]
end Go.Proofs.Ytddekdgggpifmaa
