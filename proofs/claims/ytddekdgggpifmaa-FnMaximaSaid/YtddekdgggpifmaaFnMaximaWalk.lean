/- The law FnMaxima, walked: it returns true. -/
import Derived.Test.YtddekdgggpifmaaFnMaximaXYToZC
namespace Go.Proofs.Ytddekdgggpifmaa
open Go.Gx
set_option maxRecDepth 100000
set_option linter.unusedSimpArgs false
set_option linter.unusedVariables false
set_option maxHeartbeats 2000000
theorem w_FnMaxima_ok {H : Heap} {v0 : Value} {xs0 : List Nat} (hv0 : YA H v0 xs0) {v1 : Value} {xs1 : List Nat} (hv1 : YA H v1 xs1) : ACalls Try.prog n_w_FnMaxima [v0, v1] H fun r H' => r = .bool true := by
  refine k_w_FnMaxima.run rfl ?_
  unfold c_w_FnMaxima
  have o0 := Sl.one hv0.rd
  have o1 := Sl.one hv1.rd
  simp (disch := first | assumption | omega | rfl | (refine id ?_; simp only [gxD, ne_eq, reduceCtorEq, not_false_eq_true, Nat.reduceAdd, *]; done) | (refine id ?_; simp only [gxD]; omega)) only [↓gxPre, gxPost, ↓reduceIte, Nat.reduceEqDiff, reduceCtorEq, Nat.reduceAdd]
  refine callR_pure (w_b10Long_ok hv0 hv1) (.inl rfl) ?_
  by_cases c0 : (decide (1048576 < xs0.length) || decide (1048576 < xs1.length)) = true
  · rw [c0]
    simp (disch := first | assumption | omega | rfl | (refine id ?_; simp only [gxD, ne_eq, reduceCtorEq, not_false_eq_true, Nat.reduceAdd, *]; done) | (refine id ?_; simp only [gxD]; omega)) only [↓gxPre, gxPost, ↓reduceIte, Nat.reduceEqDiff, reduceCtorEq, Nat.reduceAdd]
  have c0' : (decide (1048576 < xs0.length) || decide (1048576 < xs1.length)) = false := by simpa using c0
  have cl : xs0.length ≤ 1048576 ∧ xs1.length ≤ 1048576 := by
    simp only [Bool.or_eq_false_iff, decide_eq_false_iff_not] at c0'
    omega
  have A0 := hv0.yb (by omega)
  have A1 := hv1.yb (by omega)
  rw [c0']
  simp (disch := first | assumption | omega | rfl | (refine id ?_; simp only [gxD, ne_eq, reduceCtorEq, not_false_eq_true, Nat.reduceAdd, *]; done) | (refine id ?_; simp only [gxD]; omega)) only [↓gxPre, gxPost, ↓reduceIte, Nat.reduceEqDiff, reduceCtorEq, Nat.reduceAdd]
  obtain ⟨nn, k0, k1, hkd⟩ := w_b10At_ok (k := 0) (n := 20) A1 (by omega) (by omega) (by omega) (by omega)
  refine callR_pure hkd (.inl rfl) ?_
  obtain ⟨n, hn, n1, n20⟩ : ∃ n : Nat, 1 + nn = (n : Int) ∧ 1 ≤ n ∧ n ≤ 20 := ⟨(1 + nn).toNat, by omega, by omega, by omega⟩
  simp (disch := first | assumption | omega | rfl | (refine id ?_; simp only [gxD, ne_eq, reduceCtorEq, not_false_eq_true, Nat.reduceAdd, *]; done) | (refine id ?_; simp only [gxD]; omega)) only [↓gxPre, gxPost, ↓reduceIte, Nat.reduceEqDiff, reduceCtorEq, Nat.reduceAdd, hn]
  refine callR_of (s_B10Signal_ok A0 (by omega)) ?_
  rintro _ G ⟨e1, a, oa, a1, a2, la, hQa, rfl, hba⟩
  have hFa0 : FS G (.slice (some ⟨oa, 0, none⟩) n n) a := FS.own hba a2 la
  have ona := hFa0.one
  simp (disch := first | assumption | omega | rfl | (refine id ?_; simp only [gxD, ne_eq, reduceCtorEq, not_false_eq_true, Nat.reduceAdd, *]; done) | (refine id ?_; simp only [gxD]; omega)) only [↓gxPre, gxPost, ↓reduceIte, Nat.reduceEqDiff, reduceCtorEq, Nat.reduceAdd]
  refine callR_of (s_B10Signal_ok (A1.ext e1) (by omega)) ?_
  rintro _ G2 ⟨e2, b, ob, b1, b2, lb, hQb, rfl, hbb⟩
  have hFa : FS G2 (.slice (some ⟨oa, 0, none⟩) n n) a := hFa0.ext e2
  have hFb : FS G2 (.slice (some ⟨ob, 0, none⟩) n n) b := FS.own hbb b2 lb
  have onb := hFb.one
  have hla := long128 hQa (by omega) (by omega)
  have hlb := long128 hQb (by omega) (by omega)
  have Aa : AF G2 _ a := ⟨hFa, by omega, hQa.w32⟩
  simp (disch := first | assumption | omega | rfl | (refine id ?_; simp only [gxD, ne_eq, reduceCtorEq, not_false_eq_true, Nat.reduceAdd, *]; done) | (refine id ?_; simp only [gxD]; omega)) only [↓gxPre, gxPost, ↓reduceIte, Nat.reduceEqDiff, reduceCtorEq, Nat.reduceAdd]
  refine callR_of (i_MaximaOf_law Aa) ?_
  rintro _ G3 ⟨e3, mx, rfl, p3, _⟩
  rw [hla] at p3
  simp only [hla, selL_t] at p3 ⊢
  have hmx : IS G3 mx (maxL a) := p3.is
  have omx := hmx.one
  simp (disch := first | assumption | omega | rfl | (refine id ?_; simp only [gxD, ne_eq, reduceCtorEq, not_false_eq_true, Nat.reduceAdd, *]; done) | (refine id ?_; simp only [gxD]; omega)) only [↓gxPre, gxPost, ↓reduceIte, Nat.reduceEqDiff, reduceCtorEq, Nat.reduceAdd]
  have hFa3 := hFa.ext e3
  obtain ⟨r31, r32⟩ := rows_three hla
  obtain ⟨r21, r22⟩ := rows_two hla hlb (by omega)
  obtain ⟨w3, w2⟩ := w_rows hQa.w32 hQb.w32
  have hz : within 0 0 128 = true := by decide
  have hz2 : within 2 0 128 = true := by decide
  simp (disch := first | assumption | omega | rfl | (refine id ?_; simp only [gxD, ne_eq, reduceCtorEq, not_false_eq_true, Nat.reduceAdd, *]; done) | (refine id ?_; simp only [gxD]; omega)) only [↓gxPre, gxPost, ↓reduceIte, Nat.reduceEqDiff, reduceCtorEq, Nat.reduceAdd, eBsl_3]
  obtain ⟨K, hK⟩ : ∃ K, K = G3.new ⟨true, 24, [.slice (some ⟨oa, 0, none⟩) n n, .slice (some ⟨oa, 0, none⟩) n n, .slice (some ⟨oa, 0, none⟩) n n]⟩ := ⟨_, rfl⟩
  rw [← hK]
  have eK : Ext G3 K := by rw [hK]; exact .new _ _
  have hKb : K.blk G3.n = some ⟨true, 24, [.slice (some ⟨oa, 0, none⟩) n n, .slice (some ⟨oa, 0, none⟩) n n, .slice (some ⟨oa, 0, none⟩) n n]⟩ := by rw [hK]; exact new_self _ _
  have hKn : K.n = G3.n + 1 := by rw [hK]; rfl
  clear hK
  refine callR_of (i_LinkMaxima_law (xs0 := [a, a, a]) (a1 := 0) ⟨SS.three hKb (by omega) (hFa3.ext eK), by omega, w3⟩ (by omega)) ?_
  rintro _ G4 ⟨e4, sm, rfl, p4, _⟩
  have hl3 : ([a, a, a] : List (List Nat)).length - 1 = 2 := rfl
  have hg3 : ([a, a, a] : List (List Nat)).getD 0 [] = a := rfl
  simp only [r31, hz, Bool.and_self, selL_t, hl3, hg3, link_same] at p4 ⊢
  have hsm : IS G4 sm (maxL a) := p4.is
  have osm := hsm.one
  simp (disch := first | assumption | omega | rfl | (refine id ?_; simp only [gxD, ne_eq, reduceCtorEq, not_false_eq_true, Nat.reduceAdd, *]; done) | (refine id ?_; simp only [gxD]; omega)) only [↓gxPre, gxPost, ↓reduceIte, Nat.reduceEqDiff, reduceCtorEq, Nat.reduceAdd]
  have e24 := (e3.trans eK).trans e4
  have hFa4 := hFa.ext e24
  have hFb4 := hFb.ext e24
  obtain ⟨M, hM⟩ : ∃ M, M = G4.new ⟨true, 24, [.slice (some ⟨oa, 0, none⟩) n n, .slice (some ⟨ob, 0, none⟩) n n]⟩ := ⟨_, rfl⟩
  rw [← hM]
  have eM : Ext G4 M := by rw [hM]; exact .new _ _
  have hMb : M.blk G4.n = some ⟨true, 24, [.slice (some ⟨oa, 0, none⟩) n n, .slice (some ⟨ob, 0, none⟩) n n]⟩ := by rw [hM]; exact new_self _ _
  have hMn : M.n = G4.n + 1 := by rw [hM]; rfl
  clear hM
  refine callR_of (i_LinkMaxima_law (xs0 := [a, b]) (a1 := 2) ⟨SS.two hMb (by omega) (hFa4.ext eM) (hFb4.ext eM), by omega, w2⟩ (by omega)) ?_
  rintro _ G5 ⟨e5, lk, rfl, p5, t5⟩
  simp only [r21, hz2, Bool.and_self, selL_t] at p5 t5 ⊢
  have hlk := p5.is
  have olk := hlk.one
  simp (disch := first | assumption | omega | rfl | (refine id ?_; simp only [gxD, ne_eq, reduceCtorEq, not_false_eq_true, Nat.reduceAdd, *]; done) | (refine id ?_; simp only [gxD]; omega)) only [↓gxPre, gxPost, ↓reduceIte, Nat.reduceEqDiff, reduceCtorEq, Nat.reduceAdd]
  have e45 := eM.trans e5
  have hFa5 := hFa4.ext e45
  have hFb5 := hFb4.ext e45
  obtain ⟨N, hN⟩ : ∃ N, N = G5.new ⟨true, 24, [.slice (some ⟨oa, 0, none⟩) n n, .slice (some ⟨ob, 0, none⟩) n n]⟩ := ⟨_, rfl⟩
  rw [← hN]
  have eN : Ext G5 N := by rw [hN]; exact .new _ _
  have hNb : N.blk G5.n = some ⟨true, 24, [.slice (some ⟨oa, 0, none⟩) n n, .slice (some ⟨ob, 0, none⟩) n n]⟩ := by rw [hN]; exact new_self _ _
  have hNn : N.n = G5.n + 1 := by rw [hN]; rfl
  clear hN
  refine callR_of (s_LinkMaxima_law (xs0 := [a, b]) (a1 := 2) ⟨SS.two hNb (by omega) (hFa5.ext eN) (hFb5.ext eN), by omega, w2⟩ (by omega)) ?_
  rintro _ G6 ⟨e6, wa, rfl, p6, _⟩
  simp only [r21, hz2, Bool.and_self, selL_t] at p6 ⊢
  have hwa := p6.is
  have owa := hwa.one
  have e36 := ((eK.trans e4).trans e45).trans (eN.trans e6)
  have e46 := e45.trans (eN.trans e6)
  have hmx6 := hmx.ext e36
  have hsm6 := hsm.ext e46
  have hlk6 := hlk.ext (eN.trans e6)
  have hFa6 := hFa5.ext (eN.trans e6)
  have hml : (maxL a).length ≤ 20 := Nat.le_trans (maximaL_len _ _) (by omega)
  simp (disch := first | assumption | omega | rfl | (refine id ?_; simp only [gxD, ne_eq, reduceCtorEq, not_false_eq_true, Nat.reduceAdd, *]; done) | (refine id ?_; simp only [gxD]; omega)) only [↓gxPre, gxPost, ↓reduceIte, Nat.reduceEqDiff, reduceCtorEq, Nat.reduceAdd]
  refine callR_pure (w_b10Ints_eq hsm6 hmx6 (by omega)) (by first | exact .inl rfl | (simp (disch := first | assumption | omega | rfl | (refine id ?_; simp only [gxD, ne_eq, reduceCtorEq, not_false_eq_true, Nat.reduceAdd, *]; done) | (refine id ?_; simp only [gxD]; omega)) only [↓gxPre, gxPost, ↓reduceIte, Nat.reduceEqDiff, reduceCtorEq, Nat.reduceAdd]; done)) ?_
  simp (disch := first | assumption | omega | rfl | (refine id ?_; simp only [gxD, ne_eq, reduceCtorEq, not_false_eq_true, Nat.reduceAdd, *]; done) | (refine id ?_; simp only [gxD]; omega)) only [↓gxPre, gxPost, ↓reduceIte, Nat.reduceEqDiff, reduceCtorEq, Nat.reduceAdd]
  refine callR_pure (w_b10Ints_eq hlk6 hwa t5) (by first | exact .inl rfl | (simp (disch := first | assumption | omega | rfl | (refine id ?_; simp only [gxD, ne_eq, reduceCtorEq, not_false_eq_true, Nat.reduceAdd, *]; done) | (refine id ?_; simp only [gxD]; omega)) only [↓gxPre, gxPost, ↓reduceIte, Nat.reduceEqDiff, reduceCtorEq, Nat.reduceAdd]; done)) ?_
  simp (disch := first | assumption | omega | rfl | (refine id ?_; simp only [gxD, ne_eq, reduceCtorEq, not_false_eq_true, Nat.reduceAdd, *]; done) | (refine id ?_; simp only [gxD]; omega)) only [↓gxPre, gxPost, ↓reduceIte, Nat.reduceEqDiff, reduceCtorEq, Nat.reduceAdd, eMks_i]
  have lmx := hmx6.len
  simp (disch := first | assumption | omega | rfl | (refine id ?_; simp only [gxD, ne_eq, reduceCtorEq, not_false_eq_true, Nat.reduceAdd, *]; done) | (refine id ?_; simp only [gxD]; omega)) only [↓gxPre, gxPost, ↓reduceIte, Nat.reduceEqDiff, reduceCtorEq, Nat.reduceAdd, lmx]
  refine loop_forH (maxL a).length (fun k => [v0, v1, .int .i64 n, .slice (some ⟨oa, 0, none⟩) n n, mx, .slice (some ⟨G6.n, 0, none⟩) n n, .int .i64 (maxL a).length, .int .i64 k])
    (fun k J => G6.n + 1 ≤ J.n ∧ Ext G6 J ∧ J.blk G6.n = some ⟨true, 4, (isK (maxL a) n k).map bv⟩) rfl ⟨by simp only [new_n]; omega, .new _ _, by rw [new_self, isK_zero]⟩ ?_ ?_
  rotate_left
  · rintro k J hk ⟨j1, j2, j3⟩
    obtain ⟨⟨m, m1, m2, m3⟩, m4⟩ := max_facts a hk
    have hmxJ := hmx6.ext j2
    have hset := isK_set (n := n) hk m1 (by omega)
    have hlen : ((isK (maxL a) n k).map bv).length = n := by simp [isK]
    have hlt : ¬ ((m : Int) < 0) := by omega
    have hge : ¬ ((n : Int) ≤ (m : Int)) := by omega
    by_cases hk0 : k = 0
    · subst hk0
      simp (disch := first | assumption | omega | rfl | (refine id ?_; simp only [gxD, ne_eq, reduceCtorEq, not_false_eq_true, Nat.reduceAdd, *]; done) | (refine id ?_; simp only [gxD]; omega)) only [↓gxPre, gxPost, ↓reduceIte, Nat.reduceEqDiff, reduceCtorEq, Nat.reduceAdd, hmxJ.ia, hmxJ.ld, m1, hlt, hge, j3, hlen, hset]
      exact ⟨by simp, j1, j2.put (Nat.le_refl _) _⟩
    · obtain ⟨k', rfl⟩ : ∃ k', k = k' + 1 := ⟨k - 1, by omega⟩
      have m5 := m4 (by omega)
      rw [Nat.add_sub_cancel, m1] at m5
      have hpos : (0 : Int) < ((k' + 1 : Nat) : Int) := by omega
      have hk1 : ((k' + 1 : Nat) : Int) - 1 = (k' : Int) := by omega
      have hle : ¬ ((m : Int) ≤ (maxL a).getD k' 0) := by omega
      simp (disch := first | assumption | omega | rfl | (refine id ?_; simp only [gxD, ne_eq, reduceCtorEq, not_false_eq_true, Nat.reduceAdd, *]; done) | (refine id ?_; simp only [gxD]; omega)) only [↓gxPre, gxPost, ↓reduceIte, Nat.reduceEqDiff, reduceCtorEq, Nat.reduceAdd, hmxJ.ia, hmxJ.ld, m1, hlt, hge, hpos, hk1, hle, j3, hlen, hset]
      exact ⟨by simp, j1, j2.put (Nat.le_refl _) _⟩
  rintro J ⟨j1, j2, j3⟩
  have hFaJ := hFa6.ext j2
  have lFa := hFaJ.len
  rw [la] at lFa
  have his : BS J (.slice (some ⟨G6.n, 0, none⟩) n n) (isK (maxL a) n (maxL a).length) := FS0.own j3 (by omega) (by simp [isK])
  have lis := isK_length (maxL a) n (maxL a).length
  have onis := his.one
  simp (disch := first | assumption | omega | rfl | (refine id ?_; simp only [gxD, ne_eq, reduceCtorEq, not_false_eq_true, Nat.reduceAdd, *]; done) | (refine id ?_; simp only [gxD]; omega)) only [↓gxPre, gxPost, ↓reduceIte, Nat.reduceEqDiff, reduceCtorEq, Nat.reduceAdd, Int.lt_irrefl, lFa]
  refine loop_forH n (fun i => [v0, v1, .slice (some ⟨oa, 0, none⟩) n n, .slice (some ⟨G6.n, 0, none⟩) n n, .int .i64 n, .int .i64 i]) (fun i J' => J = J') rfl rfl ?_ ?_
  rotate_left
  · rintro i _ hi rfl
    have fx : ∀ j, j < n → FinW .f32 (a.getD j 0) := fun j hj => (hQa j (by omega)).ok.1
    have hg0 : gapW (f64 (a.getD i 0)) 0 = gap0 (a.getD i 0) := rfl
    have q1 := gap_gtr0 (fx i hi)
    have hat : (isK (maxL a) n (maxL a).length).getD i false = maxAt a i := by
      have := isK_all a (i := i) (by omega)
      rw [la] at this
      exact this
    simp (disch := first | assumption | omega | rfl | (refine id ?_; simp only [gxD, ne_eq, reduceCtorEq, not_false_eq_true, Nat.reduceAdd, *]; done) | (refine id ?_; simp only [gxD]; omega)) only [↓gxPre, gxPost, ↓reduceIte, Nat.reduceEqDiff, reduceCtorEq, Nat.reduceAdd, hFaJ.ia, hFaJ.ld, la]
    refine callR_pure w_b10Gap_ok (.inl rfl) ?_
    rw [hg0]
    have hm : maxAt a i = (fcB .gtr .f32 (sizeF (a.getD i 0)) 0 && (decide (i = 0) || fcB .gtr .f32 (sizeF (a.getD i 0)) (sizeF (a.getD (i - 1) 0))) && (decide (i + 1 = n) || fcB .geq .f32 (sizeF (a.getD i 0)) (sizeF (a.getD (i + 1) 0)))) := by
      rw [← la]; rfl
    rw [← q1] at hm
    cases c1 : fcB .gtr .f64 (gap0 (a.getD i 0)) 0
    · rw [c1] at hm
      simp only [Bool.false_and] at hm
      simp (disch := first | assumption | omega | rfl | (refine id ?_; simp only [gxD, ne_eq, reduceCtorEq, not_false_eq_true, Nat.reduceAdd, *]; done) | (refine id ?_; simp only [gxD]; omega)) only [↓gxPre, gxPost, ↓reduceIte, Nat.reduceEqDiff, reduceCtorEq, Nat.reduceAdd, c1, his.ia, his.ld, lis, hat, hm]
      simp
    rw [c1] at hm
    by_cases i0 : i = 0
    · subst i0
      simp only [decide_true, Bool.true_or, Bool.true_and] at hm
      have i4 : ((0 : Nat) : Int) + 1 = ((1 : Nat) : Int) := rfl
      by_cases i1 : 0 + 1 = n
      · rw [decide_eq_true i1, Bool.true_or] at hm
        have i1' : ((((1 : Nat) : Int)) = (n : Int)) = True := eq_true (by omega)
        simp (disch := first | assumption | omega | rfl | (refine id ?_; simp only [gxD, ne_eq, reduceCtorEq, not_false_eq_true, Nat.reduceAdd, *]; done) | (refine id ?_; simp only [gxD]; omega)) only [↓gxPre, gxPost, ↓reduceIte, Nat.reduceEqDiff, reduceCtorEq, Nat.reduceAdd, c1, hFaJ.ia, hFaJ.ld, la, lFa, i4, i1', his.ia, his.ld, lis, hat, hm]
        try simp
      · rw [decide_eq_false i1, Bool.false_or, ← gap_geq2 (fx _ hi) (fx _ (by omega))] at hm
        have i1' : ((((1 : Nat) : Int)) = (n : Int)) = False := eq_false (by omega)
        simp (disch := first | assumption | omega | rfl | (refine id ?_; simp only [gxD, ne_eq, reduceCtorEq, not_false_eq_true, Nat.reduceAdd, *]; done) | (refine id ?_; simp only [gxD]; omega)) only [↓gxPre, gxPost, ↓reduceIte, Nat.reduceEqDiff, reduceCtorEq, Nat.reduceAdd, c1, hFaJ.ia, hFaJ.ld, la, lFa, i4, i1', Int.toNat_natCast]
        refine callR_pure w_b10Gap_ok (.inl rfl) ?_
        have hg1 : gapW (f64 (a.getD 1 0)) 0 = gap0 (a.getD (0 + 1) 0) := rfl
        rw [hg1]
        cases c3 : fcB .geq .f64 (gap0 (a.getD 0 0)) (gap0 (a.getD (0 + 1) 0)) <;> rw [c3] at hm <;> simp (disch := first | assumption | omega | rfl | (refine id ?_; simp only [gxD, ne_eq, reduceCtorEq, not_false_eq_true, Nat.reduceAdd, *]; done) | (refine id ?_; simp only [gxD]; omega)) only [↓gxPre, gxPost, ↓reduceIte, Nat.reduceEqDiff, reduceCtorEq, Nat.reduceAdd, c3, his.ia, his.ld, lis, hat, hm] <;> simp
    · obtain ⟨i', rfl⟩ : ∃ i', i = i' + 1 := ⟨i - 1, by omega⟩
      rw [decide_eq_false i0, Bool.false_or, Nat.add_sub_cancel, ← gap_gtr2 (fx _ hi) (fx _ (by omega))] at hm
      have i2 : ((i' + 1 : Nat) : Int) - 1 = (i' : Int) := by omega
      have i3 : ((((i' + 1 : Nat) : Int)) = 0) = False := eq_false (by omega)
      simp (disch := first | assumption | omega | rfl | (refine id ?_; simp only [gxD, ne_eq, reduceCtorEq, not_false_eq_true, Nat.reduceAdd, *]; done) | (refine id ?_; simp only [gxD]; omega)) only [↓gxPre, gxPost, ↓reduceIte, Nat.reduceEqDiff, reduceCtorEq, Nat.reduceAdd, c1, hFaJ.ia, hFaJ.ld, la, lFa, i2, i3]
      refine callR_pure w_b10Gap_ok (.inl rfl) ?_
      have hg2 : gapW (f64 (a.getD i' 0)) 0 = gap0 (a.getD i' 0) := rfl
      rw [hg2]
      cases c2 : fcB .gtr .f64 (gap0 (a.getD (i' + 1) 0)) (gap0 (a.getD i' 0))
      · rw [c2] at hm
        simp only [Bool.false_and, Bool.and_false] at hm
        simp (disch := first | assumption | omega | rfl | (refine id ?_; simp only [gxD, ne_eq, reduceCtorEq, not_false_eq_true, Nat.reduceAdd, *]; done) | (refine id ?_; simp only [gxD]; omega)) only [↓gxPre, gxPost, ↓reduceIte, Nat.reduceEqDiff, reduceCtorEq, Nat.reduceAdd, c2, his.ia, his.ld, lis, hat, hm]
        simp
      rw [c2] at hm
      simp only [Bool.true_and] at hm
      have i4 : ((i' + 1 : Nat) : Int) + 1 = ((i' + 1 + 1 : Nat) : Int) := rfl
      by_cases i1 : i' + 1 + 1 = n
      · rw [decide_eq_true i1, Bool.true_or] at hm
        have i1' : ((((i' + 1 + 1 : Nat) : Int)) = (n : Int)) = True := eq_true (by omega)
        simp (disch := first | assumption | omega | rfl | (refine id ?_; simp only [gxD, ne_eq, reduceCtorEq, not_false_eq_true, Nat.reduceAdd, *]; done) | (refine id ?_; simp only [gxD]; omega)) only [↓gxPre, gxPost, ↓reduceIte, Nat.reduceEqDiff, reduceCtorEq, Nat.reduceAdd, c2, hFaJ.ia, hFaJ.ld, la, lFa, i4, i1', his.ia, his.ld, lis, hat, hm]
        try simp
      · rw [decide_eq_false i1, Bool.false_or, ← gap_geq2 (fx _ hi) (fx _ (by omega))] at hm
        have i1' : ((((i' + 1 + 1 : Nat) : Int)) = (n : Int)) = False := eq_false (by omega)
        simp (disch := first | assumption | omega | rfl | (refine id ?_; simp only [gxD, ne_eq, reduceCtorEq, not_false_eq_true, Nat.reduceAdd, *]; done) | (refine id ?_; simp only [gxD]; omega)) only [↓gxPre, gxPost, ↓reduceIte, Nat.reduceEqDiff, reduceCtorEq, Nat.reduceAdd, c2, hFaJ.ia, hFaJ.ld, la, lFa, i4, i1', Int.toNat_natCast]
        refine callR_pure w_b10Gap_ok (.inl rfl) ?_
        have hg3 : gapW (f64 (a.getD (i' + 1 + 1) 0)) 0 = gap0 (a.getD (i' + 1 + 1) 0) := rfl
        rw [hg3]
        cases c3 : fcB .geq .f64 (gap0 (a.getD (i' + 1) 0)) (gap0 (a.getD (i' + 1 + 1) 0)) <;> rw [c3] at hm <;> simp (disch := first | assumption | omega | rfl | (refine id ?_; simp only [gxD, ne_eq, reduceCtorEq, not_false_eq_true, Nat.reduceAdd, *]; done) | (refine id ?_; simp only [gxD]; omega)) only [↓gxPre, gxPost, ↓reduceIte, Nat.reduceEqDiff, reduceCtorEq, Nat.reduceAdd, c3, his.ia, his.ld, lis, hat, hm] <;> simp
  rintro _ rfl
  have e0J : Ext H J := ((((((e1.trans e2).trans e24).trans e45).trans (eN.trans e6)).trans j2))
  simp (disch := first | assumption | omega | rfl | (refine id ?_; simp only [gxD, ne_eq, reduceCtorEq, not_false_eq_true, Nat.reduceAdd, *]; done) | (refine id ?_; simp only [gxD]; omega)) only [↓gxPre, gxPost, ↓reduceIte, Nat.reduceEqDiff, reduceCtorEq, Nat.reduceAdd, Int.lt_irrefl]
  refine callR_of (s_B10Signal_ok (n := 16) (A1.ext e0J) (by omega)) ?_
  rintro _ Q ⟨eQ, L, oL, L1, L2, lL, hQL, rfl, hbL⟩
  have hL0 : FS Q (.slice (some ⟨oL, 0, none⟩) 16 16) L := FS.own hbL L2 lL
  have onL := hL0.one
  have lL0 := hL0.len
  rw [lL] at lL0
  simp (disch := first | assumption | omega | rfl | (refine id ?_; simp only [gxD, ne_eq, reduceCtorEq, not_false_eq_true, Nat.reduceAdd, *]; done) | (refine id ?_; simp only [gxD]; omega)) only [↓gxPre, gxPost, ↓reduceIte, Nat.reduceEqDiff, reduceCtorEq, Nat.reduceAdd, lL0]
  refine loop_forH 16 (fun i => [v0, .slice (some ⟨oL, 0, none⟩) 16 16, .slice (some ⟨Q.n, 0, none⟩) i i, .int .i64 ((16 : Nat) : Int), .int .i64 i])
    (fun i J => Q.n + 1 ≤ J.n ∧ Ext Q J ∧ J.blk Q.n = some ⟨true, t_float32, (dblL L i).map fv⟩) rfl ⟨by simp only [new_n]; omega, .new _ _, by simp (disch := first | assumption | omega | rfl | (refine id ?_; simp only [gxD, ne_eq, reduceCtorEq, not_false_eq_true, Nat.reduceAdd, *]; done) | (refine id ?_; simp only [gxD]; omega)) only [↓gxPre, gxPost, ↓reduceIte, Nat.reduceEqDiff, reduceCtorEq, Nat.reduceAdd]; rfl⟩ ?_ ?_
  rotate_left
  · rintro i G8 hi ⟨w1, w2, w3⟩
    have hL8 := hL0.ext w2
    have hlr : ((dblL L i).map fv).length = i := by simp [dblL]
    have hsn := dblL_succ L i
    obtain ⟨f1, f2, f3, f4⟩ := push_at w2 w3 (Nat.le_refl _) (by omega) hsn
    simp (disch := first | assumption | omega | rfl | (refine id ?_; simp only [gxD, ne_eq, reduceCtorEq, not_false_eq_true, Nat.reduceAdd, *]; done) | (refine id ?_; simp only [gxD]; omega)) only [↓gxPre, gxPost, ↓reduceIte, Nat.reduceEqDiff, reduceCtorEq, Nat.reduceAdd, hL8.ia, hL8.ld, lL, w3, rd1_at]
    exact ⟨by simp, by omega, f1, by rw [hsn]⟩
  rintro R ⟨w1, w2', w3⟩
  have hLR := hL0.ext w2'
  have hDR : FS R (.slice (some ⟨Q.n, 0, none⟩) 16 16) (dblL L 16) := FS.own w3 (by omega) (by simp [dblL])
  have onD := hDR.one
  have hdl := dblL_dl hQL
  rw [lL] at hdl
  have e0R := (e0J.trans eQ).trans w2'
  simp (disch := first | assumption | omega | rfl | (refine id ?_; simp only [gxD, ne_eq, reduceCtorEq, not_false_eq_true, Nat.reduceAdd, *]; done) | (refine id ?_; simp only [gxD]; omega)) only [↓gxPre, gxPost, ↓reduceIte, Nat.reduceEqDiff, reduceCtorEq, Nat.reduceAdd, Int.lt_irrefl]
  refine callR_of (s_B10Pair_ok (A0.ext e0R)) ?_
  rintro _ S ⟨eS, ps, h, hps, h1, h2, rfl, hbp⟩
  obtain ⟨q, rfl⟩ : ∃ q, ps = psQ q := by
    rcases hps with rfl | rfl
    · exact ⟨true, rfl⟩
    · exact ⟨false, rfl⟩
  have hp4 := psQ_len q
  have hpw := psQ_w q
  simp (disch := first | assumption | omega | rfl | (refine id ?_; simp only [gxD, ne_eq, reduceCtorEq, not_false_eq_true, Nat.reduceAdd, *]; done) | (refine id ?_; simp only [gxD]; omega)) only [↓gxPre, gxPost, ↓reduceIte, Nat.reduceEqDiff, reduceCtorEq, Nat.reduceAdd]
  refine callR_new ?_
  intro S2 eS2 hSb hSn
  have hps : FS S2 (.slice (some ⟨h, 0, none⟩) (psQ q).length (psQ q).length) (psQ q) := FS.own ((eS2.blk h h2).trans hbp) (by omega) rfl
  have AP : AF S2 _ (psQ q) := ⟨hps, by omega, hpw⟩
  have eR2 := eS.trans eS2
  have AL : AF S2 _ L := ⟨hLR.ext eR2, by omega, hQL.w32⟩
  have AD : AF S2 _ (dblL L 16) := ⟨hDR.ext eR2, by rw [dblL_length]; omega, dblL_w L 16⟩
  have onP := hps.one
  have h33 : (3 : Int).toNat = 3 := rfl
  refine callR_of (s_SplitLevels_law AL AP (by omega)) ?_
  rintro _ T ⟨eT, xc, xd, rfl, px, qx, rx⟩
  simp only [h33] at px qx rx
  have oxc := px.co.one
  have oxd := px.de.one
  have hSb2 := (eT.blk S.n (by omega)).trans hSb
  have nT := eT.n
  simp (disch := first | assumption | omega | rfl | (refine id ?_; simp only [gxD, ne_eq, reduceCtorEq, not_false_eq_true, Nat.reduceAdd, *]; done) | (refine id ?_; simp only [gxD]; omega)) only [↓gxPre, gxPost, ↓reduceIte, Nat.reduceEqDiff, reduceCtorEq, Nat.reduceAdd, hSb2]
  refine callR_new ?_
  intro U eU hUb hUn
  have eTU := eT.trans eU
  refine callR_of (s_SplitLevels_law (AD.ext eTU) (AP.ext eTU) (by omega)) ?_
  rintro _ V ⟨eV, zc, zd, rfl, pz, qz, rz⟩
  simp only [h33] at pz qz rz
  have ozc := pz.co.one
  have ozd := pz.de.one
  have hUb2 := (eV.blk T.n (by omega)).trans hUb
  have nV := eV.n
  cases h5 : splitLevOk L (psQ q) 3
  · simp (disch := first | assumption | omega | rfl | (refine id ?_; simp only [gxD, ne_eq, reduceCtorEq, not_false_eq_true, Nat.reduceAdd, *]; done) | (refine id ?_; simp only [gxD]; omega)) only [↓gxPre, gxPost, ↓reduceIte, Nat.reduceEqDiff, reduceCtorEq, Nat.reduceAdd]
  cases h6 : splitLevOk (dblL L 16) (psQ q) 3
  · simp (disch := first | assumption | omega | rfl | (refine id ?_; simp only [gxD, ne_eq, reduceCtorEq, not_false_eq_true, Nat.reduceAdd, *]; done) | (refine id ?_; simp only [gxD]; omega)) only [↓gxPre, gxPost, ↓reduceIte, Nat.reduceEqDiff, reduceCtorEq, Nat.reduceAdd]
  simp (disch := first | assumption | omega | rfl | (refine id ?_; simp only [gxD, ne_eq, reduceCtorEq, not_false_eq_true, Nat.reduceAdd, *]; done) | (refine id ?_; simp only [gxD]; omega)) only [↓gxPre, gxPost, ↓reduceIte, Nat.reduceEqDiff, reduceCtorEq, Nat.reduceAdd, hUb2]
  refine callR_new ?_
  intro W eW hWb hWn
  have hUb3 := (eW.blk T.n (by omega)).trans hUb2
  rw [h5] at px qx rx
  rw [h6] at pz qz rz
  simp only [selL_t] at px qx rx pz qz rz
  have hdw : ∀ {M : List Nat}, W32S (detsS M (psQ q) 3) := fun {M} j => by
    by_cases hj : j < 3
    · rw [dets_at hj]; exact tapL_w _ _
    · have : (detsS M (psQ q) 3).getD j [] = [] := by simp [List.getD_eq_getElem?_getD, List.getElem?_eq_none (l := detsS M (psQ q) 3) (i := j) (by rw [detsS_length]; omega)]
      rw [this]; intro i; simp
  have eTW := (eU.trans eV).trans eW
  have XC : AF W xc (nowS L (psQ q) 3) := ⟨px.fs.ext eTW, qx, nowS_w hQL.w32 3⟩
  have XD : AS W xd (detsS L (psQ q) 3) := ⟨px.ss.ext eTW, rx, hdw⟩
  have ZC : AF W zc (nowS (dblL L 16) (psQ q) 3) := ⟨pz.fs.ext eW, qz, nowS_w (dblL_w L 16) 3⟩
  have ZD : AS W zd (detsS (dblL L 16) (psQ q) 3) := ⟨pz.ss.ext eW, rz, hdw⟩
  refine callR_of (s_RoughnessOf_law XC XD) ?_
  rintro _ X1 ⟨rfl, eX1⟩
  have f1 := (eX1.blk T.n (by omega)).trans hUb3
  have g1 := (eX1.blk V.n (by omega)).trans hWb
  simp (disch := first | assumption | omega | rfl | (refine id ?_; simp only [gxD, ne_eq, reduceCtorEq, not_false_eq_true, Nat.reduceAdd, *]; done) | (refine id ?_; simp only [gxD]; omega)) only [↓gxPre, gxPost, ↓reduceIte, Nat.reduceEqDiff, reduceCtorEq, Nat.reduceAdd, f1, g1]
  refine callR_of (s_RoughnessOf_law (ZC.ext eX1) ⟨ZD.rd.ext eX1, ZD.le, ZD.w⟩) ?_
  rintro _ X2 ⟨rfl, eX2⟩
  have eW2 := eX1.trans eX2
  have nW2 := eW2.n
  have f2 := (eW2.blk T.n (by omega)).trans hUb3
  have g2 := (eW2.blk V.n (by omega)).trans hWb
  simp (disch := first | assumption | omega | rfl | (refine id ?_; simp only [gxD, ne_eq, reduceCtorEq, not_false_eq_true, Nat.reduceAdd, *]; done) | (refine id ?_; simp only [gxD]; omega)) only [↓gxPre, gxPost, ↓reduceIte, Nat.reduceEqDiff, reduceCtorEq, Nat.reduceAdd, f2, g2]
  refine callR_of (i_RoughnessOf_law (XC.ext eW2) ⟨XD.rd.ext eW2, XD.le, XD.w⟩) ?_
  rintro _ X3 ⟨rfl, eX3⟩
  have eW3 := eW2.trans eX3
  have nW3 := eW3.n
  have f3 := (eW3.blk T.n (by omega)).trans hUb3
  have g3 := (eW3.blk V.n (by omega)).trans hWb
  simp (disch := first | assumption | omega | rfl | (refine id ?_; simp only [gxD, ne_eq, reduceCtorEq, not_false_eq_true, Nat.reduceAdd, *]; done) | (refine id ?_; simp only [gxD]; omega)) only [↓gxPre, gxPost, ↓reduceIte, Nat.reduceEqDiff, reduceCtorEq, Nat.reduceAdd, f3, g3]
  refine callR_of (i_RoughnessOf_law (ZC.ext eW3) ⟨ZD.rd.ext eW3, ZD.le, ZD.w⟩) ?_
  rintro _ X4 ⟨rfl, eX4⟩
  have key := rough_law q hQL lL hdl
  generalize ruN (nowS L (psQ q) 3) (detsS L (psQ q) 3) = rx1 at *
  generalize ruN (nowS (dblL L 16) (psQ q) 3) (detsS (dblL L 16) (psQ q) 3) = ry1 at *
  cases hv1' : ruV (nowS L (psQ q) 3) (detsS L (psQ q) 3)
  · cases hv2' : ruV (nowS (dblL L 16) (psQ q) 3) (detsS (dblL L 16) (psQ q) 3) <;> simp (disch := first | assumption | omega | rfl | (refine id ?_; simp only [gxD, ne_eq, reduceCtorEq, not_false_eq_true, Nat.reduceAdd, *]; done) | (refine id ?_; simp only [gxD]; omega)) only [↓gxPre, gxPost, ↓reduceIte, Nat.reduceEqDiff, reduceCtorEq, Nat.reduceAdd]
  cases hv2' : ruV (nowS (dblL L 16) (psQ q) 3) (detsS (dblL L 16) (psQ q) 3)
  · simp (disch := first | assumption | omega | rfl | (refine id ?_; simp only [gxD, ne_eq, reduceCtorEq, not_false_eq_true, Nat.reduceAdd, *]; done) | (refine id ?_; simp only [gxD]; omega)) only [↓gxPre, gxPost, ↓reduceIte, Nat.reduceEqDiff, reduceCtorEq, Nat.reduceAdd]
  have kk := key hv1' hv2'
  simp (disch := first | assumption | omega | rfl | (refine id ?_; simp only [gxD, ne_eq, reduceCtorEq, not_false_eq_true, Nat.reduceAdd, *]; done) | (refine id ?_; simp only [gxD]; omega)) only [↓gxPre, gxPost, ↓reduceIte, Nat.reduceEqDiff, reduceCtorEq, Nat.reduceAdd]
  refine callR_pure w_b10Gap_ok (by first | exact .inl rfl | (simp (disch := first | assumption | omega | rfl | (refine id ?_; simp only [gxD, ne_eq, reduceCtorEq, not_false_eq_true, Nat.reduceAdd, *]; done) | (refine id ?_; simp only [gxD]; omega)) only [↓gxPre, gxPost, ↓reduceIte, Nat.reduceEqDiff, reduceCtorEq, Nat.reduceAdd]; done)) ?_
  simp (disch := first | assumption | omega | rfl | (refine id ?_; simp only [gxD, ne_eq, reduceCtorEq, not_false_eq_true, Nat.reduceAdd, *]; done) | (refine id ?_; simp only [gxD]; omega)) only [↓gxPre, gxPost, ↓reduceIte, Nat.reduceEqDiff, reduceCtorEq, Nat.reduceAdd]
  refine callR_pure w_b10Gap_ok (by first | exact .inl rfl | (simp (disch := first | assumption | omega | rfl | (refine id ?_; simp only [gxD, ne_eq, reduceCtorEq, not_false_eq_true, Nat.reduceAdd, *]; done) | (refine id ?_; simp only [gxD]; omega)) only [↓gxPre, gxPost, ↓reduceIte, Nat.reduceEqDiff, reduceCtorEq, Nat.reduceAdd]; done)) ?_
  simp (disch := first | assumption | omega | rfl | (refine id ?_; simp only [gxD, ne_eq, reduceCtorEq, not_false_eq_true, Nat.reduceAdd, *]; done) | (refine id ?_; simp only [gxD]; omega)) only [↓gxPre, gxPost, ↓reduceIte, Nat.reduceEqDiff, reduceCtorEq, Nat.reduceAdd, kk]
end Go.Proofs.Ytddekdgggpifmaa
