/- What the functions of the program do: contracts that are proved. -/
import Derived.Test.YtkojmlpaamdhoacSoftPictureXDToXU
namespace Go.Proofs.Ytkojmlpaamdhoac
open Go.Gx
set_option maxRecDepth 100000
set_option linter.unusedSimpArgs false
set_option linter.unusedVariables false

theorem soft_all {y : Nat} {a c l : Int} {xs : List Nat} (hy : leastF y = true) (h : xs.all finF = true) : (fineL (softV y) a c l xs).all finF = true := by
  rw [List.all_eq_true]
  intro x hx
  obtain ⟨j, hj, rfl⟩ := List.mem_map.1 hx
  have hj' := (List.all_eq_true.1 h) (xs.getD j 0) (by
    have := List.mem_range.1 hj
    rw [List.getD_eq_getElem?_getD, List.getElem?_eq_getElem this]; exact List.getElem_mem this)
  unfold fineF
  split
  · exact hj'
  · exact soft_fin hj' hy
theorem soft_ok {y : Nat} {a c l : Int} {xs : List Nat} (hy : leastF y = true) : fineOk (softV y) a c l xs = (validPicF a c xs && within l 1 4) := by
  unfold fineOk
  cases h1 : validPicF a c xs
  · simp
  · have h2 : validPicF a c (fineL (softV y) a c l xs) = true := by
      obtain ⟨m, n, rfl, rfl, q1, q2, q3, q4, q5, q6⟩ := valid_sides h1
      exact valid_mk q1 q2 q3 q4 (by rw [fineL, List.length_map, List.length_range, q5]) (soft_all hy q6)
    rw [h2]
    simp
theorem i_softer_ok {H : Heap} {x y : Nat} : ACalls Try.prog n_i_softer [.float .f32 x, .float .f32 y] H fun r H' => r = .float .f32 (softV y x) ∧ H' = H := by
  refine k_i_softer.run rfl ?_
  unfold c_i_softer
  cases h1 : fcB .gtr .f32 x y
  · cases h2 : fcB .lss .f32 x (fneg .f32 y)
    · simp (disch := first | assumption | omega | rfl | (refine id ?_; simp only [gxD, ne_eq, reduceCtorEq, not_false_eq_true, Nat.reduceAdd, *]; done) | (refine id ?_; simp only [gxD]; omega)) only [↓gxPre, gxPost, ↓reduceIte, Nat.reduceEqDiff, reduceCtorEq, Nat.reduceAdd, h1, h2]
      simp [softV, h1, h2]
    · simp (disch := first | assumption | omega | rfl | (refine id ?_; simp only [gxD, ne_eq, reduceCtorEq, not_false_eq_true, Nat.reduceAdd, *]; done) | (refine id ?_; simp only [gxD]; omega)) only [↓gxPre, gxPost, ↓reduceIte, Nat.reduceEqDiff, reduceCtorEq, Nat.reduceAdd, h1, h2]
      simp [softV, h1, h2]
  · simp (disch := first | assumption | omega | rfl | (refine id ?_; simp only [gxD, ne_eq, reduceCtorEq, not_false_eq_true, Nat.reduceAdd, *]; done) | (refine id ?_; simp only [gxD]; omega)) only [↓gxPre, gxPost, ↓reduceIte, Nat.reduceEqDiff, reduceCtorEq, Nat.reduceAdd, h1]
    simp [softV, h1]
theorem i_SoftPicture_1_ok {F : Heap} {p x y : Nat} (hp : F.blk p = some ⟨true, t_float32, [.float .f32 y]⟩) :
    ACalls Try.prog n_i_SoftPicture_1 [.float .f32 x, .pointer (some ⟨p, 0, some 1⟩)] F fun r F' => r = .float .f32 (softV y x) ∧ F' = F := by
  refine k_i_SoftPicture_1.run rfl ?_
  unfold c_i_SoftPicture_1
  simp (disch := first | assumption | omega | rfl | (refine id ?_; simp only [gxD, ne_eq, reduceCtorEq, not_false_eq_true, Nat.reduceAdd, *]; done) | (refine id ?_; simp only [gxD]; omega)) only [↓gxPre, gxPost, ↓reduceIte, Nat.reduceEqDiff, reduceCtorEq, Nat.reduceAdd, hp]
  refine callR_pure i_softer_ok (.inl rfl) ?_
  simp (disch := first | assumption | omega | rfl | (refine id ?_; simp only [gxD, ne_eq, reduceCtorEq, not_false_eq_true, Nat.reduceAdd, *]; done) | (refine id ?_; simp only [gxD]; omega)) only [↓gxPre, gxPost, ↓reduceIte, Nat.reduceEqDiff, reduceCtorEq, Nat.reduceAdd]
theorem i_SoftPicture_law {H : Heap} {a0 c0 a1 : Int} {a2 : Nat} {v0 : Value} {xs0 : List Nat} (A0 : AF H v0 xs0) (b0 : -9223372036854775808 ≤ a0 ∧ a0 ≤ 9223372036854775807) (d0 : -9223372036854775808 ≤ c0 ∧ c0 ≤ 9223372036854775807) (b1 : -9223372036854775808 ≤ a1 ∧ a1 ≤ 9223372036854775807) (b2 : a2 < 2 ^ 32) :
    ACalls Try.prog n_i_SoftPicture [.agg #[.int .i64 a0, .int .i64 c0, v0], .int .i64 a1, .float .f32 a2] H fun r H' => PicR t_float32 H (quietOk a0 c0 xs0 a1 a2) a0 c0 (fineL (softV a2) a0 c0 a1 xs0) r H' := by
  refine k_i_SoftPicture.run rfl ?_
  unfold c_i_SoftPicture
  have o0 := A0.rd.one
  simp (disch := first | assumption | omega | rfl | (refine id ?_; simp only [gxD, ne_eq, reduceCtorEq, not_false_eq_true, Nat.reduceAdd, *]; done) | (refine id ?_; simp only [gxD]; omega)) only [↓gxPre, gxPost, ↓reduceIte, Nat.reduceEqDiff, reduceCtorEq, Nat.reduceAdd]
  have eK : Ext H (((H.new ⟨true, t_Picture, [.int .i64 a0, .int .i64 c0, v0]⟩).new ⟨true, t_float32, [.float .f32 a2]⟩).new ⟨true, t_Picture, [.int .i64 0, .int .i64 0, .slice none 0 0]⟩) := ⟨by first | omega | (simp only [new_n, put_n]; omega) | (simp only [new_n, put_n] at *; omega), fun i hi => by simp (disch := first | assumption | omega | rfl | (refine id ?_; simp only [gxD, ne_eq, reduceCtorEq, not_false_eq_true, Nat.reduceAdd, *]; done) | (refine id ?_; simp only [gxD]; omega)) only [↓gxPre, gxPost, ↓reduceIte, Nat.reduceEqDiff, reduceCtorEq, Nat.reduceAdd, *]⟩
  have g1 : (((H.new ⟨true, t_Picture, [.int .i64 a0, .int .i64 c0, v0]⟩).new ⟨true, t_float32, [.float .f32 a2]⟩).new ⟨true, t_Picture, [.int .i64 0, .int .i64 0, .slice none 0 0]⟩).blk H.n = some ⟨true, t_Picture, [.int .i64 a0, .int .i64 c0, v0]⟩ := by simp (disch := first | assumption | omega | rfl | (refine id ?_; simp only [gxD, ne_eq, reduceCtorEq, not_false_eq_true, Nat.reduceAdd, *]; done) | (refine id ?_; simp only [gxD]; omega)) only [↓gxPre, gxPost, ↓reduceIte, Nat.reduceEqDiff, reduceCtorEq, Nat.reduceAdd]
  have g2 : (((H.new ⟨true, t_Picture, [.int .i64 a0, .int .i64 c0, v0]⟩).new ⟨true, t_float32, [.float .f32 a2]⟩).new ⟨true, t_Picture, [.int .i64 0, .int .i64 0, .slice none 0 0]⟩).blk (H.n + 1) = some ⟨true, t_float32, [.float .f32 a2]⟩ := by simp (disch := first | assumption | omega | rfl | (refine id ?_; simp only [gxD, ne_eq, reduceCtorEq, not_false_eq_true, Nat.reduceAdd, *]; done) | (refine id ?_; simp only [gxD]; omega)) only [↓gxPre, gxPost, ↓reduceIte, Nat.reduceEqDiff, reduceCtorEq, Nat.reduceAdd]
  have g3 : (((H.new ⟨true, t_Picture, [.int .i64 a0, .int .i64 c0, v0]⟩).new ⟨true, t_float32, [.float .f32 a2]⟩).new ⟨true, t_Picture, [.int .i64 0, .int .i64 0, .slice none 0 0]⟩).blk (H.n + 1 + 1) = some ⟨true, t_Picture, [.int .i64 0, .int .i64 0, .slice none 0 0]⟩ := by simp (disch := first | assumption | omega | rfl | (refine id ?_; simp only [gxD, ne_eq, reduceCtorEq, not_false_eq_true, Nat.reduceAdd, *]; done) | (refine id ?_; simp only [gxD]; omega)) only [↓gxPre, gxPost, ↓reduceIte, Nat.reduceEqDiff, reduceCtorEq, Nat.reduceAdd]
  have nK : (((H.new ⟨true, t_Picture, [.int .i64 a0, .int .i64 c0, v0]⟩).new ⟨true, t_float32, [.float .f32 a2]⟩).new ⟨true, t_Picture, [.int .i64 0, .int .i64 0, .slice none 0 0]⟩).n = H.n + 3 := by simp only [new_n]
  generalize (((H.new ⟨true, t_Picture, [.int .i64 a0, .int .i64 c0, v0]⟩).new ⟨true, t_float32, [.float .f32 a2]⟩).new ⟨true, t_Picture, [.int .i64 0, .int .i64 0, .slice none 0 0]⟩) = K at eK g1 g2 g3 nK ⊢
  refine callR_pure i_isLeast_ok (.inl rfl) ?_
  cases h0 : leastF a2
  · simp (disch := first | assumption | omega | rfl | (refine id ?_; simp only [gxD, ne_eq, reduceCtorEq, not_false_eq_true, Nat.reduceAdd, *]; done) | (refine id ?_; simp only [gxD]; omega)) only [↓gxPre, gxPost, ↓reduceIte, Nat.reduceEqDiff, reduceCtorEq, Nat.reduceAdd, g3]
    exact .no (by simp only [quietOk, h0, Bool.false_and, Bool.true_and, Bool.and_true, Bool.and_false, Bool.or_true, Bool.true_or, Bool.false_or, Bool.or_false, Bool.and_self, Bool.or_self]) (eK.put (by omega) _)
  simp (disch := first | assumption | omega | rfl | (refine id ?_; simp only [gxD, ne_eq, reduceCtorEq, not_false_eq_true, Nat.reduceAdd, *]; done) | (refine id ?_; simp only [gxD]; omega)) only [↓gxPre, gxPost, ↓reduceIte, Nat.reduceEqDiff, reduceCtorEq, Nat.reduceAdd, g1]
  refine callR_of (i_finesBy_ok (H0 := H) (q := H.n) (val := softV a2) (hit := fun _ => false) (J := fun s F => F.blk (H.n + 1) = some ⟨true, t_float32, [.float .f32 a2]⟩) A0.rd A0.le A0.w eK (Nat.le_refl _) (by omega) g2 (fun s F F' h _ hb => (hb _ (by omega)).trans h)
    (fun s F x s0 s1 _ hJ hF => (i_SoftPicture_1_ok hJ).mono ?_)) ?_
  · rintro r F' ⟨rfl, rfl⟩
    exact ⟨rfl, rfl, fun _ _ => rfl, hJ⟩
  rintro _ M ⟨eM, nM, bM, _, u, rfl, ou, lu⟩
  have vu := ou.one
  have g3M := (bM _ (by omega) (by omega)).trans g3
  rw [soft_ok h0] at ou lu ⊢
  have hO : quietOk a0 c0 xs0 a1 a2 = (validPicF a0 c0 xs0 && within a1 1 4) := by simp only [quietOk, h0, Bool.true_and]
  rw [hO]
  simp (disch := first | assumption | omega | rfl | (refine id ?_; simp only [gxD, ne_eq, reduceCtorEq, not_false_eq_true, Nat.reduceAdd, *]; done) | (refine id ?_; simp only [gxD]; omega)) only [↓gxPre, gxPost, ↓reduceIte, Nat.reduceEqDiff, reduceCtorEq, Nat.reduceAdd, g3M]
  refine ⟨eM.put (by omega) _, u, rfl, ((ou.wide (by omega) (by simp only [put_n]; omega)).keep (Nat.le_refl _) fun t ht => hput_other _ _ _ _ fun e => ?_), lu⟩
  have := (ou.hdl ht).1
  omega
theorem s_SoftPicture_law {H : Heap} {a0 c0 a1 : Int} {a2 : Nat} {v0 : Value} {xs0 : List Nat} (A0 : AF H v0 xs0) (b0 : -9223372036854775808 ≤ a0 ∧ a0 ≤ 9223372036854775807) (d0 : -9223372036854775808 ≤ c0 ∧ c0 ≤ 9223372036854775807) (b1 : -9223372036854775808 ≤ a1 ∧ a1 ≤ 9223372036854775807) (b2 : a2 < 2 ^ 32) :
    ACalls Try.prog n_s_SoftPicture [.agg #[.int .i64 a0, .int .i64 c0, v0], .int .i64 a1, .float .f32 a2] H fun r H' => PicR t_float32 H (quietOk a0 c0 xs0 a1 a2) a0 c0 (fineL (softV a2) a0 c0 a1 xs0) r H' := by
  refine k_s_SoftPicture.run rfl ?_
  unfold c_s_SoftPicture
  have o0 := A0.rd.one
  simp (disch := first | assumption | omega | rfl | (refine id ?_; simp only [gxD, ne_eq, reduceCtorEq, not_false_eq_true, Nat.reduceAdd, *]; done) | (refine id ?_; simp only [gxD]; omega)) only [↓gxPre, gxPost, ↓reduceIte, Nat.reduceEqDiff, reduceCtorEq, Nat.reduceAdd]
  have eK : Ext H ((H.new ⟨true, t_Picture, [.int .i64 a0, .int .i64 c0, v0]⟩).new ⟨true, t_Picture, [.int .i64 0, .int .i64 0, .slice none 0 0]⟩) := ⟨by first | omega | (simp only [new_n, put_n]; omega) | (simp only [new_n, put_n] at *; omega), fun i hi => by simp (disch := first | assumption | omega | rfl | (refine id ?_; simp only [gxD, ne_eq, reduceCtorEq, not_false_eq_true, Nat.reduceAdd, *]; done) | (refine id ?_; simp only [gxD]; omega)) only [↓gxPre, gxPost, ↓reduceIte, Nat.reduceEqDiff, reduceCtorEq, Nat.reduceAdd, *]⟩
  have g1 : ((H.new ⟨true, t_Picture, [.int .i64 a0, .int .i64 c0, v0]⟩).new ⟨true, t_Picture, [.int .i64 0, .int .i64 0, .slice none 0 0]⟩).blk H.n = some ⟨true, t_Picture, [.int .i64 a0, .int .i64 c0, v0]⟩ := by simp (disch := first | assumption | omega | rfl | (refine id ?_; simp only [gxD, ne_eq, reduceCtorEq, not_false_eq_true, Nat.reduceAdd, *]; done) | (refine id ?_; simp only [gxD]; omega)) only [↓gxPre, gxPost, ↓reduceIte, Nat.reduceEqDiff, reduceCtorEq, Nat.reduceAdd]
  have g3 : ((H.new ⟨true, t_Picture, [.int .i64 a0, .int .i64 c0, v0]⟩).new ⟨true, t_Picture, [.int .i64 0, .int .i64 0, .slice none 0 0]⟩).blk (H.n + 1) = some ⟨true, t_Picture, [.int .i64 0, .int .i64 0, .slice none 0 0]⟩ := by simp (disch := first | assumption | omega | rfl | (refine id ?_; simp only [gxD, ne_eq, reduceCtorEq, not_false_eq_true, Nat.reduceAdd, *]; done) | (refine id ?_; simp only [gxD]; omega)) only [↓gxPre, gxPost, ↓reduceIte, Nat.reduceEqDiff, reduceCtorEq, Nat.reduceAdd]
  have nK : ((H.new ⟨true, t_Picture, [.int .i64 a0, .int .i64 c0, v0]⟩).new ⟨true, t_Picture, [.int .i64 0, .int .i64 0, .slice none 0 0]⟩).n = H.n + 2 := by simp only [new_n]
  generalize ((H.new ⟨true, t_Picture, [.int .i64 a0, .int .i64 c0, v0]⟩).new ⟨true, t_Picture, [.int .i64 0, .int .i64 0, .slice none 0 0]⟩) = K at eK g1 g3 nK ⊢
  refine callR_pure (s_l04Is_ok g1 (A0.rd.ext eK) A0.le) (.inl rfl) ?_
  cases h1 : validPicF a0 c0 xs0
  · simp (disch := first | assumption | omega | rfl | (refine id ?_; simp only [gxD, ne_eq, reduceCtorEq, not_false_eq_true, Nat.reduceAdd, *]; done) | (refine id ?_; simp only [gxD]; omega)) only [↓gxPre, gxPost, ↓reduceIte, Nat.reduceEqDiff, reduceCtorEq, Nat.reduceAdd, g3]
    exact .no (by simp only [quietOk, h1, Bool.false_and, Bool.true_and, Bool.and_true, Bool.and_false, Bool.or_true, Bool.true_or, Bool.false_or, Bool.or_false, Bool.and_self, Bool.or_self]) (eK.put (by omega) _)
  simp (disch := first | assumption | omega | rfl | (refine id ?_; simp only [gxD, ne_eq, reduceCtorEq, not_false_eq_true, Nat.reduceAdd, *]; done) | (refine id ?_; simp only [gxD]; omega)) only [↓gxPre, gxPost, ↓reduceIte, Nat.reduceEqDiff, reduceCtorEq, Nat.reduceAdd]
  refine callR_pure s_l04Levels_ok (.inl rfl) ?_
  cases h2 : within a1 1 4
  · simp (disch := first | assumption | omega | rfl | (refine id ?_; simp only [gxD, ne_eq, reduceCtorEq, not_false_eq_true, Nat.reduceAdd, *]; done) | (refine id ?_; simp only [gxD]; omega)) only [↓gxPre, gxPost, ↓reduceIte, Nat.reduceEqDiff, reduceCtorEq, Nat.reduceAdd, g3]
    exact .no (by simp only [quietOk, h2, Bool.false_and, Bool.true_and, Bool.and_true, Bool.and_false, Bool.or_true, Bool.true_or, Bool.false_or, Bool.or_false, Bool.and_self, Bool.or_self]) (eK.put (by omega) _)
  simp (disch := first | assumption | omega | rfl | (refine id ?_; simp only [gxD, ne_eq, reduceCtorEq, not_false_eq_true, Nat.reduceAdd, *]; done) | (refine id ?_; simp only [gxD]; omega)) only [↓gxPre, gxPost, ↓reduceIte, Nat.reduceEqDiff, reduceCtorEq, Nat.reduceAdd]
  refine callR_pure s_l02Least_ok (.inl rfl) ?_
  cases h0 : leastF a2
  · simp (disch := first | assumption | omega | rfl | (refine id ?_; simp only [gxD, ne_eq, reduceCtorEq, not_false_eq_true, Nat.reduceAdd, *]; done) | (refine id ?_; simp only [gxD]; omega)) only [↓gxPre, gxPost, ↓reduceIte, Nat.reduceEqDiff, reduceCtorEq, Nat.reduceAdd, g3]
    exact .no (by simp only [quietOk, h0, Bool.false_and, Bool.true_and, Bool.and_true, Bool.and_false, Bool.or_true, Bool.true_or, Bool.false_or, Bool.or_false, Bool.and_self, Bool.or_self]) (eK.put (by omega) _)
  simp (disch := first | assumption | omega | rfl | (refine id ?_; simp only [gxD, ne_eq, reduceCtorEq, not_false_eq_true, Nat.reduceAdd, *]; done) | (refine id ?_; simp only [gxD]; omega)) only [↓gxPre, gxPost, ↓reduceIte, Nat.reduceEqDiff, reduceCtorEq, Nat.reduceAdd]
  refine callR_of (s_l04Own_ok g1 (by omega) (A0.rd.ext eK) A0.le) ?_
  rintro _ G ⟨eG, nG, rfl, hc⟩
  replace g1 := (eG.blk _ (by omega)).trans g1
  replace g3 := (eG.blk _ (by omega)).trans g3
  have e1 := eK.trans eG
  obtain ⟨m, n, rfl, rfl, q1, q2, q3, q4, q5, q6⟩ := valid_sides h1
  have hle := valid_len h1
  have hmn : (m : Int) * n = (xs0.length : Nat) := by rw [q5]; simp
  simp (disch := first | assumption | omega | rfl | (refine id ?_; simp only [gxD, ne_eq, reduceCtorEq, not_false_eq_true, Nat.reduceAdd, *]; done) | (refine id ?_; simp only [gxD]; omega)) only [↓gxPre, gxPost, ↓reduceIte, Nat.reduceEqDiff, reduceCtorEq, Nat.reduceAdd]
  refine loop_forH xs0.length (fun i => [.int .i64 a1, .float .f32 a2, .pointer (some ⟨H.n, 0, some 3⟩), .pointer (some ⟨H.n + 1, 0, some 3⟩), .pointer (some ⟨G.n, 0, some 3⟩), .int .i64 i])
    (fun i F => F.n = G.n + 1 ∧ Ext K F ∧ F.blk G.n = some ⟨true, t_Picture, [.int .i64 m, .int .i64 n, .slice (some ⟨K.n + 1, 0, none⟩) xs0.length xs0.length]⟩ ∧ F.blk (K.n + 1) = some ⟨true, t_float32, (updF (fineF (softV a2) m n a1 xs0) xs0 i).map fv⟩) rfl
    ⟨rfl, eG.trans (.new _ _), new_self _ _, by rw [updF_zero]; exact (new_old _ _ _ (by omega)).trans hc⟩ ?_ ?_
  · rintro F ⟨nF, eF, hb, hcF⟩
    have g1F := (eF.blk _ (by omega)).trans ((eG.blk _ (by omega)).symm.trans g1)
    have g3F := (eF.blk _ (by omega)).trans ((eG.blk _ (by omega)).symm.trans g3)
    rw [updF_all] at hcF
    have hcF' : F.blk (K.n + 1) = some ⟨true, t_float32, (fineL (softV a2) m n a1 xs0).map fv⟩ := hcF
    have hll : (fineL (softV a2) m n a1 xs0).length = xs0.length := by simp [fineL]
    simp (disch := first | assumption | omega | rfl | (refine id ?_; simp only [gxD, ne_eq, reduceCtorEq, not_false_eq_true, Nat.reduceAdd, *]; done) | (refine id ?_; simp only [gxD]; omega)) only [↓gxPre, gxPost, ↓reduceIte, Nat.reduceEqDiff, reduceCtorEq, Nat.reduceAdd, g1F, hmn, Int.lt_irrefl, hb, g3F]
    refine .yes (by simp only [quietOk, h0, h1, h2, Bool.false_and, Bool.true_and, Bool.and_true, Bool.and_false, Bool.or_true, Bool.true_or, Bool.false_or, Bool.or_false, Bool.and_self, Bool.or_self]) ((eK.trans eF).put (by omega) _) (.mk ((hput_other _ _ _ _ (by omega)).trans hcF') (by rw [lMapN, hll]) (by omega) (by rw [put_n]; omega) (by rw [put_n]; omega)) (by rw [hll]; omega)
  · rintro i F hi ⟨nF, eF, hb, hcF⟩
    have eHF := eK.trans eF
    have hvF := A0.rd.ext eHF
    have g1F := (eF.blk _ (by omega)).trans ((eG.blk _ (by omega)).symm.trans g1)
    have hml : ((updF (fineF (softV a2) m n a1 xs0) xs0 i).map fv).length = xs0.length := by rw [lMapN, updF_length]
    have hfi : finF (xs0.getD i 0) = true := (List.all_eq_true.1 q6) _ (by rw [List.getD_eq_getElem?_getD, List.getElem?_eq_getElem hi]; exact List.getElem_mem hi)
    simp (disch := first | assumption | omega | rfl | (refine id ?_; simp only [gxD, ne_eq, reduceCtorEq, not_false_eq_true, Nat.reduceAdd, *]; done) | (refine id ?_; simp only [gxD]; omega)) only [↓gxPre, gxPost, ↓reduceIte, Nat.reduceEqDiff, reduceCtorEq, Nat.reduceAdd, g1F, hmn]
    refine callR_pure (s_l04Coarse_ok g1F q1 q2 q4 h2 (by omega)) (.inl rfl) ?_
    cases hcs : coarseF m n a1 i
    rotate_left
    · have hs : updF (fineF (softV a2) m n a1 xs0) xs0 (i + 1) = updF (fineF (softV a2) m n a1 xs0) xs0 i := updF_same (by simp only [fineF, hcs, if_true])
      rw [hs]
      simp (disch := first | assumption | omega | rfl | (refine id ?_; simp only [gxD, ne_eq, reduceCtorEq, not_false_eq_true, Nat.reduceAdd, *]; done) | (refine id ?_; simp only [gxD]; omega)) only [↓gxPre, gxPost, ↓reduceIte, Nat.reduceEqDiff, reduceCtorEq, Nat.reduceAdd]
      exact ⟨by simp, nF, eF, hb, hcF⟩
    have hfx : fineF (softV a2) m n a1 xs0 i = softV a2 (xs0.getD i 0) := if_neg (by rw [hcs]; simp)
    have hset : ∀ z, z = softV a2 (xs0.getD i 0) → (updF (fineF (softV a2) m n a1 xs0) xs0 i).set i z = updF (fineF (softV a2) m n a1 xs0) xs0 (i + 1) := fun z hz => by rw [hz, ← hfx]; exact updF_set
    have hset2 : ∀ z w : Nat, ((updF (fineF (softV a2) m n a1 xs0) xs0 i).set i z).set i w = (updF (fineF (softV a2) m n a1 xs0) xs0 i).set i w := fun z w => by rw [List.set_set]
    cases c1 : fcB .gtr .f32 (xs0.getD i 0) a2
    · cases c2 : fcB .lss .f32 (xs0.getD i 0) (fneg .f32 a2)
      · have hz := hset 0 (by simp only [softV, c1, c2, Bool.false_eq_true, if_false, if_true])
        simp (disch := first | assumption | omega | rfl | (refine id ?_; simp only [gxD, ne_eq, reduceCtorEq, not_false_eq_true, Nat.reduceAdd, *]; done) | (refine id ?_; simp only [gxD]; omega)) only [↓gxPre, gxPost, ↓reduceIte, Nat.reduceEqDiff, reduceCtorEq, Nat.reduceAdd, g1F, hvF.ia, hvF.ld, hb, hcF, c1, c2]
        exact ⟨by simp, nF, eF.put (by omega) _, by rw [fv_set', hz]⟩
      · have hz := hset (fbin .add .f32 (xs0.getD i 0) a2) (by simp only [softV, c1, c2, Bool.false_eq_true, if_false, if_true])
        simp (disch := first | assumption | omega | rfl | (refine id ?_; simp only [gxD, ne_eq, reduceCtorEq, not_false_eq_true, Nat.reduceAdd, *]; done) | (refine id ?_; simp only [gxD]; omega)) only [↓gxPre, gxPost, ↓reduceIte, Nat.reduceEqDiff, reduceCtorEq, Nat.reduceAdd, g1F, hvF.ia, hvF.ld, hb, hcF, c1, c2]
        exact ⟨by simp, nF, eF.put (by omega) _, by rw [fv_set', fv_set', hset2, hz]⟩
    · have c2 := soft_not hfi h0 c1
      have hz := hset (fbin .sub .f32 (xs0.getD i 0) a2) (by simp only [softV, c1, if_true])
      simp (disch := first | assumption | omega | rfl | (refine id ?_; simp only [gxD, ne_eq, reduceCtorEq, not_false_eq_true, Nat.reduceAdd, *]; done) | (refine id ?_; simp only [gxD]; omega)) only [↓gxPre, gxPost, ↓reduceIte, Nat.reduceEqDiff, reduceCtorEq, Nat.reduceAdd, g1F, hvF.ia, hvF.ld, hb, hcF, c1, c2]
      exact ⟨by simp, nF, eF.put (by omega) _, by rw [fv_set', fv_set', hset2, hz]⟩
end Go.Proofs.Ytkojmlpaamdhoac
