/- What the functions of the program do: contracts that are proved. -/
import Derived.Test.YtddekdgggpifmaaFnMaximaXToXX
namespace Go.Proofs.Ytddekdgggpifmaa
open Go.Gx
set_option maxRecDepth 100000
set_option linter.unusedSimpArgs false
set_option linter.unusedVariables false

def avgF (p : List Nat) (ys : List (List Nat)) (i : Nat) : Nat := fbin .quo .f32 (p.getD i 0) (i2f .f32 ((ys.getD i []).length : Int))
def ruY (p : List Nat) (ys : List (List Nat)) (i : Nat) : Nat := fbin .quo .f32 (logR (avgF p ys i)) 1060205080
def ruA : Nat → Nat := foldI (fun i s => fbin .add .f32 s (i2f .f32 (i : Int))) 0
def ruB (p : List Nat) (ys : List (List Nat)) : Nat → Nat := foldI (fun i s => fbin .add .f32 s (ruY p ys i)) 0
def ruC : Nat → Nat := foldI (fun i s => fbin .add .f32 s (fbin .mul .f32 (i2f .f32 (i : Int)) (i2f .f32 (i : Int)))) 0
def ruD (p : List Nat) (ys : List (List Nat)) : Nat → Nat := foldI (fun i s => fbin .add .f32 s (fbin .mul .f32 (i2f .f32 (i : Int)) (ruY p ys i))) 0
def ruF (p : List Nat) (ys : List (List Nat)) (n : Nat) : Nat := fbin .quo .f32 (fbin .sub .f32 (fbin .mul .f32 (i2f .f32 (n : Int)) (ruD p ys n)) (fbin .mul .f32 (ruA n) (ruB p ys n))) (fbin .sub .f32 (fbin .mul .f32 (i2f .f32 (n : Int)) (ruC n)) (fbin .mul .f32 (ruA n) (ruA n)))
def ruOk (xs : List Nat) (ys : List (List Nat)) : Bool := validBandsF xs ys && (powersF xs ys).all finF && decide (2 ≤ ys.length) && (List.range ys.length).all fun i => fcB .gtr .f32 ((powersF xs ys).getD i 0) 0
def ruN (xs : List Nat) (ys : List (List Nat)) : Nat := if (ruOk xs ys && finF (ruF (powersF xs ys) ys ys.length)) = true then ruF (powersF xs ys) ys ys.length else 0
def ruV (xs : List Nat) (ys : List (List Nat)) : Bool := ruOk xs ys && finF (ruF (powersF xs ys) ys ys.length)
theorem avg_dom {p : List Nat} {ys : List (List Nat)} {i : Nat} (hf : finF (p.getD i 0) = true) (hp : fcB .gtr .f32 (p.getD i 0) 0 = true) (h1 : 1 ≤ (ys.getD i []).length) (h2 : (ys.getD i []).length ≤ 64) : FinW .f32 (avgF p ys i) ∧ 0 ≤ fval .f32 (avgF p ys i) := by
  have fx := finW_of hf
  rw [fcB_gtr fx finW_zero.1, finW_zero.2] at hp
  have hp := of_decide_eq_true hp
  have ht := top32
  have ht2 : (1 : Rat) ≤ p2 127 := by rw [← p2_zero]; exact p2_le (by decide)
  have h64 : p2 6 ≤ p2 127 := p2_le (by decide)
  have e64 : p2 6 = ((64 : Nat) : Rat) := p2_nat 6
  have hl1 : (1 : Rat) ≤ (((ys.getD i []).length : Int) : Rat) := by
    have : ((1 : Int) : Rat) ≤ (((ys.getD i []).length : Int) : Rat) := Rat.intCast_le_intCast.2 (by omega)
    exact this
  have hl2 : (((ys.getD i []).length : Int) : Rat) ≤ ((64 : Nat) : Rat) := by
    have : (((ys.getD i []).length : Int) : Rat) ≤ ((64 : Int) : Rat) := Rat.intCast_le_intCast.2 (by omega)
    exact this
  have g := i2f_val (k := .f32) (n := ((ys.getD i []).length : Int)) (by unfold Bd; constructor <;> grind_linarith)
  have hB : 2 * FloatKind.f32.format.binade = 16777216 := by decide
  have hv := g.exact (Rep.int (by decide) _ (by omega))
  unfold avgF
  rw [← hv] at hl1 hl2
  have gw := g.1
  generalize i2f .f32 ((ys.getD i []).length : Int) = l at *
  have hl0 : fval .f32 l ≠ 0 := by
    intro h
    rw [h] at hl1
    grind_linarith
  have hq : fval .f32 (p.getD i 0) / fval .f32 l * fval .f32 l = fval .f32 (p.getD i 0) := Rat.div_mul_cancel hl0
  have hlp : 0 < fval .f32 l := by grind_linarith
  generalize hqq : fval .f32 (p.getD i 0) / fval .f32 l = q at hq
  have q0 : 0 ≤ q := by
    refine Rat.le_of_mul_le_mul_right (c := fval .f32 l) ?_ hlp
    rw [hq]
    grind_linarith
  have q1 : q ≤ fval .f32 (p.getD i 0) := by
    have := Rat.mul_le_mul_of_nonneg_left hl1 q0
    grind_linarith
  have bx := fx.bd
  unfold Bd at bx
  have gg := fdiv_val fx gw hl0 hq (by unfold Bd; constructor <;> grind_linarith)
  exact ⟨gg.1, gg.ge (Rep.int (by decide) 0 (by decide)) q0⟩
theorem ru_no {xs : List Nat} {ys : List (List Nat)} (h : ruOk xs ys = false) : ruN xs ys = 0 ∧ ruV xs ys = false := by simp [ruN, ruV, h]
theorem i_RoughnessOf_law {H : Heap} {v0 u0 : Value} {xs0 : List Nat} {ys0 : List (List Nat)} (A : AF H v0 xs0) (B : AS H u0 ys0) :
    ACalls Try.prog n_i_RoughnessOf [.agg #[v0, u0]] H fun r H' => r = .tuple #[.float .f32 (ruN xs0 ys0), .bool (ruV xs0 ys0)] ∧ Ext H H' := by
  have hm := B.le
  have hnx : ys0.length ≤ 2 ^ 40 := by unfold totL at hm; omega
  have o1 := A.rd.one
  have o2 := B.rd.one'
  obtain ⟨us, hu, hul, hus⟩ := B.rd
  refine k_i_RoughnessOf.run rfl ?_
  unfold c_i_RoughnessOf
  simp (disch := first | assumption | omega | rfl | (refine id ?_; simp only [gxD, ne_eq, reduceCtorEq, not_false_eq_true, Nat.reduceAdd, *]; done) | (refine id ?_; simp only [gxD]; omega)) only [↓gxPre, gxPost, ↓reduceIte, Nat.reduceEqDiff, reduceCtorEq, Nat.reduceAdd]
  refine callR_new ?_
  intro K eK hb nK
  refine callR_of (i_PowersOfBands_law (A.ext eK) ⟨B.rd.ext eK, B.le, B.w⟩) ?_
  rintro _ G ⟨eG, w, rfl, ow, lw⟩
  have e1 := eK.trans eG
  have hbG := (eG.blk _ (by omega)).trans hb
  have vw := ow.one
  have huG := hu.ext e1
  cases hk : (validBandsF xs0 ys0 && (powersF xs0 ys0).all finF)
  · obtain ⟨z1, z2⟩ := ru_no (xs := xs0) (ys := ys0) (by simp only [ruOk, hk, Bool.false_and])
    rw [z1, z2]
    simp (disch := first | assumption | omega | rfl | (refine id ?_; simp only [gxD, ne_eq, reduceCtorEq, not_false_eq_true, Nat.reduceAdd, *]; done) | (refine id ?_; simp only [gxD]; omega)) only [↓gxPre, gxPost, ↓reduceIte, Nat.reduceEqDiff, reduceCtorEq, Nat.reduceAdd, hbG, huG.len, hul]
    exact e1
  rw [hk] at ow
  simp only [selL_t] at ow
  have hw := ow.fs
  rw [Bool.and_eq_true] at hk
  by_cases h2 : (ys0.length : Int) < 2
  · obtain ⟨z1, z2⟩ := ru_no (xs := xs0) (ys := ys0) (by simp only [ruOk, decide_eq_false (show ¬ 2 ≤ ys0.length by omega), Bool.and_false, Bool.false_and])
    rw [z1, z2]
    simp (disch := first | assumption | omega | rfl | (refine id ?_; simp only [gxD, ne_eq, reduceCtorEq, not_false_eq_true, Nat.reduceAdd, *]; done) | (refine id ?_; simp only [gxD]; omega)) only [↓gxPre, gxPost, ↓reduceIte, Nat.reduceEqDiff, reduceCtorEq, Nat.reduceAdd, hbG, huG.len, hul, h2]
    exact e1
  have hpl : (powersF xs0 ys0).length = ys0.length + 1 := by simp [powersF, tabL_length]
  have hvb := vb_yes hk.1
  have hdet := det_le hk.1
  simp (disch := first | assumption | omega | rfl | (refine id ?_; simp only [gxD, ne_eq, reduceCtorEq, not_false_eq_true, Nat.reduceAdd, *]; done) | (refine id ?_; simp only [gxD]; omega)) only [↓gxPre, gxPost, ↓reduceIte, Nat.reduceEqDiff, reduceCtorEq, Nat.reduceAdd, hbG, huG.len, hul, h2]
  refine loop_forH ys0.length (fun i => [w, .int .i64 ys0.length, .float .f32 (ruA i), .float .f32 (ruB (powersF xs0 ys0) ys0 i), .float .f32 (ruC i), .float .f32 (ruD (powersF xs0 ys0) ys0 i), u0, .int .i64 ys0.length, .int .i64 i])
    (fun i F => F = G ∧ ∀ j, j < i → fcB .gtr .f32 ((powersF xs0 ys0).getD j 0) 0 = true) rfl ⟨rfl, by intros; omega⟩ ?_ ?_
  · rintro _ ⟨rfl, hJ⟩
    have hok : ruOk xs0 ys0 = true := by simp only [ruOk, hk.1, hk.2, decide_eq_true (show 2 ≤ ys0.length by omega), allR.2 hJ, Bool.and_self]
    simp (disch := first | assumption | omega | rfl | (refine id ?_; simp only [gxD, ne_eq, reduceCtorEq, not_false_eq_true, Nat.reduceAdd, *]; done) | (refine id ?_; simp only [gxD]; omega)) only [↓gxPre, gxPost, ↓reduceIte, Nat.reduceEqDiff, reduceCtorEq, Nat.reduceAdd, Int.lt_irrefl]
    refine callR_pure i_finite_ok (.inl rfl) ?_
    simp (disch := first | assumption | omega | rfl | (refine id ?_; simp only [gxD, ne_eq, reduceCtorEq, not_false_eq_true, Nat.reduceAdd, *]; done) | (refine id ?_; simp only [gxD]; omega)) only [↓gxPre, gxPost, ↓reduceIte, Nat.reduceEqDiff, reduceCtorEq, Nat.reduceAdd, numV]
    refine ⟨?_, e1⟩
    have hF : fbin .quo .f32 (fbin .sub .f32 (fbin .mul .f32 (i2f .f32 (ys0.length : Int)) (ruD (powersF xs0 ys0) ys0 ys0.length)) (fbin .mul .f32 (ruA ys0.length) (ruB (powersF xs0 ys0) ys0 ys0.length))) (fbin .sub .f32 (fbin .mul .f32 (i2f .f32 (ys0.length : Int)) (ruC ys0.length)) (fbin .mul .f32 (ruA ys0.length) (ruA ys0.length))) = ruF (powersF xs0 ys0) ys0 ys0.length := rfl
    rw [hF]
    simp [ruN, ruV, hok]
  · rintro i _ hi ⟨rfl, hJ⟩
    have hri := (hus i hi).ext e1
    cases hg : fcB .gtr .f32 ((powersF xs0 ys0).getD i 0) 0
    · have hno : ruOk xs0 ys0 = false := by
        unfold ruOk
        rw [allR_false (p := fun i => fcB .gtr .f32 ((powersF xs0 ys0).getD i 0) 0) hi hg, Bool.and_false]
      obtain ⟨z1, z2⟩ := ru_no hno
      rw [z1, z2]
      simp (disch := first | assumption | omega | rfl | (refine id ?_; simp only [gxD, ne_eq, reduceCtorEq, not_false_eq_true, Nat.reduceAdd, *]; done) | (refine id ?_; simp only [gxD]; omega)) only [↓gxPre, gxPost, ↓reduceIte, Nat.reduceEqDiff, reduceCtorEq, Nat.reduceAdd, huG.ia, huG.ldD, hul, hw.ia, hw.ld, hpl, hg]
      exact e1
    · have hfi : finF ((powersF xs0 ys0).getD i 0) = true := (List.all_eq_true.1 hk.2) _ (by rw [List.getD_eq_getElem?_getD, List.getElem?_eq_getElem (by omega)]; exact List.getElem_mem _)
      obtain ⟨d1, d2⟩ := hdet i hi
      have ha : fbin .quo .f32 ((powersF xs0 ys0).getD i 0) (i2f .f32 ((ys0.getD i []).length : Int)) = avgF (powersF xs0 ys0) ys0 i := rfl
      have hY : fbin .quo .f32 (logR (avgF (powersF xs0 ys0) ys0 i)) 1060205080 = ruY (powersF xs0 ys0) ys0 i := rfl
      obtain ⟨f1, f2⟩ := avg_dom (p := powersF xs0 ys0) (ys := ys0) (i := i) hfi hg d1 (by omega)
      simp (disch := first | assumption | omega | rfl | (refine id ?_; simp only [gxD, ne_eq, reduceCtorEq, not_false_eq_true, Nat.reduceAdd, *]; done) | (refine id ?_; simp only [gxD]; omega)) only [↓gxPre, gxPost, ↓reduceIte, Nat.reduceEqDiff, reduceCtorEq, Nat.reduceAdd, huG.ia, huG.ldD, hul, hw.ia, hw.ld, hpl, hg, hri.len, ha]
      refine callR_pure (i_LogNumber_ok f1 f2) (.inl rfl) ?_
      simp (disch := first | assumption | omega | rfl | (refine id ?_; simp only [gxD, ne_eq, reduceCtorEq, not_false_eq_true, Nat.reduceAdd, *]; done) | (refine id ?_; simp only [gxD]; omega)) only [↓gxPre, gxPost, ↓reduceIte, Nat.reduceEqDiff, reduceCtorEq, Nat.reduceAdd, hY]
      refine ⟨?_, Nat.forall_lt_succ_right.2 ⟨hJ, hg⟩⟩
      simp [ruA, ruB, ruC, ruD, foldI_succ]
theorem s_RoughnessOf_law {H : Heap} {v0 u0 : Value} {xs0 : List Nat} {ys0 : List (List Nat)} (A : AF H v0 xs0) (B : AS H u0 ys0) :
    ACalls Try.prog n_s_RoughnessOf [.agg #[v0, u0]] H fun r H' => r = .tuple #[.float .f32 (ruN xs0 ys0), .bool (ruV xs0 ys0)] ∧ Ext H H' := by
  have hm := B.le
  have hnx : ys0.length ≤ 2 ^ 40 := by unfold totL at hm; omega
  have o1 := A.rd.one
  have o2 := B.rd.one'
  obtain ⟨us, hu, hul, hus⟩ := B.rd
  refine k_s_RoughnessOf.run rfl ?_
  unfold c_s_RoughnessOf
  simp (disch := first | assumption | omega | rfl | (refine id ?_; simp only [gxD, ne_eq, reduceCtorEq, not_false_eq_true, Nat.reduceAdd, *]; done) | (refine id ?_; simp only [gxD]; omega)) only [↓gxPre, gxPost, ↓reduceIte, Nat.reduceEqDiff, reduceCtorEq, Nat.reduceAdd]
  refine callR_new ?_
  intro K eK hb nK
  refine callR_of (s_PowersOfBands_law (A.ext eK) ⟨B.rd.ext eK, B.le, B.w⟩) ?_
  rintro _ G ⟨eG, w, rfl, ow, lw⟩
  have e1 := eK.trans eG
  have hbG := (eG.blk _ (by omega)).trans hb
  have vw := ow.one
  have huG := hu.ext e1
  cases hk : (validBandsF xs0 ys0 && (powersF xs0 ys0).all finF)
  · obtain ⟨z1, z2⟩ := ru_no (xs := xs0) (ys := ys0) (by simp only [ruOk, hk, Bool.false_and])
    rw [z1, z2]
    simp (disch := first | assumption | omega | rfl | (refine id ?_; simp only [gxD, ne_eq, reduceCtorEq, not_false_eq_true, Nat.reduceAdd, *]; done) | (refine id ?_; simp only [gxD]; omega)) only [↓gxPre, gxPost, ↓reduceIte, Nat.reduceEqDiff, reduceCtorEq, Nat.reduceAdd, hbG, huG.len, hul]
    exact e1
  rw [hk] at ow
  simp only [selL_t] at ow
  have hw := ow.fs
  rw [Bool.and_eq_true] at hk
  by_cases h2 : (ys0.length : Int) < 2
  · obtain ⟨z1, z2⟩ := ru_no (xs := xs0) (ys := ys0) (by simp only [ruOk, decide_eq_false (show ¬ 2 ≤ ys0.length by omega), Bool.and_false, Bool.false_and])
    rw [z1, z2]
    simp (disch := first | assumption | omega | rfl | (refine id ?_; simp only [gxD, ne_eq, reduceCtorEq, not_false_eq_true, Nat.reduceAdd, *]; done) | (refine id ?_; simp only [gxD]; omega)) only [↓gxPre, gxPost, ↓reduceIte, Nat.reduceEqDiff, reduceCtorEq, Nat.reduceAdd, hbG, huG.len, hul, h2]
    exact e1
  have hpl : (powersF xs0 ys0).length = ys0.length + 1 := by simp [powersF, tabL_length]
  have hvb := vb_yes hk.1
  have hdet := det_le hk.1
  simp (disch := first | assumption | omega | rfl | (refine id ?_; simp only [gxD, ne_eq, reduceCtorEq, not_false_eq_true, Nat.reduceAdd, *]; done) | (refine id ?_; simp only [gxD]; omega)) only [↓gxPre, gxPost, ↓reduceIte, Nat.reduceEqDiff, reduceCtorEq, Nat.reduceAdd, hbG, huG.len, hul, h2]
  refine loop_forH ys0.length (fun i => [.pointer (some ⟨H.n, 0, some 2⟩), w, .int .i64 ys0.length, .float .f32 (ruA i), .float .f32 (ruB (powersF xs0 ys0) ys0 i), .float .f32 (ruC i), .float .f32 (ruD (powersF xs0 ys0) ys0 i), .int .i64 i])
    (fun i F => F = G ∧ ∀ j, j < i → fcB .gtr .f32 ((powersF xs0 ys0).getD j 0) 0 = true) rfl ⟨rfl, by intros; omega⟩ ?_ ?_
  · rintro _ ⟨rfl, hJ⟩
    have hok : ruOk xs0 ys0 = true := by simp only [ruOk, hk.1, hk.2, decide_eq_true (show 2 ≤ ys0.length by omega), allR.2 hJ, Bool.and_self]
    simp (disch := first | assumption | omega | rfl | (refine id ?_; simp only [gxD, ne_eq, reduceCtorEq, not_false_eq_true, Nat.reduceAdd, *]; done) | (refine id ?_; simp only [gxD]; omega)) only [↓gxPre, gxPost, ↓reduceIte, Nat.reduceEqDiff, reduceCtorEq, Nat.reduceAdd, Int.lt_irrefl]
    refine callR_pure s_l02Number_ok (.inl rfl) ?_
    simp (disch := first | assumption | omega | rfl | (refine id ?_; simp only [gxD, ne_eq, reduceCtorEq, not_false_eq_true, Nat.reduceAdd, *]; done) | (refine id ?_; simp only [gxD]; omega)) only [↓gxPre, gxPost, ↓reduceIte, Nat.reduceEqDiff, reduceCtorEq, Nat.reduceAdd, numV]
    refine ⟨?_, e1⟩
    have hF : fbin .quo .f32 (fbin .sub .f32 (fbin .mul .f32 (i2f .f32 (ys0.length : Int)) (ruD (powersF xs0 ys0) ys0 ys0.length)) (fbin .mul .f32 (ruA ys0.length) (ruB (powersF xs0 ys0) ys0 ys0.length))) (fbin .sub .f32 (fbin .mul .f32 (i2f .f32 (ys0.length : Int)) (ruC ys0.length)) (fbin .mul .f32 (ruA ys0.length) (ruA ys0.length))) = ruF (powersF xs0 ys0) ys0 ys0.length := rfl
    rw [hF]
    simp [ruN, ruV, hok]
  · rintro i _ hi ⟨rfl, hJ⟩
    have hri := (hus i hi).ext e1
    cases hg : fcB .gtr .f32 ((powersF xs0 ys0).getD i 0) 0
    · have hno : ruOk xs0 ys0 = false := by
        unfold ruOk
        rw [allR_false (p := fun i => fcB .gtr .f32 ((powersF xs0 ys0).getD i 0) 0) hi hg, Bool.and_false]
      obtain ⟨z1, z2⟩ := ru_no hno
      rw [z1, z2]
      simp (disch := first | assumption | omega | rfl | (refine id ?_; simp only [gxD, ne_eq, reduceCtorEq, not_false_eq_true, Nat.reduceAdd, *]; done) | (refine id ?_; simp only [gxD]; omega)) only [↓gxPre, gxPost, ↓reduceIte, Nat.reduceEqDiff, reduceCtorEq, Nat.reduceAdd, hbG, huG.ia, huG.ldD, hul, hw.ia, hw.ld, hpl, hg]
      exact e1
    · have hfi : finF ((powersF xs0 ys0).getD i 0) = true := (List.all_eq_true.1 hk.2) _ (by rw [List.getD_eq_getElem?_getD, List.getElem?_eq_getElem (by omega)]; exact List.getElem_mem _)
      obtain ⟨d1, d2⟩ := hdet i hi
      have ha : fbin .quo .f32 ((powersF xs0 ys0).getD i 0) (i2f .f32 ((ys0.getD i []).length : Int)) = avgF (powersF xs0 ys0) ys0 i := rfl
      have hY : fbin .quo .f32 (logR (avgF (powersF xs0 ys0) ys0 i)) 1060205080 = ruY (powersF xs0 ys0) ys0 i := rfl
      obtain ⟨f1, f2⟩ := avg_dom (p := powersF xs0 ys0) (ys := ys0) (i := i) hfi hg d1 (by omega)
      simp (disch := first | assumption | omega | rfl | (refine id ?_; simp only [gxD, ne_eq, reduceCtorEq, not_false_eq_true, Nat.reduceAdd, *]; done) | (refine id ?_; simp only [gxD]; omega)) only [↓gxPre, gxPost, ↓reduceIte, Nat.reduceEqDiff, reduceCtorEq, Nat.reduceAdd, hbG, huG.ia, huG.ldD, hul, hw.ia, hw.ld, hpl, hg, hri.len, ha]
      refine callR_pure (s_l01Log_ok f1 f2) (.inl rfl) ?_
      simp (disch := first | assumption | omega | rfl | (refine id ?_; simp only [gxD, ne_eq, reduceCtorEq, not_false_eq_true, Nat.reduceAdd, *]; done) | (refine id ?_; simp only [gxD]; omega)) only [↓gxPre, gxPost, ↓reduceIte, Nat.reduceEqDiff, reduceCtorEq, Nat.reduceAdd, hY]
      refine ⟨?_, Nat.forall_lt_succ_right.2 ⟨hJ, hg⟩⟩
      simp [ruA, ruB, ruC, ruD, foldI_succ]
end Go.Proofs.Ytddekdgggpifmaa

namespace Go.Proofs.Ytddekdgggpifmaa
open Go.Gx
set_option maxRecDepth 100000
set_option linter.unusedSimpArgs false
set_option linter.unusedVariables false

theorem wr_u64 (z : Int) : 0 ≤ IntKind.wrap .u64 z ∧ IntKind.wrap .u64 z < 2 ^ 64 := by
  unfold IntKind.wrap
  simp [IntKind.bits, IntKind.signed]
  omega
theorem and_255 (z : Int) : 0 ≤ bits .and .u64 z 255 ∧ bits .and .u64 z 255 ≤ 255 := by
  unfold bits
  simp only
  have e1 : (BitVec.ofInt (IntKind.bits .u64) z &&& BitVec.ofInt (IntKind.bits .u64) 255).toNat ≤ 255 := by
    show (BitVec.ofInt 64 z &&& BitVec.ofInt 64 255).toNat ≤ 255
    rw [BitVec.toNat_and]
    exact Nat.and_le_right
  generalize (BitVec.ofInt (IntKind.bits .u64) z &&& BitVec.ofInt (IntKind.bits .u64) 255).toNat = n at *
  unfold IntKind.wrap
  simp [IntKind.bits, IntKind.signed]
  omega
theorem wr_small {y : Int} (h0 : 0 ≤ y) (h1 : y ≤ 255) : IntKind.wrap .i64 y = y := by
  obtain ⟨n, rfl⟩ : ∃ n : Nat, y = n := ⟨y.toNat, by omega⟩
  exact wrN _ (by omega)
theorem s_l00Src_next_ok {H : Heap} {p : Nat} {ty : TypeId} {v : Value} {bs : List Nat} {at0 seed : Int} (hb : H.blk p = some ⟨true, ty, [v, .int .i64 at0, .int .u64 seed]⟩) (hp : p < H.n) (hv : YB H v bs) (h0 : 0 ≤ at0) (h1 : at0 ≤ 2 ^ 41) (s0 : 0 ≤ seed) (s1 : seed < 2 ^ 64) :
    ACalls Try.prog n_s_l00Src_next [.pointer (some ⟨p, 0, some 3⟩)] H fun r H' => ∃ x seed' : Int, r = .int .i64 x ∧ 0 ≤ x ∧ x ≤ 255 ∧ 0 ≤ seed' ∧ seed' < 2 ^ 64 ∧ H' = H.put p ⟨true, ty, [v, .int .i64 (at0 + 1), .int .u64 seed']⟩ := by
  refine k_s_l00Src_next.run rfl ?_
  unfold c_s_l00Src_next
  have o := Sl.one hv.rd
  by_cases c1 : at0 < bs.length
  · have hw := hv.w at0.toNat
    have hr : IntKind.wrap .i64 ((bs.getD at0.toNat 0 : Nat) : Int) = ((bs.getD at0.toNat 0 : Nat) : Int) := wrN _ (by omega)
    have c2 : at0 + 1 ≤ bs.length := by omega
    simp (disch := first | assumption | omega | rfl | (refine id ?_; simp only [gxD, ne_eq, reduceCtorEq, not_false_eq_true, Nat.reduceAdd, *]; done) | (refine id ?_; simp only [gxD]; omega)) only [↓gxPre, gxPost, ↓reduceIte, Nat.reduceEqDiff, reduceCtorEq, Nat.reduceAdd, hb, hv.len, c1, hv.ia, hv.ld, hr, c2]
    exact ⟨_, _, rfl, by omega, by omega, (wr_u64 _).1, (wr_u64 _).2, rfl⟩
  · have c2 : ¬ at0 + 1 ≤ bs.length := by omega
    simp (disch := first | assumption | omega | rfl | (refine id ?_; simp only [gxD, ne_eq, reduceCtorEq, not_false_eq_true, Nat.reduceAdd, *]; done) | (refine id ?_; simp only [gxD]; omega)) only [↓gxPre, gxPost, ↓reduceIte, Nat.reduceEqDiff, reduceCtorEq, Nat.reduceAdd, hb, hv.len, c1, c2]
    refine ⟨_, _, rfl, ?_, ?_, (wr_u64 _).1, (wr_u64 _).2, rfl⟩
    · rw [wr_small (and_255 _).1 (and_255 _).2]; exact (and_255 _).1
    · rw [wr_small (and_255 _).1 (and_255 _).2]; exact (and_255 _).2
theorem s_l00Src_pick_ok {H : Heap} {p : Nat} {ty : TypeId} {v : Value} {bs : List Nat} {at0 seed n : Int} (hb : H.blk p = some ⟨true, ty, [v, .int .i64 at0, .int .u64 seed]⟩) (hp : p < H.n) (hv : YB H v bs) (h0 : 0 ≤ at0) (h1 : at0 ≤ 2 ^ 40) (s0 : 0 ≤ seed) (s1 : seed < 2 ^ 64) (hn : 2 ≤ n) (hn' : n ≤ 1000)
    (hvp : ∀ b, YB (H.put p ⟨true, ty, b⟩) v bs) :
    ACalls Try.prog n_s_l00Src_pick [.pointer (some ⟨p, 0, some 3⟩), .int .i64 n] H fun r H' => ∃ x at' seed' : Int, r = .int .i64 x ∧ 0 ≤ x ∧ x < n ∧ at0 ≤ at' ∧ at' ≤ at0 + 2 ∧ 0 ≤ seed' ∧ seed' < 2 ^ 64 ∧ H' = H.put p ⟨true, ty, [v, .int .i64 at', .int .u64 seed']⟩ := by
  refine k_s_l00Src_pick.run rfl ?_
  unfold c_s_l00Src_pick
  have c1 : ¬ n ≤ 1 := by omega
  have hn0 : n ≠ 0 := by omega
  simp (disch := first | assumption | omega | rfl | (refine id ?_; simp only [gxD, ne_eq, reduceCtorEq, not_false_eq_true, Nat.reduceAdd, *]; done) | (refine id ?_; simp only [gxD]; omega)) only [↓gxPre, gxPost, ↓reduceIte, Nat.reduceEqDiff, reduceCtorEq, Nat.reduceAdd, c1]
  refine callR_of (s_l00Src_next_ok hb hp hv h0 (by omega) s0 s1) ?_
  rintro _ _ ⟨x, sd, rfl, x0, x1, sd0, sd1, rfl⟩
  by_cases c2 : 200 < n
  · simp (disch := first | assumption | omega | rfl | (refine id ?_; simp only [gxD, ne_eq, reduceCtorEq, not_false_eq_true, Nat.reduceAdd, *]; done) | (refine id ?_; simp only [gxD]; omega)) only [↓gxPre, gxPost, ↓reduceIte, Nat.reduceEqDiff, reduceCtorEq, Nat.reduceAdd, c2]
    refine callR_of (s_l00Src_next_ok (hput_self _ _ _) (by rw [put_n]; exact hp) (hvp _) (by omega) (by omega) sd0 sd1) ?_
    rintro _ _ ⟨y, sd2, rfl, y0, y1, t0, t1, rfl⟩
    simp (disch := first | assumption | omega | rfl | (refine id ?_; simp only [gxD, ne_eq, reduceCtorEq, not_false_eq_true, Nat.reduceAdd, *]; done) | (refine id ?_; simp only [gxD]; omega)) only [↓gxPre, gxPost, ↓reduceIte, Nat.reduceEqDiff, reduceCtorEq, Nat.reduceAdd, hn0, hput_put]
    exact ⟨_, _, _, rfl, Int.tmod_nonneg _ (by omega), Int.tmod_lt_of_pos _ (by omega), by omega, by omega, t0, t1, rfl⟩
  · simp (disch := first | assumption | omega | rfl | (refine id ?_; simp only [gxD, ne_eq, reduceCtorEq, not_false_eq_true, Nat.reduceAdd, *]; done) | (refine id ?_; simp only [gxD]; omega)) only [↓gxPre, gxPost, ↓reduceIte, Nat.reduceEqDiff, reduceCtorEq, Nat.reduceAdd, c2, hn0]
    exact ⟨_, _, _, rfl, Int.tmod_nonneg _ (by omega), Int.tmod_lt_of_pos _ (by omega), by omega, by omega, sd0, sd1, rfl⟩
theorem s_l00From_ok {H : Heap} {v : Value} {bs : List Nat} (hv : YB H v bs) : ACalls Try.prog n_s_l00From [v] H fun r H' => ∃ ty, r = .pointer (some ⟨H.n, 0, some 3⟩) ∧ H' = H.new ⟨true, ty, [v, .int .i64 0, .int .u64 0]⟩ := by
  refine k_s_l00From.run rfl ?_
  unfold c_s_l00From
  have o := Sl.one hv.rd
  simp (disch := first | assumption | omega | rfl | (refine id ?_; simp only [gxD, ne_eq, reduceCtorEq, not_false_eq_true, Nat.reduceAdd, *]; done) | (refine id ?_; simp only [gxD]; omega)) only [↓gxPre, gxPost, ↓reduceIte, Nat.reduceEqDiff, reduceCtorEq, Nat.reduceAdd]
  exact ⟨_, rfl⟩
end Go.Proofs.Ytddekdgggpifmaa

namespace Go.Proofs.Ytddekdgggpifmaa
open Go.Gx
set_option maxRecDepth 100000
set_option linter.unusedSimpArgs false
set_option linter.unusedVariables false

def quartW (q : Int) : Nat := fbin .quo .f32 (i2f .f32 q) 1082130432
theorem quartW_all : ∀ n : Fin 65, finF (quartW ((n.val : Int) - 32)) = true ∧ quartW ((n.val : Int) - 32) < 2 ^ 32 ∧ fval .f32 (quartW ((n.val : Int) - 32)) = (((n.val : Int) - 32 : Int) : Rat) / 4 := by decide +kernel
/-- A quarter's word. -/
def Qd (w : Nat) : Prop := ∃ q : Int, -32 ≤ q ∧ q ≤ 32 ∧ w = quartW q
theorem Qd.ok {w : Nat} (h : Qd w) : FinW .f32 w ∧ w < 2 ^ 32 ∧ ∃ q : Int, -32 ≤ q ∧ q ≤ 32 ∧ fval .f32 w = (q : Rat) / 4 := by
  obtain ⟨q, h0, h1, rfl⟩ := h
  obtain ⟨a, b, c⟩ := quartW_all ⟨(q + 32).toNat, by omega⟩
  have e : (((q + 32).toNat : Nat) : Int) - 32 = q := by omega
  simp only [e] at a b c
  exact ⟨finW_of a, b, q, h0, h1, c⟩
def QdL (xs : List Nat) : Prop := ∀ j, j < xs.length → Qd (xs.getD j 0)
theorem QdL.w32 {xs : List Nat} (h : QdL xs) : W32 xs := fun j => by
  by_cases hj : j < xs.length
  · exact (h j hj).ok.2.1
  · have : xs.getD j 0 = 0 := by simp [List.getD_eq_getElem?_getD, List.getElem?_eq_none (Nat.le_of_not_lt hj)]
    rw [this]; decide
theorem QdL.snoc {xs : List Nat} {w : Nat} (h : QdL xs) (hw : Qd w) : QdL (xs ++ [w]) := fun j hj => by
  by_cases hlt : j < xs.length
  · rw [getD_app_lt hlt]; exact h j hlt
  · have : j = xs.length := by simp at hj; omega
    subst this
    rw [getD_app_at]; exact hw
theorem w_b10Long_ok {H : Heap} {v u : Value} {bs cs : List Nat} (hv : YA H v bs) (hu : YA H u cs) : ACalls Try.prog n_w_b10Long [v, u] H fun r H' => r = .bool (decide (1048576 < bs.length) || decide (1048576 < cs.length)) ∧ H' = H := by
  refine k_w_b10Long.run rfl ?_
  unfold c_w_b10Long
  by_cases c1 : (1048576 : Int) < bs.length
  · simp (disch := first | assumption | omega | rfl | (refine id ?_; simp only [gxD, ne_eq, reduceCtorEq, not_false_eq_true, Nat.reduceAdd, *]; done) | (refine id ?_; simp only [gxD]; omega)) only [↓gxPre, gxPost, ↓reduceIte, Nat.reduceEqDiff, reduceCtorEq, Nat.reduceAdd, hv.len, c1]
    try simp
    try omega
  · simp (disch := first | assumption | omega | rfl | (refine id ?_; simp only [gxD, ne_eq, reduceCtorEq, not_false_eq_true, Nat.reduceAdd, *]; done) | (refine id ?_; simp only [gxD]; omega)) only [↓gxPre, gxPost, ↓reduceIte, Nat.reduceEqDiff, reduceCtorEq, Nat.reduceAdd, hv.len, hu.len, c1]
    try simp
    try omega
theorem w_b10At_ok {H : Heap} {v : Value} {bs : List Nat} {k n : Int} (hv : YB H v bs) (hk : 0 ≤ k) (hk' : k ≤ 1000) (hn : 2 ≤ n) (hn' : n ≤ 1000) : ∃ x : Int, 0 ≤ x ∧ x < n ∧ ACalls Try.prog n_w_b10At [v, .int .i64 k, .int .i64 n] H fun r H' => r = .int .i64 x ∧ H' = H := by
  have c1 : ¬ n ≤ 1 := by omega
  have hn0 : n ≠ 0 := by omega
  by_cases c2 : k < (bs.length : Int)
  · have hw := hv.w k.toNat
    refine ⟨((bs.getD k.toNat 0 : Nat) : Int).tmod n, Int.tmod_nonneg _ (by omega), Int.tmod_lt_of_pos _ (by omega), ?_⟩
    refine k_w_b10At.run rfl ?_
    unfold c_w_b10At
    have hr : IntKind.wrap .i64 ((bs.getD k.toNat 0 : Nat) : Int) = ((bs.getD k.toNat 0 : Nat) : Int) := wrN _ (by omega)
    simp (disch := first | assumption | omega | rfl | (refine id ?_; simp only [gxD, ne_eq, reduceCtorEq, not_false_eq_true, Nat.reduceAdd, *]; done) | (refine id ?_; simp only [gxD]; omega)) only [↓gxPre, gxPost, ↓reduceIte, Nat.reduceEqDiff, reduceCtorEq, Nat.reduceAdd, hv.len, hv.ia, hv.ld, c1, c2, hr, hn0]
  · refine ⟨(k * 37 + 11).tmod n, Int.tmod_nonneg _ (by omega), Int.tmod_lt_of_pos _ (by omega), ?_⟩
    refine k_w_b10At.run rfl ?_
    unfold c_w_b10At
    simp (disch := first | assumption | omega | rfl | (refine id ?_; simp only [gxD, ne_eq, reduceCtorEq, not_false_eq_true, Nat.reduceAdd, *]; done) | (refine id ?_; simp only [gxD]; omega)) only [↓gxPre, gxPost, ↓reduceIte, Nat.reduceEqDiff, reduceCtorEq, Nat.reduceAdd, hv.len, c1, c2, hn0]
theorem s_l00Src_one_ok {H : Heap} {p : Nat} {ty : TypeId} {v : Value} {bs : List Nat} {at0 seed n : Int} (hb : H.blk p = some ⟨true, ty, [v, .int .i64 at0, .int .u64 seed]⟩) (hp : p < H.n) (hv : YB H v bs) (h0 : 0 ≤ at0) (h1 : at0 ≤ 2 ^ 40) (s0 : 0 ≤ seed) (s1 : seed < 2 ^ 64) (hn : 2 ≤ n) (hn' : n ≤ 1000)
    (hvp : ∀ b, YB (H.put p ⟨true, ty, b⟩) v bs) :
    ACalls Try.prog n_s_l00Src_one [.pointer (some ⟨p, 0, some 3⟩), .int .i64 n] H fun r H' => ∃ (x : Bool) (at' seed' : Int), r = .bool x ∧ at0 ≤ at' ∧ at' ≤ at0 + 2 ∧ 0 ≤ seed' ∧ seed' < 2 ^ 64 ∧ H' = H.put p ⟨true, ty, [v, .int .i64 at', .int .u64 seed']⟩ := by
  refine k_s_l00Src_one.run rfl ?_
  unfold c_s_l00Src_one
  simp (disch := first | assumption | omega | rfl | (refine id ?_; simp only [gxD, ne_eq, reduceCtorEq, not_false_eq_true, Nat.reduceAdd, *]; done) | (refine id ?_; simp only [gxD]; omega)) only [↓gxPre, gxPost, ↓reduceIte, Nat.reduceEqDiff, reduceCtorEq, Nat.reduceAdd]
  refine callR_of (s_l00Src_pick_ok hb hp hv h0 h1 s0 s1 hn hn' hvp) ?_
  rintro _ _ ⟨x, at', sd, rfl, x0, x1, a0, a1, t0, t1, rfl⟩
  simp (disch := first | assumption | omega | rfl | (refine id ?_; simp only [gxD, ne_eq, reduceCtorEq, not_false_eq_true, Nat.reduceAdd, *]; done) | (refine id ?_; simp only [gxD]; omega)) only [↓gxPre, gxPost, ↓reduceIte, Nat.reduceEqDiff, reduceCtorEq, Nat.reduceAdd]
  exact ⟨_, _, _, rfl, a0, a1, t0, t1, rfl⟩
theorem s_B10Pair_ok {H : Heap} {v : Value} {bs : List Nat} (hv : YB H v bs) : ACalls Try.prog n_s_B10Pair [v] H fun r H' => Ext H H' ∧ ∃ (ps : List Nat) (h : Nat), (ps = fourP ∨ ps = haarP) ∧ H.n ≤ h ∧ h < H'.n ∧ r = .agg #[.slice (some ⟨h, 0, none⟩) ps.length ps.length] ∧ H'.blk h = some ⟨true, t_float32, ps.map fv⟩ := by
  have o := Sl.one hv.rd
  refine k_s_B10Pair.run rfl ?_
  unfold c_s_B10Pair
  simp (disch := first | assumption | omega | rfl | (refine id ?_; simp only [gxD, ne_eq, reduceCtorEq, not_false_eq_true, Nat.reduceAdd, *]; done) | (refine id ?_; simp only [gxD]; omega)) only [↓gxPre, gxPost, ↓reduceIte, Nat.reduceEqDiff, reduceCtorEq, Nat.reduceAdd]
  refine callR_new ?_
  intro G e hb nn
  refine callR_of (s_l00From_ok (hv.ext e)) ?_
  rintro _ _ ⟨ty, rfl, rfl⟩
  simp (disch := first | assumption | omega | rfl | (refine id ?_; simp only [gxD, ne_eq, reduceCtorEq, not_false_eq_true, Nat.reduceAdd, *]; done) | (refine id ?_; simp only [gxD]; omega)) only [↓gxPre, gxPost, ↓reduceIte, Nat.reduceEqDiff, reduceCtorEq, Nat.reduceAdd]
  have hvx : ∀ K, Ext H K → YB K v bs := fun K e => hv.ext e
  have e0 : Ext H (G.new ⟨true, ty, [v, .int .i64 0, .int .u64 0]⟩) := e.trans (.new _ _)
  refine callR_of (s_l00Src_one_ok (H := G.new ⟨true, ty, [v, .int .i64 0, .int .u64 0]⟩) (p := G.n) (ty := ty) (v := v) (bs := bs) (at0 := 0) (seed := 0) (n := 2) (new_self _ _) (by simp only [new_n]; omega) (hvx _ e0) (by omega) (by omega) (by omega) (by omega) (by omega) (by omega) (fun b => hvx _ (e0.put (by omega) _))) ?_
  rintro _ _ ⟨x, at1, sd, rfl, a0, a1, sd0, sd1, rfl⟩
  have e1 : Ext H ((G.new ⟨true, ty, [v, .int .i64 0, .int .u64 0]⟩).put G.n ⟨true, ty, [v, .int .i64 at1, .int .u64 sd]⟩) := e0.put (by omega) _
  have hb1 : ((G.new ⟨true, ty, [v, .int .i64 0, .int .u64 0]⟩).put G.n ⟨true, ty, [v, .int .i64 at1, .int .u64 sd]⟩).blk H.n = some ⟨true, 26, [.slice none 0 0]⟩ := by
    rw [hput_other _ _ _ _ (by omega), new_old _ _ _ (by omega), hb]
  have n1 : ((G.new ⟨true, ty, [v, .int .i64 0, .int .u64 0]⟩).put G.n ⟨true, ty, [v, .int .i64 at1, .int .u64 sd]⟩).n = H.n + 2 := by simp only [put_n, new_n]; omega
  generalize ((G.new ⟨true, ty, [v, .int .i64 0, .int .u64 0]⟩).put G.n ⟨true, ty, [v, .int .i64 at1, .int .u64 sd]⟩) = K at *
  cases x
  · simp (disch := first | assumption | omega | rfl | (refine id ?_; simp only [gxD, ne_eq, reduceCtorEq, not_false_eq_true, Nat.reduceAdd, *]; done) | (refine id ?_; simp only [gxD]; omega)) only [↓gxPre, gxPost, ↓reduceIte, Nat.reduceEqDiff, reduceCtorEq, Nat.reduceAdd]
    refine callR_of s_HaarPair_ok ?_
    rintro _ J ⟨eJ, h, h1, h2, rfl, hh⟩
    have hbJ := (eJ.blk H.n (by omega)).trans hb1
    simp (disch := first | assumption | omega | rfl | (refine id ?_; simp only [gxD, ne_eq, reduceCtorEq, not_false_eq_true, Nat.reduceAdd, *]; done) | (refine id ?_; simp only [gxD]; omega)) only [↓gxPre, gxPost, ↓reduceIte, Nat.reduceEqDiff, reduceCtorEq, Nat.reduceAdd, hbJ]
    refine ⟨(e1.trans eJ).put (Nat.le_refl _) _, haarP, h, .inr rfl, by omega, by omega, rfl, ?_⟩
    rw [hput_other _ _ _ _ (by omega)]; exact hh
  · simp (disch := first | assumption | omega | rfl | (refine id ?_; simp only [gxD, ne_eq, reduceCtorEq, not_false_eq_true, Nat.reduceAdd, *]; done) | (refine id ?_; simp only [gxD]; omega)) only [↓gxPre, gxPost, ↓reduceIte, Nat.reduceEqDiff, reduceCtorEq, Nat.reduceAdd]
    refine callR_of s_FourPair_ok ?_
    rintro _ J ⟨eJ, h, h1, h2, rfl, hh⟩
    have hbJ := (eJ.blk H.n (by omega)).trans hb1
    simp (disch := first | assumption | omega | rfl | (refine id ?_; simp only [gxD, ne_eq, reduceCtorEq, not_false_eq_true, Nat.reduceAdd, *]; done) | (refine id ?_; simp only [gxD]; omega)) only [↓gxPre, gxPost, ↓reduceIte, Nat.reduceEqDiff, reduceCtorEq, Nat.reduceAdd, hbJ]
    refine ⟨(e1.trans eJ).put (Nat.le_refl _) _, fourP, h, .inl rfl, by omega, by omega, rfl, ?_⟩
    rw [hput_other _ _ _ _ (by omega)]; exact hh
theorem s_B10Signal_ok {H : Heap} {v : Value} {bs : List Nat} {n : Nat} (hv : YB H v bs) (hn : n ≤ 1000) : ACalls Try.prog n_s_B10Signal [v, .int .i64 n] H fun r H' => Ext H H' ∧ ∃ (L : List Nat) (o : Nat), H.n ≤ o ∧ o < H'.n ∧ L.length = n ∧ QdL L ∧ r = .slice (some ⟨o, 0, none⟩) n n ∧ H'.blk o = some ⟨true, t_float32, L.map fv⟩ := by
  have o := Sl.one hv.rd
  refine k_s_B10Signal.run rfl ?_
  unfold c_s_B10Signal
  simp (disch := first | assumption | omega | rfl | (refine id ?_; simp only [gxD, ne_eq, reduceCtorEq, not_false_eq_true, Nat.reduceAdd, *]; done) | (refine id ?_; simp only [gxD]; omega)) only [↓gxPre, gxPost, ↓reduceIte, Nat.reduceEqDiff, reduceCtorEq, Nat.reduceAdd]
  refine callR_of (s_l00From_ok hv) ?_
  rintro _ _ ⟨ty, rfl, rfl⟩
  simp (disch := first | assumption | omega | rfl | (refine id ?_; simp only [gxD, ne_eq, reduceCtorEq, not_false_eq_true, Nat.reduceAdd, *]; done) | (refine id ?_; simp only [gxD]; omega)) only [↓gxPre, gxPost, ↓reduceIte, Nat.reduceEqDiff, reduceCtorEq, Nat.reduceAdd]
  have hvx : ∀ K, Ext H K → YB K v bs := fun K e => hv.ext e
  have e0 : Ext H ((H.new ⟨true, ty, [v, .int .i64 0, .int .u64 0]⟩).new ⟨true, t_float32, []⟩) := (Ext.new H _).trans (.new _ _)
  refine loop_st (σ := List Nat) (fun L => [.int .i64 ((n : Int) - L.length), .pointer (some ⟨H.n, 0, some 3⟩), .slice (some ⟨H.n + 1, 0, none⟩) L.length L.length])
    (fun L G => L.length ≤ n ∧ QdL L ∧ H.n + 2 ≤ G.n ∧ Ext H G ∧ (∃ at' sd' : Int, 0 ≤ at' ∧ at' ≤ 2 * L.length ∧ 0 ≤ sd' ∧ sd' < 2 ^ 64 ∧ G.blk H.n = some ⟨true, ty, [v, .int .i64 at', .int .u64 sd']⟩) ∧ G.blk (H.n + 1) = some ⟨true, t_float32, L.map fv⟩)
    (fun L => n - L.length) [] (by simp) ⟨by simp, by intro j hj; simp at hj, by simp only [new_n]; omega, e0, ⟨0, 0, by omega, by simp, by omega, by omega, by rw [new_old _ _ _ (by simp only [new_n]; omega), new_self]⟩, by rw [show H.n + 1 = (H.new ⟨true, ty, [v, .int .i64 0, .int .u64 0]⟩).n from rfl]; exact new_self _ _⟩ ?_
  rintro L G ⟨g1, g2, g3, g4, ⟨at', sd', b0, b1, b2, b3, b4⟩, g5⟩
  by_cases c : 0 < (n : Int) - (L.length : Int)
  · simp (disch := first | assumption | omega | rfl | (refine id ?_; simp only [gxD, ne_eq, reduceCtorEq, not_false_eq_true, Nat.reduceAdd, *]; done) | (refine id ?_; simp only [gxD]; omega)) only [↓gxPre, gxPost, ↓reduceIte, Nat.reduceEqDiff, reduceCtorEq, Nat.reduceAdd, c]
    refine callR_of (s_l00Src_pick_ok (n := 65) b4 (by omega) (hvx _ g4) b0 (by omega) b2 b3 (by omega) (by omega) (fun b => hvx _ (g4.put (Nat.le_refl _) _))) ?_
    rintro _ _ ⟨y, at2, sd2, rfl, y0, y1, u0, u1, v0', v1', rfl⟩
    have hml : (L.map fv).length = L.length := by simp
    have h5 : (G.put H.n ⟨true, ty, [v, .int .i64 at2, .int .u64 sd2]⟩).blk (H.n + 1) = some ⟨true, t_float32, L.map fv⟩ := (hput_other _ _ _ _ (by omega)).trans g5
    have hsn : L.map fv ++ [.float .f32 (quartW (y - 32))] = (L ++ [quartW (y - 32)]).map fv := fv_snoc' L _
    obtain ⟨p1, p2', p3, p4⟩ := push_at (g4.put (Nat.le_refl _) ⟨true, ty, [v, .int .i64 at2, .int .u64 sd2]⟩) h5 (by omega) (by rw [put_n]; omega) hsn
    simp (disch := first | assumption | omega | rfl | (refine id ?_; simp only [gxD, ne_eq, reduceCtorEq, not_false_eq_true, Nat.reduceAdd, *]; done) | (refine id ?_; simp only [gxD]; omega)) only [↓gxPre, gxPost, ↓reduceIte, Nat.reduceEqDiff, reduceCtorEq, Nat.reduceAdd, h5, g5, rd1_at]
    refine ⟨L ++ [quartW (y - 32)], by simp; omega, ?_, by simp; omega, g2.snoc ⟨y - 32, by omega, by omega, rfl⟩, by omega, p1, ⟨at2, sd2, by omega, by simp; omega, v0', v1', ?_⟩, by rw [← hsn]; rfl⟩
    · simp; omega
    · first | rfl | exact (p4 H.n (by rw [put_n]; omega) (by omega)).trans (hput_self _ _ _)
  · have hLn : L.length = n := by omega
    simp (disch := first | assumption | omega | rfl | (refine id ?_; simp only [gxD, ne_eq, reduceCtorEq, not_false_eq_true, Nat.reduceAdd, *]; done) | (refine id ?_; simp only [gxD]; omega)) only [↓gxPre, gxPost, ↓reduceIte, Nat.reduceEqDiff, reduceCtorEq, Nat.reduceAdd, c]
    exact ⟨g4, L, H.n + 1, by omega, by omega, hLn, g2, by rw [hLn], g5⟩
theorem w_b10Gap_ok {H : Heap} {a b : Nat} : ACalls Try.prog n_w_b10Gap [.float .f64 a, .float .f64 b] H fun r H' => r = .float .f64 (gapW a b) ∧ H' = H := by
  refine k_w_b10Gap.run rfl ?_
  unfold c_w_b10Gap
  cases h : fcB .lss .f64 a b <;> simp (disch := first | assumption | omega | rfl | (refine id ?_; simp only [gxD, ne_eq, reduceCtorEq, not_false_eq_true, Nat.reduceAdd, *]; done) | (refine id ?_; simp only [gxD]; omega)) only [↓gxPre, gxPost, ↓reduceIte, Nat.reduceEqDiff, reduceCtorEq, Nat.reduceAdd, h, gapW]
end Go.Proofs.Ytddekdgggpifmaa

namespace Go.Proofs.Ytddekdgggpifmaa
open Go.Gx
set_option maxRecDepth 100000
set_option linter.unusedSimpArgs false
set_option linter.unusedVariables false

def psQ : Bool → List Nat
  | true => fourP
  | false => haarP
def loQ : Bool → Rat → Rat → Rat → Rat → Rat
  | true, a, b, c, d => loR a b c d
  | false, a, b, _, _ => loH a b
def hiQ : Bool → Rat → Rat → Rat → Rat → Rat
  | true, a, b, c, d => hiR a b c d
  | false, a, b, _, _ => hiH a b
theorem mod_next {m j : Nat} (hj : j < m) : (2 * j + 2) % (2 * m) = 2 * ((j + 1) % m) ∧ (2 * j + 3) % (2 * m) = 2 * ((j + 1) % m) + 1 ∧ (j + 1) % m < m := by
  have h1 : (j + 1) % m < m := Nat.mod_lt _ (by omega)
  have e : (2 * j + 2) % (2 * m) = 2 * ((j + 1) % m) := by
    rw [show 2 * j + 2 = 2 * (j + 1) by omega, Nat.mul_mod_mul_left]
  refine ⟨e, ?_, h1⟩
  by_cases c : j + 1 < m
  · rw [Nat.mod_eq_of_lt (by omega), Nat.mod_eq_of_lt c]; omega
  · have : j + 1 = m := by omega
    rw [this, Nat.mod_self, show 2 * j + 3 = 1 + 2 * m by omega, Nat.add_mod_right]
    by_cases hm : m = 0
    · omega
    · rw [Nat.mod_eq_of_lt (by omega)]
theorem tapL_len (xs ps : List Nat) : (tapL xs ps).length = xs.length / 2 := by simp [tapL, tabL_length]
theorem tapL_at {xs ps : List Nat} {j : Nat} (h : j < xs.length / 2) : (tapL xs ps).getD j 0 = tapF xs ps j ps.length := tabL_getD h
/-- What a split gives. -/
theorem split_near (q : Bool) {xs : List Nat} {m : Nat} {M : Rat} (hM : okR M) (hl : xs.length = 2 * m) (hx : ∀ i, i < 2 * m → FinW .f32 (xs.getD i 0) ∧ Bd (vF xs i) M) {j : Nat} (hj : j < m) :
    Nr ((tapL xs (psQ q)).getD j 0) (loQ q (vF xs (2 * j)) (vF xs (2 * j + 1)) (vF xs (2 * ((j + 1) % m))) (vF xs (2 * ((j + 1) % m) + 1))) (2 * M / 1000000) ∧
      Nr ((tapL xs (highL (psQ q))).getD j 0) (hiQ q (vF xs (2 * j)) (vF xs (2 * j + 1)) (vF xs (2 * ((j + 1) % m))) (vF xs (2 * ((j + 1) % m) + 1))) (2 * M / 1000000) := by
  obtain ⟨n1, n2, n3⟩ := mod_next hj
  have h0 : (2 * j + 0) % (2 * m) = 2 * j := Nat.mod_eq_of_lt (by omega)
  have h1 : (2 * j + 1) % (2 * m) = 2 * j + 1 := Nat.mod_eq_of_lt (by omega)
  rw [tapL_at (by omega), tapL_at (by omega)]
  cases q
  · have e : highL (psQ false) = haarG := haarG_eq
    rw [e]
    have t1 : tapF xs (psQ false) j (psQ false).length = fbin .add .f32 (fbin .add .f32 0 (fbin .mul .f32 1060439283 (xs.getD (2 * j) 0))) (fbin .mul .f32 1060439283 (xs.getD (2 * j + 1) 0)) := by
      show tapF xs haarP j 2 = _
      rw [tapF_succ, tapF_succ, hl, h0, h1]
      rfl
    have t2 : tapF xs haarG j haarG.length = fbin .add .f32 (fbin .add .f32 0 (fbin .mul .f32 1060439283 (xs.getD (2 * j) 0))) (fbin .mul .f32 3207922931 (xs.getD (2 * j + 1) 0)) := by
      show tapF xs haarG j 2 = _
      rw [tapF_succ, tapF_succ, hl, h0, h1]
      rfl
    rw [t1, t2]
    exact ⟨haar_lo hM (hx _ (by omega)) (hx _ (by omega)), haar_hi hM (hx _ (by omega)) (hx _ (by omega))⟩
  · have e : highL (psQ true) = fourG := fourG_eq
    rw [e]
    have t1 : tapF xs (psQ true) j (psQ true).length = fbin .add .f32 (fbin .add .f32 (fbin .add .f32 (fbin .add .f32 0 (fbin .mul .f32 1056392938 (xs.getD (2 * j) 0))) (fbin .mul .f32 1062610415 (xs.getD (2 * j + 1) 0))) (fbin .mul .f32 1046840824 (xs.getD (2 * ((j + 1) % m)) 0))) (fbin .mul .f32 3187966958 (xs.getD (2 * ((j + 1) % m) + 1) 0)) := by
      show tapF xs fourP j 4 = _
      rw [tapF_succ, tapF_succ, tapF_succ, tapF_succ, hl, h0, h1, n1, n2]
      rfl
    have t2 : tapF xs fourG j fourG.length = fbin .add .f32 (fbin .add .f32 (fbin .add .f32 (fbin .add .f32 0 (fbin .mul .f32 3187966958 (xs.getD (2 * j) 0))) (fbin .mul .f32 3194324472 (xs.getD (2 * j + 1) 0))) (fbin .mul .f32 1062610415 (xs.getD (2 * ((j + 1) % m)) 0))) (fbin .mul .f32 3203876586 (xs.getD (2 * ((j + 1) % m) + 1) 0)) := by
      show tapF xs fourG j 4 = _
      rw [tapF_succ, tapF_succ, tapF_succ, tapF_succ, hl, h0, h1, n1, n2]
      rfl
    rw [t1, t2]
    exact ⟨four_lo hM (hx _ (by omega)) (hx _ (by omega)) (hx _ (by omega)) (hx _ (by omega)), four_hi hM (hx _ (by omega)) (hx _ (by omega)) (hx _ (by omega)) (hx _ (by omega))⟩

/-! ### joined rings, number by number -/
end Go.Proofs.Ytddekdgggpifmaa

namespace Go.Proofs.Ytddekdgggpifmaa
open Go.Gx
set_option maxRecDepth 100000
set_option linter.unusedSimpArgs false
set_option linter.unusedVariables false

theorem psQ_w (q : Bool) : W32 (psQ q) := fun j => by
  match q, j with
  | true, 0 => decide
  | true, 1 => decide
  | true, 2 => decide
  | true, 3 => decide
  | true, j + 4 => simp [psQ, fourP, List.getD_eq_getElem?_getD]
  | false, 0 => decide
  | false, 1 => decide
  | false, j + 2 => simp [psQ, haarP, List.getD_eq_getElem?_getD]
theorem psQ_len (q : Bool) : 2 ≤ (psQ q).length ∧ (psQ q).length ≤ 4 := by cases q <;> decide
theorem all_fin {xs : List Nat} (h : ∀ i, i < xs.length → FinW .f32 (xs.getD i 0)) : xs.all finF = true := (allD 0).2 fun i hi => (h i hi).fin
def finV64 (w : Nat) (v : Rat) : Bool := decide (FloatKind.f64.decode w = .number false (w % 4503599627370496 + 4503599627370496) ((w / 4503599627370496 : Nat) - 1075)) && decide (fval .f64 w = v)
theorem finV64_ok {w : Nat} {v : Rat} (h : finV64 w v = true) : FinW .f64 w ∧ fval .f64 w = v := by
  unfold finV64 at h
  rw [Bool.and_eq_true, decide_eq_true_eq, decide_eq_true_eq] at h
  exact ⟨⟨_, _, _, h.1⟩, h.2⟩
theorem c01_val : FinW .f64 4576918229304087675 ∧ fval .f64 4576918229304087675 = 5764607523034235 / 576460752303423488 := finV64_ok (by decide +kernel)
theorem one_val : FinW .f64 4607182418800017408 ∧ fval .f64 4607182418800017408 = 1 := finV64_ok (by decide +kernel)
theorem rep_at {n i w : Nat} (h : i < n) : (List.replicate n w).getD i 0 = w := by simp [List.getD_eq_getElem?_getD, h]
end Go.Proofs.Ytddekdgggpifmaa

namespace Go.Proofs.Ytddekdgggpifmaa
open Go.Gx
set_option maxRecDepth 100000
set_option linter.unusedSimpArgs false
set_option linter.unusedVariables false

section
variable {xs : List Nat} {c n : Nat} {M : Rat}
theorem bd_mono {x A B : Rat} (h : Bd x A) (hab : A ≤ B) : Bd x B := ⟨by have := h.1; grind_linarith, by have := h.2; grind_linarith⟩
theorem dets_at {ps : List Nat} {t : Nat} (ht : t < n) : (detsS xs ps n).getD t [] = tapL (nowS xs ps t) (highL ps) := getD_range_map ht
end
end Go.Proofs.Ytddekdgggpifmaa

namespace Go.Proofs.Ytddekdgggpifmaa
open Go.Gx
set_option maxRecDepth 100000
set_option linter.unusedSimpArgs false
set_option linter.unusedVariables false

/-! ### sums of alone bands -/
section
variable {xs : List Nat} {c n : Nat} {M : Rat}
/-! ### energies -/
def sq3 (xs : List Nat) : Nat → Nat := foldI (fun i s => fbin .add .f32 s (fbin .mul .f32 (xs.getD i 0) (xs.getD i 0))) 0
end
end Go.Proofs.Ytddekdgggpifmaa

namespace Go.Proofs.Ytddekdgggpifmaa
open Go.Gx
set_option maxRecDepth 100000
set_option linter.unusedSimpArgs false
set_option linter.unusedVariables false

theorem gl_all {s N : Nat} {xs : List Nat} (h : GL s N xs) : xs.all finF = true := all_fin fun i hi => (h i hi).1
theorem QdL.gl {xs : List Nat} (h : QdL xs) : GL 2 32 xs := fun j hj => by
  obtain ⟨a1, a2, q, b1, b2, b3⟩ := (h j hj).ok
  refine ⟨a1, q, ?_, by omega⟩
  have e : p2 (-((2 : Nat) : Int)) = 1 / 4 := p2_q
  unfold vF
  rw [b3, e]
  grind_linarith
/-! ### bounds alone -/
/-- A list's numbers are finite, within a bound. -/
def BL (B : Rat) (xs : List Nat) : Prop := ∀ j, j < xs.length → FinW .f32 (xs.getD j 0) ∧ Bd (vF xs j) B
theorem BL.mono {B C : Rat} {xs : List Nat} (h : BL B xs) (hc : B ≤ C) : BL C xs := fun j hj => ⟨(h j hj).1, bd_mono (h j hj).2 hc⟩
theorem BL.all {B : Rat} {xs : List Nat} (h : BL B xs) : xs.all finF = true := all_fin fun i hi => (h i hi).1
end Go.Proofs.Ytddekdgggpifmaa

namespace Go.Proofs.Ytddekdgggpifmaa
open Go.Gx
set_option maxRecDepth 100000
set_option linter.unusedSimpArgs false
set_option linter.unusedVariables false

theorem QdL.rep {w : Nat} (h : Qd w) (n : Nat) : QdL (List.replicate n w) := fun j hj => by
  have hj' : j < n := by simpa using hj
  rw [rep_at hj']
  exact h
/-! ### lines -/
/-! ### flat bands -/
end Go.Proofs.Ytddekdgggpifmaa

namespace Go.Proofs.Ytddekdgggpifmaa
open Go.Gx
set_option maxRecDepth 100000
set_option linter.unusedSimpArgs false
set_option linter.unusedVariables false

/-- A list on a grid, with a bound, and a list of twice as much. -/
def DL (s N : Nat) (xs ys : List Nat) : Prop := ys.length = xs.length ∧ ∀ i, i < xs.length → Dbl s (N : Rat) (xs.getD i 0) (ys.getD i 0)
structure TapOk (c : Nat) : Prop where
  f : FinW .f32 c
  g : Gz 25 (fval .f32 c)
  b : Bd (fval .f32 c) 1
theorem tapOk_of {c : Nat} (z : Int) (h1 : finF c = true) (h2 : fval .f32 c = (z : Rat) * p2 (-((25 : Nat) : Int))) (h3 : -1 ≤ fval .f32 c ∧ fval .f32 c ≤ 1) : TapOk c := ⟨finW_of h1, ⟨z, h2⟩, h3⟩
theorem rep_N {n : Nat} (h : n ≤ 16777216) : Rep FloatKind.f32.format (n : Rat) := Rep.int (by decide) (n : Int) (by
  have : 2 * FloatKind.f32.format.binade = 16777216 := by decide
  omega)
theorem N_top {n : Nat} (h : n ≤ 16777216) : (n : Rat) ≤ p2 120 := by
  have a := natCast_le h
  have b : ((16777216 : Nat) : Rat) ≤ p2 120 := by unfold p2; decide +kernel
  grind_linarith
theorem dbl_wide {s N M : Nat} {x y : Nat} (h : Dbl s (N : Rat) x y) (hN : N ≤ M) : Dbl s (M : Rat) x y := ⟨h.fx, h.fy, h.g, bd_mono h.b (natCast_le hN), h.two⟩
theorem tap_dbl {xs ys ps : List Nat} {s N j : Nat} (h : DL s N xs ys) (hp : ∀ k, k < ps.length → TapOk (ps.getD k 0)) (h0 : 1 ≤ xs.length) (hs : s + 25 ≤ 126) (hN : 4 * N ≤ 16777216) : ∀ K, K ≤ ps.length → K ≤ 4 → Dbl (s + 25) ((K * N : Nat) : Rat) (tapF xs ps j K) (tapF ys ps j K)
  | 0, _, _ => by
    have e : ((0 * N : Nat) : Rat) = 0 := by rw [Nat.zero_mul]; rfl
    rw [e]
    exact Dbl.zero _ Rat.le_refl
  | K + 1, hK, hK4 => by
    have ih := tap_dbl (j := j) h hp h0 hs hN K (by omega) (by omega)
    have t := hp K (by omega)
    have hi : (2 * j + K) % xs.length < xs.length := Nat.mod_lt _ (by omega)
    have d := h.2 _ hi
    have hKN : K * N ≤ 3 * N := Nat.mul_le_mul_right N (by omega)
    have e : (((K + 1) * N : Nat) : Rat) = ((K * N : Nat) : Rat) + (N : Rat) := by rw [Nat.add_mul, Nat.one_mul, Rat.natCast_add]
    have hb := bd_mul t.b d.b
    have m := Dbl.mul t.f t.g d hs (rep_N (n := N) (by omega)) ⟨by have := hb.1; grind_linarith, by have := hb.2; grind_linarith⟩ (N_top (by omega))
    rw [tapF_succ, tapF_succ, h.1]
    refine Dbl.add ih m hs (rep_N ?_) (by rw [e]; exact Rat.le_refl) (N_top ?_)
    · rw [Nat.add_mul]; omega
    · rw [Nat.add_mul]; omega
theorem tapL_dbl {xs ys ps : List Nat} {s N : Nat} (h : DL s N xs ys) (hp : ∀ k, k < ps.length → TapOk (ps.getD k 0)) (hl : ps.length ≤ 4) (hs : s + 25 ≤ 126) (hN : 4 * N ≤ 16777216) : DL (s + 25) (4 * N) (tapL xs ps) (tapL ys ps) := by
  refine ⟨by rw [tapL_len, tapL_len, h.1], fun i hi => ?_⟩
  rw [tapL_len] at hi
  rw [tapL_at hi, tapL_at (by rw [h.1]; exact hi)]
  exact dbl_wide (tap_dbl h hp (by omega) hs hN ps.length (Nat.le_refl _) hl) (Nat.mul_le_mul_right N hl)
theorem haar_tap1 : TapOk 1060439283 := tapOk_of 23726566 (by decide +kernel) (by unfold p2; decide +kernel) (by decide +kernel)
theorem haar_tap2 : TapOk 3207922931 := tapOk_of (-23726566) (by decide +kernel) (by unfold p2; decide +kernel) (by decide +kernel)
theorem four_tap0 : TapOk 1056392938 := tapOk_of 16205546 (by decide +kernel) (by unfold p2; decide +kernel) (by decide +kernel)
theorem four_tap1 : TapOk 1062610415 := tapOk_of 28068830 (by decide +kernel) (by unfold p2; decide +kernel) (by decide +kernel)
theorem four_tap2 : TapOk 1046840824 := tapOk_of 7521020 (by decide +kernel) (by unfold p2; decide +kernel) (by decide +kernel)
theorem four_tap3 : TapOk 3187966958 := tapOk_of (-4342263) (by decide +kernel) (by unfold p2; decide +kernel) (by decide +kernel)
theorem neg_tap {c d : Nat} (h : TapOk c) (h1 : finF d = true) (h2 : fval .f32 d = -fval .f32 c) : TapOk d := by
  obtain ⟨z, hz⟩ := h.g
  obtain ⟨b1, b2⟩ := h.b
  refine ⟨finW_of h1, ⟨-z, by rw [h2, hz, Rat.intCast_neg]; grind_linarith⟩, ?_⟩
  rw [h2]
  exact ⟨by grind_linarith, by grind_linarith⟩
theorem psQ_tap (q : Bool) : (psQ q).length ≤ 4 ∧ ∀ k, k < (psQ q).length → TapOk ((psQ q).getD k 0) := by
  cases q
  · refine ⟨by decide, fun k hk => ?_⟩
    match k, hk with
    | 0, _ => exact haar_tap1
    | 1, _ => exact haar_tap1
  · refine ⟨by decide, fun k hk => ?_⟩
    match k, hk with
    | 0, _ => exact four_tap0
    | 1, _ => exact four_tap1
    | 2, _ => exact four_tap2
    | 3, _ => exact four_tap3
theorem high_tap (q : Bool) : (highL (psQ q)).length ≤ 4 ∧ ∀ k, k < (highL (psQ q)).length → TapOk ((highL (psQ q)).getD k 0) := by
  cases q
  · have e : highL (psQ false) = haarG := haarG_eq
    rw [e]
    refine ⟨by decide, fun k hk => ?_⟩
    match k, hk with
    | 0, _ => exact haar_tap1
    | 1, _ => exact haar_tap2
  · have e : highL (psQ true) = fourG := fourG_eq
    rw [e]
    refine ⟨by decide, fun k hk => ?_⟩
    match k, hk with
    | 0, _ => exact four_tap3
    | 1, _ => exact neg_tap four_tap2 (by decide +kernel) (by decide +kernel)
    | 2, _ => exact four_tap1
    | 3, _ => exact neg_tap four_tap0 (by decide +kernel) (by decide +kernel)
/-- Levels of a list and of its double. -/
theorem levels_dbl (q : Bool) {xs ys : List Nat} (h : DL 2 8 xs ys) : (DL 27 32 (nowS xs (psQ q) 1) (nowS ys (psQ q) 1) ∧ DL 52 128 (nowS xs (psQ q) 2) (nowS ys (psQ q) 2)) ∧
    DL 27 32 (tapL (nowS xs (psQ q) 0) (highL (psQ q))) (tapL (nowS ys (psQ q) 0) (highL (psQ q))) ∧ DL 52 128 (tapL (nowS xs (psQ q) 1) (highL (psQ q))) (tapL (nowS ys (psQ q) 1) (highL (psQ q))) ∧ DL 77 512 (tapL (nowS xs (psQ q) 2) (highL (psQ q))) (tapL (nowS ys (psQ q) 2) (highL (psQ q))) := by
  obtain ⟨p1, p2⟩ := psQ_tap q
  obtain ⟨g1, g2⟩ := high_tap q
  have a1 : DL 27 32 (nowS xs (psQ q) 1) (nowS ys (psQ q) 1) := tapL_dbl h p2 p1 (by omega) (by omega)
  have a2 : DL 52 128 (nowS xs (psQ q) 2) (nowS ys (psQ q) 2) := tapL_dbl a1 p2 p1 (by omega) (by omega)
  exact ⟨⟨a1, a2⟩, tapL_dbl h g2 g1 (by omega) (by omega), tapL_dbl a1 g2 g1 (by omega) (by omega), tapL_dbl a2 g2 g1 (by omega) (by omega)⟩
/-- Energies of a list and of its double. -/
theorem sq_quad {xs ys : List Nat} {s N : Nat} (h : DL s N xs ys) (hs : s + s ≤ 126) (hN : 16 * (N * N) ≤ 16777216) (hl : xs.length ≤ 16) : ∀ K, K ≤ xs.length → Quad (s + s) ((K * (N * N) : Nat) : Rat) (sq3 xs K) (sq3 ys K)
  | 0, _ => by
    have e : ((0 * (N * N) : Nat) : Rat) = 0 := by rw [Nat.zero_mul]; rfl
    rw [e]
    exact Quad.zero _ Rat.le_refl
  | K + 1, hK => by
    have ih := sq_quad h hs hN hl K (by omega)
    have d := h.2 K (by omega)
    have hKN : K * (N * N) ≤ 15 * (N * N) := Nat.mul_le_mul_right _ (by omega)
    have e : (((K + 1) * (N * N) : Nat) : Rat) = ((K * (N * N) : Nat) : Rat) + ((N * N : Nat) : Rat) := by rw [Nat.add_mul, Nat.one_mul, Rat.natCast_add]
    have h119 : ((16777216 : Nat) : Rat) ≤ p2 119 := by unfold p2; decide +kernel
    have t : ∀ n : Nat, n ≤ 16777216 → (n : Rat) ≤ p2 119 := fun n hn => by
      have := natCast_le hn
      grind_linarith
    have m := d.sq hs (rep_N (n := N * N) (by omega)) (by rw [Rat.natCast_mul]; exact Rat.le_refl) (t _ (by omega))
    have e1 : sq3 xs (K + 1) = fbin .add .f32 (sq3 xs K) (fbin .mul .f32 (xs.getD K 0) (xs.getD K 0)) := rfl
    have e2 : sq3 ys (K + 1) = fbin .add .f32 (sq3 ys K) (fbin .mul .f32 (ys.getD K 0) (ys.getD K 0)) := rfl
    rw [e1, e2]
    refine Quad.add ih m hs (rep_N ?_) (by rw [e]; exact Rat.le_refl) (t _ ?_)
    · rw [Nat.add_mul]; omega
    · rw [Nat.add_mul]; omega
theorem en_quad {xs ys : List Nat} {s N : Nat} (h : DL s N xs ys) (hs : s + s ≤ 126) (hN : 16 * (N * N) ≤ 16777216) (hl : xs.length ≤ 16) : Quad (s + s) ((16 * (N * N) : Nat) : Rat) (squaresF xs) (squaresF ys) := by
  have q := sq_quad h hs hN hl xs.length (Nat.le_refl _)
  have e1 : sq3 xs xs.length = squaresF xs := rfl
  have e2 : sq3 ys xs.length = squaresF ys := by rw [← h.1]; rfl
  rw [e1, e2] at q
  exact ⟨q.fx, q.fy, q.g, ⟨q.b.1, Rat.le_trans q.b.2 (natCast_le (Nat.mul_le_mul_right _ hl))⟩, q.four⟩
/-- Constant lists: the third energy is nothing, or not small. -/
def constE (w : Nat) : Nat := squaresF (tapL (nowS (List.replicate 16 w) fourP 2) fourG)
theorem const_three : ∀ q : Fin 65, constE (quartW ((q.val : Int) - 32)) = 0 ∨ 1 / 1329227995784915872903807060280344576 ≤ fval .f32 (constE (quartW ((q.val : Int) - 32))) := by decide +kernel
end Go.Proofs.Ytddekdgggpifmaa

namespace Go.Proofs.Ytddekdgggpifmaa
open Go.Gx
set_option maxRecDepth 100000
set_option linter.unusedSimpArgs false
set_option linter.unusedVariables false

/-! ### a number's logarithm by two -/
theorem yW_ok {a : Nat} (fa : FinW .f32 a) (pa : p2 (-149) ≤ fval .f32 a) : Yv (fbin .quo .f32 (logR a) 1060205080) (fval .f64 (logW (f64 a))) := by
  have hp := p2_pos (-149)
  have ha := fa.bd.2
  have h128 := top64
  obtain ⟨f1, f2⟩ := f64_fin fa
  have hz : fcB .eql .f32 a 0 = false := by
    rw [fcB_eql fa finW_zero.1, finW_zero.2]
    exact decide_eq_false (by intro h; rw [h] at pa; grind_linarith)
  obtain ⟨z1, z2, z3, _, e1⟩ := logZ_val fa pa
  obtain ⟨s1, s2, s3, _⟩ := logS_val z1 z2 z3
  obtain ⟨fw, up, dn⟩ := logW_near fa pa
  have hE1 : (logE (f64 a) : Rat) ≤ 200 := by
    have : (logE (f64 a) : Rat) ≤ ((200 : Int) : Rat) := Rat.intCast_le_intCast.2 (by omega)
    exact this
  have hE2 : -200 ≤ (logE (f64 a) : Rat) := by
    have : ((-200 : Int) : Rat) ≤ (logE (f64 a) : Rat) := Rat.intCast_le_intCast.2 (by omega)
    exact this
  have hV : Bd (fval .f64 (logW (f64 a))) 140 := by
    obtain ⟨l1, l2⟩ := ln_bd
    obtain ⟨m1, m2⟩ := bd_mul (show Bd (logE (f64 a) : Rat) 200 from ⟨hE2, hE1⟩) (show Bd lnR (6931472 / 10000000) from ⟨by grind_linarith, l2⟩)
    generalize (logE (f64 a) : Rat) * lnR = t at *
    rcases Rat.le_total (a := 0) (b := fval .f64 (logS (logZ (f64 a)))) with c | c
    · obtain ⟨u1, u2⟩ := up c
      constructor <;> grind_linarith
    · obtain ⟨u1, u2⟩ := dn c
      constructor <;> grind_linarith
  have ht : (140 : Rat) ≤ topK .f32 := by unfold topK topV p2; decide +kernel
  obtain ⟨r, hr, hg⟩ := f2f_fin fw (show Bd (fval .f64 (logW (f64 a))) (topK .f32) from ⟨by have := hV.1; grind_linarith, by have := hV.2; grind_linarith⟩)
  have hR : logR a = r := by
    unfold logR
    rw [hz, hr]
    rfl
  rw [hR]
  generalize fval .f64 (logW (f64 a)) = V at *
  obtain ⟨r1, r2, r3⟩ := near_of (k := .f32) (M := 140) (okm (by grind_linarith) (by grind_linarith)) hV (fun _ => hg)
  simp only [epsK] at r2 r3
  obtain ⟨c1, c2⟩ := wln_val
  obtain ⟨v1, v2⟩ := hV
  have hq : fval .f32 r / (11629080 / 16777216) * (11629080 / 16777216) = fval .f32 r := Rat.div_mul_cancel (by decide +kernel)
  generalize fval .f32 r / (11629080 / 16777216) = q at hq
  obtain ⟨q1, q2, q3⟩ := quo_near (k := .f32) (M := 256) (q := q) r1 c1 (by rw [c2]; decide +kernel) (by rw [c2]; exact hq) (okm (by grind_linarith) (by grind_linarith)) (by constructor <;> grind_linarith)
  simp only [epsK] at q2 q3
  generalize fbin .quo .f32 r 1060205080 = y at *
  refine ⟨q1, ⟨by grind_linarith, by grind_linarith⟩, ?_⟩
  have hl : lnR = 6243314768165359 / 9007199254740992 := rfl
  rw [hl]
  constructor <;> grind_linarith
theorem yW_zero {a : Nat} (fa : FinW .f32 a) (h : fval .f32 a = 0) : fbin .quo .f32 (logR a) 1060205080 = 4286578688 := by
  have hz : fcB .eql .f32 a 0 = true := by
    rw [fcB_eql fa finW_zero.1, finW_zero.2, h]
    exact decide_eq_true rfl
  unfold logR
  rw [hz, if_pos rfl]
  decide +kernel
theorem ruF_three (p : List Nat) (ys : List (List Nat)) : ruF p ys 3 = slopeW (ruY p ys 0) (ruY p ys 1) (ruY p ys 2) := by
  have h1 : ruA 3 = i2f .f32 ((3 : Nat) : Int) := by decide +kernel
  have h2 : fbin .sub .f32 (fbin .mul .f32 (i2f .f32 ((3 : Nat) : Int)) (ruC 3)) (fbin .mul .f32 (i2f .f32 ((3 : Nat) : Int)) (i2f .f32 ((3 : Nat) : Int))) = 1086324736 := by decide +kernel
  have hD : ruD p ys 3 = slD (ruY p ys 0) (ruY p ys 1) (ruY p ys 2) := rfl
  have hB : ruB p ys 3 = slB (ruY p ys 0) (ruY p ys 1) (ruY p ys 2) := rfl
  unfold ruF slopeW
  rw [h1, h2, hD, hB]
/-! ### energies of levels -/
theorem rep_div8 {v : Rat} (h : Rep FloatKind.f32.format v) (g : Gz 54 v) : Rep FloatKind.f32.format (v / 8) := by
  obtain ⟨n, j, h1, h2, h3⟩ := h
  have hL : FloatKind.f32.format.leastPlace = -149 := by decide
  have hB : 2 * FloatKind.f32.format.binade = 16777216 := by decide
  rw [hL] at h3
  rw [hB] at h2
  rcases ilg j (-146) with c | c
  · obtain ⟨z, hz⟩ := g
    have hz0 : v = 0 := by
      have a1 : (n : Rat) ≤ ((16777216 : Int) : Rat) := Rat.intCast_le_intCast.2 (by omega)
      have a2 : ((-16777216 : Int) : Rat) ≤ (n : Rat) := Rat.intCast_le_intCast.2 (by omega)
      have hp := p2_pos j
      have b1 := Rat.mul_le_mul_of_nonneg_right a1 (Rat.le_of_lt hp)
      have b2 := Rat.mul_le_mul_of_nonneg_right a2 (Rat.le_of_lt hp)
      have hj : p2 j ≤ p2 (-147) := p2_le (by omega)
      have e1 : ((16777216 : Int) : Rat) = 16777216 := rfl
      have e2 : ((-16777216 : Int) : Rat) = -16777216 := rfl
      rw [e1] at b1
      rw [e2] at b2
      have k : 16777216 * p2 (-147) < p2 (-((54 : Nat) : Int)) := by unfold p2; decide +kernel
      rcases Int.lt_trichotomy z 0 with q | q | q
      · exfalso
        have a : (z : Rat) ≤ ((-1 : Int) : Rat) := Rat.intCast_le_intCast.2 (by omega)
        have b := Rat.mul_le_mul_of_nonneg_right a (Rat.le_of_lt (p2_pos (-((54 : Nat) : Int))))
        have e : ((-1 : Int) : Rat) = -1 := rfl
        rw [e] at b
        rw [← h1] at b1 b2
        rw [← hz] at b
        grind_linarith
      · rw [hz, q]
        show (0 : Rat) * _ = 0
        exact Rat.zero_mul _
      · exfalso
        have a : ((1 : Int) : Rat) ≤ (z : Rat) := Rat.intCast_le_intCast.2 (by omega)
        have b := Rat.mul_le_mul_of_nonneg_right a (Rat.le_of_lt (p2_pos (-((54 : Nat) : Int))))
        have e : ((1 : Int) : Rat) = 1 := rfl
        rw [e] at b
        rw [← h1] at b1 b2
        rw [← hz] at b
        grind_linarith
    rw [hz0]
    exact ⟨0, 0, by decide +kernel, by decide, by rw [hL]; decide⟩
  · refine ⟨n, j - 3, ?_, by rw [hB]; exact h2, by rw [hL]; omega⟩
    have e : p2 j = 8 * p2 (j - 3) := by
      have e8 : p2 3 = 8 := by unfold p2; decide +kernel
      rw [show j = 3 + (j - 3) by omega, p2_add, e8, show 3 + (j - 3) - 3 = j - 3 by omega]
    rw [h1, e]
    grind_linarith
theorem w8_val : FinW .f32 (i2f .f32 ((8 : Nat) : Int)) ∧ fval .f32 (i2f .f32 ((8 : Nat) : Int)) = 8 := finV32_ok (s := false) (m := 8388608) (e := -20) (by decide +kernel)
theorem w4_val : FinW .f32 (i2f .f32 ((4 : Nat) : Int)) ∧ fval .f32 (i2f .f32 ((4 : Nat) : Int)) = 4 := finV32_ok (s := false) (m := 8388608) (e := -21) (by decide +kernel)
theorem eighth {e : Nat} (h : FinW .f32 e) (g : Gz 54 (fval .f32 e)) (b : Bd (fval .f32 e) 16777216) : FinW .f32 (fbin .quo .f32 e (i2f .f32 ((8 : Nat) : Int))) ∧ fval .f32 (fbin .quo .f32 e (i2f .f32 ((8 : Nat) : Int))) = fval .f32 e / 8 := by
  obtain ⟨t1, t2⟩ := w8_val
  obtain ⟨b1, b2⟩ := b
  have h120 : 16777216 ≤ topK .f32 := by unfold topK topV p2; decide +kernel
  have q := fdiv_val (q := fval .f32 e / 8) h t1 (by rw [t2]; decide) (by rw [t2]; exact Rat.div_mul_cancel (by decide)) ⟨by grind_linarith, by grind_linarith⟩
  exact ⟨q.1, q.exact (rep_div8 h.rep g)⟩
theorem fourth {e : Nat} (h : FinW .f32 e) (g : Gz 104 (fval .f32 e)) (b : 0 < fval .f32 e ∧ fval .f32 e ≤ 16777216) : FinW .f32 (fbin .quo .f32 e (i2f .f32 ((4 : Nat) : Int))) ∧ p2 (-149) ≤ fval .f32 (fbin .quo .f32 e (i2f .f32 ((4 : Nat) : Int))) := by
  obtain ⟨t1, t2⟩ := w4_val
  obtain ⟨b1, b2⟩ := b
  have h120 : 16777216 ≤ topK .f32 := by unfold topK topV p2; decide +kernel
  have q := fdiv_val (q := fval .f32 e / 4) h t1 (by rw [t2]; decide) (by rw [t2]; exact Rat.div_mul_cancel (by decide)) ⟨by grind_linarith, by grind_linarith⟩
  refine ⟨q.1, q.ge (Rep.p2 (by decide)) ?_⟩
  obtain ⟨z, hz⟩ := g
  have hp := p2_pos (-((104 : Nat) : Int))
  have z1 : 1 ≤ z := by
    rcases ilg z 1 with c | c
    · exfalso
      have a : (z : Rat) ≤ ((0 : Int) : Rat) := Rat.intCast_le_intCast.2 (by omega)
      have b := Rat.mul_le_mul_of_nonneg_right a (Rat.le_of_lt hp)
      have e0 : ((0 : Int) : Rat) = 0 := rfl
      rw [e0, ← hz] at b
      grind_linarith
    · exact c
  have a : ((1 : Int) : Rat) ≤ (z : Rat) := Rat.intCast_le_intCast.2 z1
  have b := Rat.mul_le_mul_of_nonneg_right a (Rat.le_of_lt hp)
  have e1 : ((1 : Int) : Rat) = 1 := rfl
  rw [e1, ← hz] at b
  have k : 4 * p2 (-149) ≤ p2 (-((104 : Nat) : Int)) := by unfold p2; decide +kernel
  grind_linarith
/-! ### a level's energy is no less than one of its squares -/
theorem sq_in {xs : List Nat} {s N : Nat} {ys : List Nat} (h : DL s N xs ys) (hs : s + s ≤ 126) (hN : 16 * (N * N) ≤ 16777216) (hl : xs.length ≤ 16) {i : Nat} : ∀ K, K ≤ xs.length → i < K → fval .f32 (fbin .mul .f32 (xs.getD i 0) (xs.getD i 0)) ≤ fval .f32 (sq3 xs K)
  | 0, _, hi => by omega
  | K + 1, hK, hi => by
    have a := sq_quad h hs hN hl K (by omega)
    have d := h.2 K (by omega)
    have h119 : ((16777216 : Nat) : Rat) ≤ p2 119 := by unfold p2; decide +kernel
    have hn : N * N ≤ 16777216 := by omega
    have m := d.sq hs (rep_N (n := N * N) hn) (by rw [Rat.natCast_mul]; exact Rat.le_refl) (Rat.le_trans (natCast_le hn) h119)
    have e1 : sq3 xs (K + 1) = fbin .add .f32 (sq3 xs K) (fbin .mul .f32 (xs.getD K 0) (xs.getD K 0)) := rfl
    have ht : 16 * p2 119 ≤ topK .f32 := by unfold topK topV p2; decide +kernel
    have a1 := a.b
    have m1 := m.b
    have hKN : K * (N * N) ≤ 16777216 := Nat.le_trans (Nat.mul_le_mul_right _ (by omega : K ≤ 16)) hN
    have c1 := Rat.le_trans (natCast_le hKN) h119
    have c2 := Rat.le_trans (natCast_le hn) h119
    have hp := p2_pos 119
    have g := fadd_val a.fx m.fx (show Bd (fval .f32 (sq3 xs K) + fval .f32 (fbin .mul .f32 (xs.getD K 0) (xs.getD K 0))) (topK .f32) from ⟨by grind_linarith, by grind_linarith⟩)
    rw [e1]
    by_cases c : i = K
    · subst c
      exact g.ge m.fx.rep (by grind_linarith)
    · have ih := sq_in h hs hN hl (i := i) K (by omega) (by omega)
      have := g.ge a.fx.rep (by grind_linarith)
      grind_linarith
theorem sq_zero {xs : List Nat} (h : ∀ i, i < xs.length → FinW .f32 (xs.getD i 0) ∧ fval .f32 (xs.getD i 0) = 0) : ∀ K, K ≤ xs.length → FinW .f32 (sq3 xs K) ∧ fval .f32 (sq3 xs K) = 0
  | 0, _ => finW_zero
  | K + 1, hK => by
    obtain ⟨a1, a2⟩ := sq_zero h K (by omega)
    obtain ⟨b1, b2⟩ := h K (by omega)
    have e1 : sq3 xs (K + 1) = fbin .add .f32 (sq3 xs K) (fbin .mul .f32 (xs.getD K 0) (xs.getD K 0)) := rfl
    have rz : Rep FloatKind.f32.format 0 := Rep.int (by decide) 0 (by decide)
    have ht : (0 : Rat) ≤ topK .f32 := by unfold topK topV p2; decide +kernel
    have z0 : (0 : Rat) * 0 = 0 := by decide +kernel
    have z1 : (0 : Rat) + 0 = 0 := by decide +kernel
    have m := fmul_val b1 b1 (by rw [b2, z0]; constructor <;> grind_linarith)
    rw [b2, z0] at m
    have m2 := m.exact rz
    have g := fadd_val a1 m.1 (by rw [a2, m2, z1]; constructor <;> grind_linarith)
    rw [a2, m2, z1] at g
    rw [e1]
    exact ⟨g.1, g.exact rz⟩
/-- High numbers by Haar of two that are the same. -/
theorem haar_same : ∀ q : Fin 65, finF (fbin .add .f32 (fbin .add .f32 0 (fbin .mul .f32 1060439283 (quartW ((q.val : Int) - 32)))) (fbin .mul .f32 3207922931 (quartW ((q.val : Int) - 32)))) = true ∧
    fval .f32 (fbin .add .f32 (fbin .add .f32 0 (fbin .mul .f32 1060439283 (quartW ((q.val : Int) - 32)))) (fbin .mul .f32 3207922931 (quartW ((q.val : Int) - 32)))) = 0 := by decide +kernel
theorem const_at (n : Nat) (h : n < 65) : constE (quartW ((n : Int) - 32)) = 0 ∨ 1 / 1329227995784915872903807060280344576 ≤ fval .f32 (constE (quartW ((n : Int) - 32))) := const_three ⟨n, h⟩
theorem const_all {z : Int} (h0 : -32 ≤ z) (h1 : z ≤ 32) : constE (quartW z) = 0 ∨ p2 (-120) ≤ fval .f32 (constE (quartW z)) := by
  obtain ⟨n, hn, rfl⟩ : ∃ n : Nat, n < 65 ∧ z = (n : Int) - 32 := ⟨(z + 32).toNat, by omega, by omega⟩
  have e : p2 (-120) = 1 / 1329227995784915872903807060280344576 := by unfold p2; decide +kernel
  rw [e]
  exact const_at n hn
theorem flat_third (w : Nat) : squaresF (tapL (nowS (List.replicate 16 w) (psQ true) 2) (highL (psQ true))) = constE w := by
  have e : highL (psQ true) = fourG := fourG_eq
  rw [e]
  unfold constE psQ
  rfl
/-- Lists that are not flat have a first energy that isn't small; flat ones have no third energy that is small. -/
theorem first_big (q : Bool) {L D : List Nat} (hQ : QdL L) (hl : L.length = 16) (hD : DL 2 8 L D) (h0 : 0 < fval .f32 (squaresF (tapL L (highL (psQ q))))) (h2 : 0 < fval .f32 (squaresF (tapL (nowS L (psQ q) 2) (highL (psQ q))))) (h3 : fval .f32 (squaresF (tapL (nowS L (psQ q) 2) (highL (psQ q)))) < p2 (-134)) :
    p2 (-29) ≤ fval .f32 (squaresF (tapL L (highL (psQ q)))) := by
  have ⟨_, dl, _⟩ := levels_dbl q hD
  rw [nowS_zero, nowS_zero] at dl
  have lh : (tapL L (highL (psQ q))).length = 8 := by rw [tapL_len, hl]
  obtain ⟨x, hx⟩ : ∃ x : Nat → Int, ∀ i, (-32 ≤ x i ∧ x i ≤ 32) ∧ (i < 16 → L.getD i 0 = quartW (x i) ∧ FinW .f32 (L.getD i 0) ∧ vF L i = (x i : Rat) / 4) := by
    suffices h : ∀ i, ∃ y : Int, (-32 ≤ y ∧ y ≤ 32) ∧ (i < 16 → L.getD i 0 = quartW y ∧ FinW .f32 (L.getD i 0) ∧ vF L i = (y : Rat) / 4) from ⟨fun i => (h i).choose, fun i => (h i).choose_spec⟩
    intro i
    by_cases c : i < 16
    · obtain ⟨f, _, p, p0, p1, pv⟩ := (hQ i (by omega)).ok
      obtain ⟨r, r0, r1, rv⟩ := hQ i (by omega)
      have e : r = p := by
        obtain ⟨_, _, e2⟩ := quartW_all ⟨(r + 32).toNat, by omega⟩
        have e3 : (((r + 32).toNat : Nat) : Int) - 32 = r := by omega
        simp only [e3] at e2
        rw [← rv, pv] at e2
        have : (p : Rat) = (r : Rat) := by grind_linarith
        exact (Rat.intCast_inj.1 this).symm
      subst e
      exact ⟨r, ⟨r0, r1⟩, fun _ => ⟨rv, f, pv⟩⟩
    · exact ⟨0, ⟨by omega, by omega⟩, fun h => absurd h c⟩
  have hxb : ∀ i, i < 2 * 8 → FinW .f32 (L.getD i 0) ∧ Bd (vF L i) 8 := fun i hi => by
    obtain ⟨⟨a, b⟩, c⟩ := hx i
    obtain ⟨c1, c2, c3⟩ := c (by omega)
    have a' : ((-32 : Int) : Rat) ≤ (x i : Rat) := Rat.intCast_le_intCast.2 a
    have b' : (x i : Rat) ≤ ((32 : Int) : Rat) := Rat.intCast_le_intCast.2 b
    have e1 : ((-32 : Int) : Rat) = -32 := rfl
    have e2 : ((32 : Int) : Rat) = 32 := rfl
    rw [e1] at a'
    rw [e2] at b'
    exact ⟨c2, by rw [c3]; constructor <;> grind_linarith⟩
  have near := fun (j : Nat) (hj : j < 8) => (split_near q (m := 8) (M := 8) ⟨by grind_linarith, by grind_linarith⟩ hl hxb hj).2
  have big : ∀ j, j < 8 → (∃ v : Rat, Nr ((tapL L (highL (psQ q))).getD j 0) v (2 * 8 / 1000000) ∧ (745 / 10000000 ≤ v ∨ v ≤ -(745 / 10000000))) → p2 (-29) ≤ fval .f32 (squaresF (tapL L (highL (psQ q)))) := fun j hj ⟨v, ⟨n1, n2, n3⟩, hv⟩ => by
    have k := sq_in dl (by omega) (by omega) (by omega) (i := j) (tapL L (highL (psQ q))).length (Nat.le_refl _) (by omega)
    have e1 : sq3 (tapL L (highL (psQ q))) (tapL L (highL (psQ q))).length = squaresF (tapL L (highL (psQ q))) := rfl
    rw [e1] at k
    refine Rat.le_trans ?_ k
    have d := dl.2 j (by omega)
    have hb := d.b
    have e32 : ((32 : Nat) : Rat) = 32 := rfl
    rw [e32] at hb
    have hsq := sq_bd hb
    have h0 := sq_nonneg (fval .f32 ((tapL L (highL (psQ q))).getD j 0))
    have ht : (1024 : Rat) ≤ topK .f32 := by unfold topK topV p2; decide +kernel
    have g := fmul_val n1 n1 (show Bd _ (topK .f32) from ⟨by grind_linarith, by grind_linarith⟩)
    refine g.ge (Rep.p2 (by decide)) ?_
    have e29 : p2 (-29) = 1 / 536870912 := by unfold p2; decide +kernel
    rw [e29]
    generalize fval .f32 ((tapL L (highL (psQ q))).getD j 0) = d at *
    rcases hv with hv | hv
    · have a : 585 / 10000000 ≤ d := by grind_linarith
      have b := Rat.mul_le_mul_of_nonneg_left a (show 0 ≤ d by grind_linarith)
      have c := Rat.mul_le_mul_of_nonneg_right a (show (0 : Rat) ≤ 585 / 10000000 by grind_linarith)
      grind_linarith
    · have a : 585 / 10000000 ≤ -d := by grind_linarith
      have b := Rat.mul_le_mul_of_nonneg_left a (show 0 ≤ -d by grind_linarith)
      have c := Rat.mul_le_mul_of_nonneg_right a (show (0 : Rat) ≤ 585 / 10000000 by grind_linarith)
      have e : -d * -d = d * d := by grind_linarith
      grind_linarith
  by_cases hb : p2 (-29) ≤ fval .f32 (squaresF (tapL L (highL (psQ q))))
  · exact hb
  exfalso
  cases q
  · -- Haar: all pairs are the same
    have same : ∀ j, j < 8 → x (2 * j) = x (2 * j + 1) := fun j hj => by
      have n := near j hj
      obtain ⟨_, c0⟩ := hx (2 * j)
      obtain ⟨_, c1⟩ := hx (2 * j + 1)
      obtain ⟨_, _, v0⟩ := c0 (by omega)
      obtain ⟨_, _, v1⟩ := c1 (by omega)
      have hq : hiQ false (vF L (2 * j)) (vF L (2 * j + 1)) (vF L (2 * ((j + 1) % 8))) (vF L (2 * ((j + 1) % 8) + 1)) = 11863283 / 16777216 * ((x (2 * j) : Rat) / 4) + -11863283 / 16777216 * ((x (2 * j + 1) : Rat) / 4) := by rw [← v0, ← v1]; rfl
      rw [hq] at n
      rcases Int.lt_trichotomy (x (2 * j)) (x (2 * j + 1)) with c | c | c
      · exact absurd (big j hj ⟨_, n, .inr (by
          have a : ((x (2 * j) + 1 : Int) : Rat) ≤ (x (2 * j + 1) : Rat) := Rat.intCast_le_intCast.2 (by omega)
          rw [Rat.intCast_add] at a
          have e1 : ((1 : Int) : Rat) = 1 := rfl
          rw [e1] at a
          grind_linarith)⟩) hb
      · exact c
      · exact absurd (big j hj ⟨_, n, .inl (by
          have a : ((x (2 * j + 1) + 1 : Int) : Rat) ≤ (x (2 * j) : Rat) := Rat.intCast_le_intCast.2 (by omega)
          rw [Rat.intCast_add] at a
          have e1 : ((1 : Int) : Rat) = 1 := rfl
          rw [e1] at a
          grind_linarith)⟩) hb
    have hz : ∀ j, j < (tapL L (highL (psQ false))).length → FinW .f32 ((tapL L (highL (psQ false))).getD j 0) ∧ fval .f32 ((tapL L (highL (psQ false))).getD j 0) = 0 := fun j hj => by
      rw [lh] at hj
      have e : highL (psQ false) = haarG := haarG_eq
      rw [tapL_at (by omega), e]
      have t2 : tapF L haarG j haarG.length = fbin .add .f32 (fbin .add .f32 0 (fbin .mul .f32 1060439283 (L.getD (2 * j) 0))) (fbin .mul .f32 3207922931 (L.getD (2 * j + 1) 0)) := by
        show tapF L haarG j 2 = _
        rw [tapF_succ, tapF_succ, hl, Nat.mod_eq_of_lt (by omega), Nat.mod_eq_of_lt (by omega)]
        rfl
      obtain ⟨⟨x0, x1⟩, c0⟩ := hx (2 * j)
      obtain ⟨_, c1⟩ := hx (2 * j + 1)
      rw [t2, (c0 (by omega)).1, (c1 (by omega)).1, ← same j hj]
      obtain ⟨a, b⟩ := haar_same ⟨(x (2 * j) + 32).toNat, by omega⟩
      have e3 : (((x (2 * j) + 32).toNat : Nat) : Int) - 32 = x (2 * j) := by omega
      simp only [e3] at a b
      exact ⟨finW_of a, b⟩
    have := (sq_zero hz (tapL L (highL (psQ false))).length (Nat.le_refl _)).2
    have e1 : sq3 (tapL L (highL (psQ false))) (tapL L (highL (psQ false))).length = squaresF (tapL L (highL (psQ false))) := rfl
    rw [e1] at this
    grind_linarith
  · -- Four: the ring is constant
    have flat : ∀ j, j < 8 → x (2 * j) - 3 * x (2 * j + 1) + 3 * x (2 * ((j + 1) % 8)) - x (2 * ((j + 1) % 8) + 1) = 0 ∧ -x (2 * j) + x (2 * j + 1) + x (2 * ((j + 1) % 8)) - x (2 * ((j + 1) % 8) + 1) = 0 := fun j hj => by
      have n := near j hj
      have hm : (j + 1) % 8 < 8 := Nat.mod_lt _ (by omega)
      obtain ⟨b0, c0⟩ := hx (2 * j)
      obtain ⟨b1, c1⟩ := hx (2 * j + 1)
      obtain ⟨b2, c2⟩ := hx (2 * ((j + 1) % 8))
      obtain ⟨b3, c3⟩ := hx (2 * ((j + 1) % 8) + 1)
      obtain ⟨_, _, v0⟩ := c0 (by omega)
      obtain ⟨_, _, v1⟩ := c1 (by omega)
      obtain ⟨_, _, v2⟩ := c2 (by omega)
      obtain ⟨_, _, v3⟩ := c3 (by omega)
      generalize (j + 1) % 8 = j' at *
      have hq : hiQ true (vF L (2 * j)) (vF L (2 * j + 1)) (vF L (2 * j')) (vF L (2 * j' + 1)) = hiR ((x (2 * j) : Rat) / 4) ((x (2 * j + 1) : Rat) / 4) ((x (2 * j') : Rat) / 4) ((x (2 * j' + 1) : Rat) / 4) := by rw [← v0, ← v1, ← v2, ← v3]; rfl
      rw [hq] at n
      unfold hiR at n
      obtain ⟨N, hN⟩ : ∃ N, N = -4342263 * x (2 * j) - 7521020 * x (2 * j + 1) + 28068830 * x (2 * j') - 16205546 * x (2 * j' + 1) := ⟨_, rfl⟩
      have hNr : (N : Rat) = -4342263 * (x (2 * j) : Rat) - 7521020 * (x (2 * j + 1) : Rat) + 28068830 * (x (2 * j') : Rat) - 16205546 * (x (2 * j' + 1) : Rat) := by
        rw [hN, Rat.intCast_sub, Rat.intCast_add, Rat.intCast_sub, Rat.intCast_mul, Rat.intCast_mul, Rat.intCast_mul, Rat.intCast_mul]
        rfl
      generalize (x (2 * j) : Rat) = r0 at *
      generalize (x (2 * j + 1) : Rat) = r1 at *
      generalize (x (2 * j') : Rat) = r2 at *
      generalize (x (2 * j' + 1) : Rat) = r3 at *
      refine four_zero b0 b1 b2 b3 ?_
      rw [← hN]
      rcases ilg 10000 N with c | c
      · exact absurd (big j hj ⟨_, n, .inl (by
          have a : ((10001 : Int) : Rat) ≤ (N : Rat) := Rat.intCast_le_intCast.2 (by omega)
          have e1 : ((10001 : Int) : Rat) = 10001 := rfl
          rw [e1] at a
          grind_linarith)⟩) hb
      · rcases ilg N (-10000) with c' | c'
        · exact absurd (big j hj ⟨_, n, .inr (by
            have a : (N : Rat) ≤ ((-10001 : Int) : Rat) := Rat.intCast_le_intCast.2 (by omega)
            have e1 : ((-10001 : Int) : Rat) = -10001 := rfl
            rw [e1] at a
            grind_linarith)⟩) hb
        · exact ⟨c', c⟩
    have r := ring_flat (flat 0 (by omega)) (flat 1 (by omega)) (flat 2 (by omega)) (flat 3 (by omega)) (flat 4 (by omega)) (flat 5 (by omega)) (flat 6 (by omega)) (flat 7 (by omega))
    simp only [Nat.mul_zero, Nat.zero_add] at r
    have hc : ∀ i, i < 16 → x i = x 0 := fun i hi => by
      obtain ⟨q1, q2, q3, q4, q5, q6, q7, q8, q9, qa, qb, qc, qd, qe, qf⟩ := r
      match i, hi with
      | 0, _ => rfl
      | 1, _ => exact q1
      | 2, _ => exact q2
      | 3, _ => exact q3
      | 4, _ => exact q4
      | 5, _ => exact q5
      | 6, _ => exact q6
      | 7, _ => exact q7
      | 8, _ => exact q8
      | 9, _ => exact q9
      | 10, _ => exact qa
      | 11, _ => exact qb
      | 12, _ => exact qc
      | 13, _ => exact qd
      | 14, _ => exact qe
      | 15, _ => exact qf
      | n + 16, h => omega
    have hL : L = List.replicate 16 (quartW (x 0)) := by
      refine List.ext_getElem (by simp [hl]) fun i h1 h2 => ?_
      have e := ((hx i).2 (by omega)).1
      rw [hc i (by omega), List.getD_eq_getElem?_getD, List.getElem?_eq_getElem h1] at e
      rw [List.getElem_replicate]
      exact e
    rw [hL, flat_third] at h2 h3
    have hx0 := (hx 0).1
    rcases const_all hx0.1 hx0.2 with k | k
    · rw [k, finW_zero.2] at h2
      exact absurd h2 (by decide)
    · exact absurd h3 (Rat.not_lt.2 (Rat.le_trans (p2_le (by decide)) k))
end Go.Proofs.Ytddekdgggpifmaa

namespace Go.Proofs.Ytddekdgggpifmaa
open Go.Gx
set_option maxRecDepth 100000
set_option linter.unusedSimpArgs false
set_option linter.unusedVariables false

theorem ruY_at {xs : List Nat} {ys : List (List Nat)} {i n : Nat} {row : List Nat} (hi : i < ys.length) (hr : ys.getD i [] = row) (hn : row.length = n) : ruY (powersF xs ys) ys i = fbin .quo .f32 (logR (fbin .quo .f32 (squaresF row) (i2f .f32 (n : Int)))) 1060205080 := by
  have e : (powersF xs ys).getD i 0 = squaresF row := by
    unfold powersF
    rw [getD_app_lt (by rw [tabL_length]; exact hi), tabL_getD hi]
    unfold sqF
    rw [hr]
  unfold ruY avgF
  rw [e, hr, hn]
theorem pow_at {xs : List Nat} {ys : List (List Nat)} {i : Nat} {row : List Nat} (hi : i < ys.length) (hr : ys.getD i [] = row) : (powersF xs ys).getD i 0 = squaresF row := by
  unfold powersF
  rw [getD_app_lt (by rw [tabL_length]; exact hi), tabL_getD hi]
  unfold sqF
  rw [hr]
theorem squares_two {xs : List Nat} (h : xs.length = 2) : squaresF xs = en2 (xs.getD 0 0) (xs.getD 1 0) := by
  unfold squaresF
  rw [h]
  rfl
/-- The law's last comparison. -/
theorem rough_less {a b : Nat} (fa : FinW .f32 a) (fb : FinW .f32 b) (ba : Bd (fval .f32 a) 300) (h : Bd (fval .f32 a - fval .f32 b) (97 / 10000) ∨ (Bd (fval .f32 a - fval .f32 b) (511 / 1000) ∧ fval .f32 a ≤ -(504 / 10))) :
    fcB .lss .f64 (gapW (f64 a) (f64 b)) (fbin .mul .f64 4576918229304087675 (fbin .add .f64 4607182418800017408 (gapW (f64 a) 0))) = true := by
  obtain ⟨a1, a2⟩ := f64_fin fa
  obtain ⟨b1, b2⟩ := f64_fin fb
  obtain ⟨z1, z2⟩ := zero_f64
  obtain ⟨o1, o2⟩ := Go.Gx.one_val
  obtain ⟨c1, c2⟩ := c01_val
  obtain ⟨ba1, ba2⟩ := ba
  have ht := top_ge (show (10 : Int) ≤ 1023 by omega)
  have e10 : p2 10 = 1024 := by unfold p2; decide +kernel
  rw [e10] at ht
  -- the size of the first
  have hg : FinW .f64 (gapW (f64 a) 0) ∧ 0 ≤ fval .f64 (gapW (f64 a) 0) ∧ fval .f64 (gapW (f64 a) 0) ≤ 300 ∧ -fval .f32 a ≤ fval .f64 (gapW (f64 a) 0) := by
    obtain ⟨g1, g2, g3⟩ := gap_val (t := 300) a1 z1 (by grind_linarith) (Rep.int (by decide) 300 (by decide)) (by rw [a2, z2]; grind_linarith) (by rw [a2, z2]; grind_linarith)
    refine ⟨g1, g2, g3, ?_⟩
    unfold gapW
    rw [fcB_lss a1 z1]
    by_cases c : fval .f64 (f64 a) < fval .f64 0
    · rw [decide_eq_true c, if_pos rfl]
      rw [a2, z2] at c
      have e : fval .f64 0 - fval .f64 (f64 a) = -fval .f64 (f64 a) := by rw [z2]; grind_linarith
      have g := fsub_val z1 a1 (by rw [e, a2]; constructor <;> grind_linarith)
      rw [e] at g
      rw [g.exact a1.rep.neg, a2]
      exact Rat.le_refl
    · rw [decide_eq_false c, if_neg (by decide)]
      rw [a2, z2] at c
      have c := Rat.not_lt.1 c
      have e : fval .f64 (f64 a) - fval .f64 0 = fval .f64 (f64 a) := by rw [z2]; grind_linarith
      have g := fsub_val a1 z1 (by rw [e, a2]; constructor <;> grind_linarith)
      rw [e] at g
      rw [g.exact a1.rep, a2]
      grind_linarith
  obtain ⟨g1, g2, g3, g4⟩ := hg
  generalize gapW (f64 a) 0 = g at *
  obtain ⟨s1, s2, s3⟩ := add_near (k := .f64) (M := 1000) o1 g1 (okm (by grind_linarith) (by grind_linarith)) (by rw [o2]; exact ⟨by grind_linarith, by grind_linarith⟩)
  rw [o2] at s2 s3
  simp only [epsK] at s2 s3
  generalize fbin .add .f64 4607182418800017408 g = s at *
  obtain ⟨p1, q2, q3⟩ := mul_near (k := .f64) (M := 100) c1 s1 (okm (by grind_linarith) (by grind_linarith)) (by rw [c2]; exact ⟨by grind_linarith, by grind_linarith⟩)
  rw [c2] at q2 q3
  simp only [epsK] at q2 q3
  generalize fbin .mul .f64 4576918229304087675 s = p at *
  rcases h with ⟨d1, d2⟩ | ⟨⟨d1, d2⟩, d3⟩
  · obtain ⟨t1, t2, t3⟩ := gap_val (t := 163 / 16384) a1 b1 (by grind_linarith) (repQ 163 (-14) (by decide) (by decide) (by unfold p2; decide +kernel)) (by rw [a2, b2]; grind_linarith) (by rw [a2, b2]; grind_linarith)
    rw [fcB_lss t1 p1]
    exact decide_eq_true (by grind_linarith)
  · obtain ⟨t1, t2, t3⟩ := gap_val (t := 131 / 256) a1 b1 (by grind_linarith) (repQ 131 (-8) (by decide) (by decide) (by unfold p2; decide +kernel)) (by rw [a2, b2]; grind_linarith) (by rw [a2, b2]; grind_linarith)
    rw [fcB_lss t1 p1]
    exact decide_eq_true (by grind_linarith)
/-- Three levels of a list of quarters, and of its double. -/
theorem rough_law (q : Bool) {L D : List Nat} (hQ : QdL L) (hl : L.length = 16) (hD : DL 2 8 L D)
    (h1 : ruV (nowS L (psQ q) 3) (detsS L (psQ q) 3) = true) (h2 : ruV (nowS D (psQ q) 3) (detsS D (psQ q) 3) = true) :
    fcB .lss .f64 (gapW (f64 (ruN (nowS L (psQ q) 3) (detsS L (psQ q) 3))) (f64 (ruN (nowS D (psQ q) 3) (detsS D (psQ q) 3)))) (fbin .mul .f64 4576918229304087675 (fbin .add .f64 4607182418800017408 (gapW (f64 (ruN (nowS L (psQ q) 3) (detsS L (psQ q) 3))) 0))) = true := by
  have hlD : D.length = 16 := by rw [hD.1, hl]
  obtain ⟨_, dl0, dl1, dl2⟩ := levels_dbl q hD
  have n1 : ruN (nowS L (psQ q) 3) (detsS L (psQ q) 3) = ruF (powersF (nowS L (psQ q) 3) (detsS L (psQ q) 3)) (detsS L (psQ q) 3) 3 := by
    have := h1
    unfold ruV at this
    unfold ruN
    rw [this, if_pos rfl, detsS_length]
  have n2 : ruN (nowS D (psQ q) 3) (detsS D (psQ q) 3) = ruF (powersF (nowS D (psQ q) 3) (detsS D (psQ q) 3)) (detsS D (psQ q) 3) 3 := by
    have := h2
    unfold ruV at this
    unfold ruN
    rw [this, if_pos rfl, detsS_length]
  rw [n1, n2, ruF_three, ruF_three]
  have open1 : ∀ {M : List Nat}, ruV (nowS M (psQ q) 3) (detsS M (psQ q) 3) = true → (∀ i, i < 3 → fcB .gtr .f32 ((powersF (nowS M (psQ q) 3) (detsS M (psQ q) 3)).getD i 0) 0 = true) ∧ finF (slopeW (ruY (powersF (nowS M (psQ q) 3) (detsS M (psQ q) 3)) (detsS M (psQ q) 3) 0) (ruY (powersF (nowS M (psQ q) 3) (detsS M (psQ q) 3)) (detsS M (psQ q) 3) 1) (ruY (powersF (nowS M (psQ q) 3) (detsS M (psQ q) 3)) (detsS M (psQ q) 3) 2)) = true := by
    intro M h
    unfold ruV ruOk at h
    rw [detsS_length, ruF_three] at h
    simp only [Bool.and_eq_true] at h
    exact ⟨allR.1 h.1.2, h.2⟩
  obtain ⟨p1, f1⟩ := open1 h1
  obtain ⟨p2', f2⟩ := open1 h2
  clear open1 n1 n2 h1 h2
  have row : ∀ {M : List Nat} {i : Nat}, i < 3 → (detsS M (psQ q) 3).getD i [] = tapL (nowS M (psQ q) i) (highL (psQ q)) := fun hi => getD_range_map hi
  have len : ∀ {M : List Nat}, M.length = 16 → (tapL (nowS M (psQ q) 0) (highL (psQ q))).length = 8 ∧ (tapL (nowS M (psQ q) 1) (highL (psQ q))).length = 4 ∧ (tapL (nowS M (psQ q) 2) (highL (psQ q))).length = 2 := by
    intro M hM
    have a1 : (nowS M (psQ q) 1).length = 8 := by rw [nowS_succ, tapL_len, nowS_zero, hM]
    have a2 : (nowS M (psQ q) 2).length = 4 := by rw [nowS_succ, tapL_len, a1]
    refine ⟨?_, ?_, ?_⟩
    · rw [tapL_len, nowS_zero, hM]
    · rw [tapL_len, a1]
    · rw [tapL_len, a2]
  obtain ⟨l0, l1, l2⟩ := len hl
  obtain ⟨m0, m1, m2⟩ := len hlD
  have dn : ∀ {M : List Nat}, (detsS M (psQ q) 3).length = 3 := fun {M} => detsS_length M (psQ q) 3
  have g0 := p1 0 (by omega)
  have g1 := p1 1 (by omega)
  have g2 := p1 2 (by omega)
  have k1 := p2' 1 (by omega)
  rw [pow_at (by rw [dn]; omega) (row (by omega))] at g0 g1 g2 k1
  rw [ruY_at (by rw [dn]; omega) (row (by omega)) l0, ruY_at (by rw [dn]; omega) (row (by omega)) l1, ruY_at (by rw [dn]; omega) (row (by omega)) l2] at f1 ⊢
  rw [ruY_at (by rw [dn]; omega) (row (by omega)) m0, ruY_at (by rw [dn]; omega) (row (by omega)) m1, ruY_at (by rw [dn]; omega) (row (by omega)) m2] at f2 ⊢
  clear p1 p2' row len dn
  have fb := first_big q hQ hl hD
  have q0 := en_quad dl0 (by omega) (by omega) (by omega)
  have q1 := en_quad dl1 (by omega) (by omega) (by omega)
  rw [squares_two l2] at g2 f1 fb ⊢
  rw [squares_two m2] at f2 ⊢
  have d0 := dl2.2 0 (by omega)
  have d1 := dl2.2 1 (by omega)
  have e512 : ((512 : Nat) : Rat) = 512 := rfl
  rw [e512] at d0 d1
  rw [nowS_zero] at q0 g0
  rw [nowS_zero] at f1 f2 ⊢
  rw [nowS_zero] at q0 ⊢
  have z2 := finW_zero.2
  generalize squaresF (tapL L (highL (psQ q))) = E0 at *
  generalize squaresF (tapL D (highL (psQ q))) = F0 at *
  generalize squaresF (tapL (nowS L (psQ q) 1) (highL (psQ q))) = E1 at *
  generalize squaresF (tapL (nowS D (psQ q) 1) (highL (psQ q))) = F1 at *
  have e2 : ((2 : Nat) : Int) = 2 := rfl
  rw [e2] at f1 f2 ⊢
  have b16 : ((16 * (32 * 32) : Nat) : Rat) = 16384 := rfl
  have b26 : ((16 * (128 * 128) : Nat) : Rat) = 262144 := rfl
  obtain ⟨u1, u2, u3, ⟨u4, u5⟩, u6⟩ := q0
  obtain ⟨v1, v2, v3, ⟨v4, v5⟩, v6⟩ := q1
  rw [b16] at u5
  rw [b26] at v5
  rw [fcB_gtr u1 finW_zero.1, z2] at g0
  rw [fcB_gtr v1 finW_zero.1, z2] at g1
  have g0 := of_decide_eq_true g0
  have g1 := of_decide_eq_true g1
  have u7 : Gz 54 (fval .f32 F0) := by
    have e : fval .f32 F0 = 2 * (2 * fval .f32 E0) := by rw [u6]; grind_linarith
    rw [e]
    exact Gz.two (Gz.two u3)
  have v7 : Gz 104 (fval .f32 F1) := by
    have e : fval .f32 F1 = 2 * (2 * fval .f32 E1) := by rw [v6]; grind_linarith
    rw [e]
    exact Gz.two (Gz.two v3)
  obtain ⟨a1, a2⟩ := eighth u1 u3 ⟨by grind_linarith, by grind_linarith⟩
  obtain ⟨b1, b2⟩ := eighth u2 u7 (by rw [u6]; exact ⟨by grind_linarith, by grind_linarith⟩)
  obtain ⟨c1, c2⟩ := fourth v1 v3 ⟨g1, by grind_linarith⟩
  obtain ⟨i1, i2⟩ := fourth v2 v7 (by rw [v6]; exact ⟨by grind_linarith, by grind_linarith⟩)
  have g2' : 0 < fval .f32 (en2 ((tapL (nowS L (psQ q) 2) (highL (psQ q))).getD 0 0) ((tapL (nowS L (psQ q) 2) (highL (psQ q))).getD 1 0)) := by
    have fe := (sum_two (M := 0) (sq_four d0).1 (sq_four d1).1 (sq_four d0).2.2.1.1 (sq_four d1).2.2.1.1 (by have := (sq_four d0).2.2.1.2; have := (sq_four d1).2.2.1.2; grind_linarith)).1
    rw [fcB_gtr (show FinW .f32 (en2 _ _) from fe) finW_zero.1, z2] at g2
    exact of_decide_eq_true g2
  obtain ⟨t1, t2, t3⟩ := en_three d0 d1 g2'
  generalize en2 ((tapL (nowS L (psQ q) 2) (highL (psQ q))).getD 0 0) ((tapL (nowS L (psQ q) 2) (highL (psQ q))).getD 1 0) = E2 at *
  generalize en2 ((tapL (nowS D (psQ q) 2) (highL (psQ q))).getD 0 0) ((tapL (nowS D (psQ q) 2) (highL (psQ q))).getD 1 0) = F2 at *
  have hp := p2_pos (-149)
  have k149 : 8 * p2 (-149) ≤ p2 (-((54 : Nat) : Int)) := by unfold p2; decide +kernel
  have low : p2 (-((54 : Nat) : Int)) ≤ fval .f32 E0 := by
    obtain ⟨z, hz⟩ := u3
    have hz' : fval .f32 E0 = (z : Rat) * p2 (-((54 : Nat) : Int)) := hz
    have hq := p2_pos (-((54 : Nat) : Int))
    have z1 : 1 ≤ z := by
      rcases ilg z 1 with c | c
      · exfalso
        have a : (z : Rat) ≤ ((0 : Int) : Rat) := Rat.intCast_le_intCast.2 (by omega)
        have b := Rat.mul_le_mul_of_nonneg_right a (Rat.le_of_lt hq)
        have e0 : ((0 : Int) : Rat) = 0 := rfl
        rw [e0, ← hz'] at b
        grind_linarith
      · exact c
    have a : ((1 : Int) : Rat) ≤ (z : Rat) := Rat.intCast_le_intCast.2 z1
    have b := Rat.mul_le_mul_of_nonneg_right a (Rat.le_of_lt hq)
    have e1 : ((1 : Int) : Rat) = 1 := rfl
    rw [e1, ← hz'] at b
    grind_linarith
  have p29 : p2 (-29) = 8 * p2 (-32) := by unfold p2; decide +kernel
  generalize fbin .quo .f32 E0 (i2f .f32 ((8 : Nat) : Int)) = A0 at *
  generalize fbin .quo .f32 F0 (i2f .f32 ((8 : Nat) : Int)) = B0 at *
  generalize fbin .quo .f32 E1 (i2f .f32 ((4 : Nat) : Int)) = A1 at *
  generalize fbin .quo .f32 F1 (i2f .f32 ((4 : Nat) : Int)) = B1 at *
  generalize fbin .quo .f32 E2 (i2f .f32 (2 : Int)) = A2 at *
  generalize fbin .quo .f32 F2 (i2f .f32 (2 : Int)) = B2 at *
  have pa0 : p2 (-149) ≤ fval .f32 A0 := by rw [a2]; grind_linarith
  have h40 : fval .f32 B0 = 4 * fval .f32 A0 := by rw [a2, b2, u6]; grind_linarith
  have pb0 : p2 (-149) ≤ fval .f32 B0 := by rw [h40]; grind_linarith
  have y0 := yW_ok a1 pa0
  have y1 := yW_ok c1 c2
  have x0 := yW_ok b1 pb0
  have x1 := yW_ok i1 i2
  rcases t3 with t3 | ⟨pa2, t3⟩
  · exfalso
    rw [yW_zero t1 t3, slope_ninf ⟨y0.f, y0.b⟩ ⟨y1.f, y1.b⟩] at f1
    exact absurd f1 (by decide)
  have pb2 : p2 (-149) ≤ fval .f32 B2 := by
    rcases t3 with ⟨t3, _⟩ | ⟨_, _, t3, _⟩
    · grind_linarith
    · grind_linarith
  obtain ⟨r1, r2, r3, r4⟩ := rough_plain a1 t1 b1 t2 pa0 pa2 pb2 h40 (by
    rcases t3 with t3 | ⟨t3, t4⟩
    · exact .inl t3
    · refine .inr ⟨?_, t4⟩
      have := fb g0 g2' t3
      rw [a2]
      grind_linarith) y0 ⟨y1.f, y1.b⟩ (yW_ok t1 pa2) x0 ⟨x1.f, x1.b⟩ (yW_ok t2 pb2)
  exact rough_less r1 r2 r3 r4
end Go.Proofs.Ytddekdgggpifmaa

namespace Go.Proofs.Ytddekdgggpifmaa
open Go.Gx
set_option maxRecDepth 100000
set_option linter.unusedSimpArgs false
set_option linter.unusedVariables false

/-! ### sizes, in either width -/
def gap0 (x : Nat) : Nat := gapW (f64 x) 0
theorem gap0_val {x : Nat} (hx : FinW .f32 x) : FinW .f64 (gap0 x) ∧ (0 ≤ fval .f32 x → fval .f64 (gap0 x) = fval .f32 x) ∧ (fval .f32 x < 0 → fval .f64 (gap0 x) = -fval .f32 x) := by
  obtain ⟨a1, a2⟩ := f64_fin hx
  obtain ⟨z1, z2⟩ := zero_f64
  obtain ⟨b1, b2⟩ := hx.bd
  have t1 := top64
  have t2 := top_ge (show (128 : Int) ≤ 1023 by omega)
  unfold gap0 gapW
  rw [fcB_lss a1 z1]
  by_cases c : fval .f64 (f64 x) < fval .f64 0
  · rw [decide_eq_true c, if_pos rfl]
    rw [a2, z2] at c
    have e : fval .f64 0 - fval .f64 (f64 x) = -fval .f64 (f64 x) := by rw [z2]; grind_linarith
    have g := fsub_val z1 a1 (by rw [e, a2]; constructor <;> grind_linarith)
    rw [e] at g
    refine ⟨g.1, fun h => by grind_linarith, fun _ => ?_⟩
    rw [g.exact a1.rep.neg, a2]
  · rw [decide_eq_false c, if_neg (by decide)]
    rw [a2, z2] at c
    have e : fval .f64 (f64 x) - fval .f64 0 = fval .f64 (f64 x) := by rw [z2]; grind_linarith
    have g := fsub_val a1 z1 (by rw [e, a2]; constructor <;> grind_linarith)
    rw [e] at g
    refine ⟨g.1, fun _ => ?_, fun h => absurd h c⟩
    rw [g.exact a1.rep, a2]
theorem sizeF_val {x : Nat} (hx : FinW .f32 x) : FinW .f32 (sizeF x) ∧ (0 ≤ fval .f32 x → fval .f32 (sizeF x) = fval .f32 x) ∧ (fval .f32 x < 0 → fval .f32 (sizeF x) = -fval .f32 x) := by
  obtain ⟨z1, z2⟩ := finW_zero
  obtain ⟨n1, n2⟩ := finW_fneg hx
  unfold sizeF
  rw [fcB_lss hx z1, z2]
  by_cases c : fval .f32 x < 0
  · rw [decide_eq_true c, if_pos rfl]
    exact ⟨n1, fun h => by grind_linarith, fun _ => n2⟩
  · rw [decide_eq_false c, if_neg (by decide), fcB_eql hx z1, z2]
    by_cases d : fval .f32 x = 0
    · rw [decide_eq_true d, if_pos rfl]
      exact ⟨z1, fun _ => by rw [z2, d], fun h => absurd h c⟩
    · rw [decide_eq_false d, if_neg (by decide)]
      exact ⟨hx, fun _ => rfl, fun h => absurd h c⟩
theorem gap_size {x : Nat} (hx : FinW .f32 x) : FinW .f64 (gap0 x) ∧ FinW .f32 (sizeF x) ∧ fval .f64 (gap0 x) = fval .f32 (sizeF x) := by
  obtain ⟨a1, a2, a3⟩ := gap0_val hx
  obtain ⟨b1, b2, b3⟩ := sizeF_val hx
  refine ⟨a1, b1, ?_⟩
  by_cases c : fval .f32 x < 0
  · rw [a3 c, b3 c]
  · rw [a2 (Rat.not_lt.1 c), b2 (Rat.not_lt.1 c)]
theorem gap_gtr0 {x : Nat} (hx : FinW .f32 x) : fcB .gtr .f64 (gap0 x) 0 = fcB .gtr .f32 (sizeF x) 0 := by
  obtain ⟨a, b, c⟩ := gap_size hx
  rw [fcB_gtr a zero_f64.1, fcB_gtr b finW_zero.1, c, zero_f64.2, finW_zero.2]
theorem gap_gtr2 {x y : Nat} (hx : FinW .f32 x) (hy : FinW .f32 y) : fcB .gtr .f64 (gap0 x) (gap0 y) = fcB .gtr .f32 (sizeF x) (sizeF y) := by
  obtain ⟨a, b, c⟩ := gap_size hx
  obtain ⟨d, e, f⟩ := gap_size hy
  rw [fcB_gtr a d, fcB_gtr b e, c, f]
theorem gap_geq2 {x y : Nat} (hx : FinW .f32 x) (hy : FinW .f32 y) : fcB .geq .f64 (gap0 x) (gap0 y) = fcB .geq .f32 (sizeF x) (sizeF y) := by
  obtain ⟨a, b, c⟩ := gap_size hx
  obtain ⟨d, e, f⟩ := gap_size hy
  rw [fcB_geq a d, fcB_geq b e, c, f]
theorem eBsl_3 {ety : TypeId} {zero a b c : Value} {H : Heap} (ha : one a = true) (hb : one b = true) (hc : one c = true) : eBsl ety 3 zero [(0, a), (1, b), (2, c)] H = some (.slice (some ⟨H.n, 0, none⟩) 3 3, H.new ⟨true, ety, [a, b, c]⟩) := by
  simp [eBsl, afillS, ha, hb, hc, List.replicate]
/-! ### lists of quarters -/
theorem long128 {xs : List Nat} (h : QdL xs) (h1 : 1 ≤ xs.length) (hn : xs.length ≤ 128) : isLongF xs = true := by
  unfold isLongF
  rw [gl_all h.gl, within_true.2 (by omega)]
  rfl
theorem rows_three {a : List Nat} (h : isLongF a = true) : rowsF [a, a, a] 12 = true ∧ totL [a, a, a] = 3 + 3 * a.length := by
  refine ⟨?_, ?_⟩
  · unfold rowsF
    rw [within_true.2 (by simp)]
    simp [List.range_succ, h]
  · simp [totL, offN]
    omega
theorem rows_two {a b : List Nat} (h : isLongF a = true) (g : isLongF b = true) (hl : b.length = a.length) : rowsF [a, b] 12 = true ∧ totL [a, b] = 2 + 2 * a.length := by
  refine ⟨?_, ?_⟩
  · unfold rowsF
    rw [within_true.2 (by simp)]
    simp [List.range_succ, h, g, hl]
  · simp [totL, offN, hl]
    omega
theorem w_rows {a b : List Nat} (h : W32 a) (g : W32 b) : W32S [a, a, a] ∧ W32S [a, b] := by
  refine ⟨fun j => ?_, fun j => ?_⟩
  · match j with
    | 0 => exact h
    | 1 => exact h
    | 2 => exact h
    | j + 3 => intro i; simp
  · match j with
    | 0 => exact h
    | 1 => exact g
    | j + 2 => intro i; simp
theorem SS.three {H : Heap} {h : Nat} {own : Bool} {ty : TypeId} {v : Value} {xs : List Nat} (hb : H.blk h = some ⟨own, ty, [v, v, v]⟩) (hn : h < H.n) (hv : FS H v xs) : SS H (.slice (some ⟨h, 0, none⟩) 3 3) [xs, xs, xs] :=
  ⟨[v, v, v], FS0.own hb hn rfl, rfl, fun j hj => by
    match j, hj with
    | 0, _ => exact hv
    | 1, _ => exact hv
    | 2, _ => exact hv
    | j + 3, h => simp at h; omega⟩
/-! ### maxima go on through rows that are the same -/
theorem near_hit (l : List Int) (p : Int) : ∀ i, nearI l p 0 i = (p, true) ∨ (nearI l p 0 i = (0, false) ∧ ∀ j, j < i → l.getD j 0 ≠ p)
  | 0 => .inr ⟨rfl, by intros; omega⟩
  | i + 1 => by
    have ap : apart p p = 0 := by simp [apart]
    simp only [nearI]
    by_cases h : l.getD i 0 = p
    · refine .inl ?_
      rcases near_hit l p i with c | ⟨c, _⟩
      · rw [c, h]
        simp
      · rw [c, h]
        simp [ap]
    · have hne : ¬ apart (l.getD i 0) p ≤ 0 := by unfold apart; omega
      rw [if_neg (fun hh => hne hh.1)]
      rcases near_hit l p i with c | ⟨c, d⟩
      · exact .inl c
      · refine .inr ⟨c, fun j hj => ?_⟩
        by_cases e : j = i
        · rw [e]; exact h
        · exact d j (by omega)
theorem near_in {l : List Int} {p : Int} {k : Nat} (hk : k < l.length) (h : l.getD k 0 = p) : nearI l p 0 l.length = (p, true) := by
  rcases near_hit l p l.length with c | ⟨_, d⟩
  · exact c
  · exact absurd h (d k hk)
theorem link_same (a : List Nat) : lkOut [a, a, a] 0 2 (maxL a).length = maxL a := by
  have hs : ∀ k, k < (maxL a).length → ∀ t, t ≤ 2 → linkS [a, a, a] 0 ((maxL a).getD k 0) t = ((maxL a).getD k 0, true) := fun k hk t ht => by
    have h1 : linkS [a, a, a] 0 ((maxL a).getD k 0) 1 = ((maxL a).getD k 0, true) := by
      show (if true = true then nearI (maxL a) ((maxL a).getD k 0) 0 (maxL a).length else _) = _
      rw [if_pos rfl, near_in hk rfl]
    match t, ht with
    | 0, _ => rfl
    | 1, _ => exact h1
    | 2, _ =>
      show (if (linkS [a, a, a] 0 ((maxL a).getD k 0) 1).2 = true then nearI (maxL a) (linkS [a, a, a] 0 ((maxL a).getD k 0) 1).1 0 (maxL a).length else _) = _
      rw [h1, if_pos rfl, near_in hk rfl]
    | t + 3, h => omega
  unfold lkOut
  have e0 : ([a, a, a] : List (List Nat)).getD 0 [] = a := rfl
  rw [e0]
  have hf : (List.range (maxL a).length).filter (fun j => (linkS [a, a, a] 0 ((maxL a).getD j 0) 2).2) = List.range (maxL a).length := List.filter_eq_self.2 fun j hj => by rw [hs j (List.mem_range.1 hj) 2 (by omega)]
  rw [hf]
  refine list_ext_getD 0 (by simp) fun j hj => ?_
  rw [getD_range_map (by simpa using hj)]
/-! ### the list of truths -/
theorem max_facts (a : List Nat) {k : Nat} (hk : k < (maxL a).length) : (∃ m : Nat, (maxL a).getD k 0 = (m : Int) ∧ m < a.length ∧ maxAt a m = true) ∧ (0 < k → (maxL a).getD (k - 1) 0 < (maxL a).getD k 0) := by
  unfold maxL maximaL at *
  refine ⟨?_, fun h0 => ?_⟩
  · have hm : (((List.range a.length).filter (maxAt a)).map fun k : Nat => (k : Int)).getD k 0 ∈ (((List.range a.length).filter (maxAt a)).map fun k : Nat => (k : Int)) := by
      rw [List.getD_eq_getElem?_getD, List.getElem?_eq_getElem hk]
      exact List.getElem_mem _
    obtain ⟨m, hm1, hm2⟩ := List.mem_map.1 hm
    obtain ⟨h1, h2⟩ := List.mem_filter.1 hm1
    exact ⟨m, hm2.symm, List.mem_range.1 h1, h2⟩
  · have hp : List.Pairwise (fun x y : Int => x < y) (((List.range a.length).filter (maxAt a)).map fun k : Nat => (k : Int)) := by
      rw [List.pairwise_map]
      exact (List.pairwise_lt_range.filter _).imp fun h => by omega
    have := List.pairwise_iff_getElem.1 hp (k - 1) k (by omega) hk (by omega)
    rw [List.getD_eq_getElem?_getD, List.getD_eq_getElem?_getD, List.getElem?_eq_getElem (by omega), List.getElem?_eq_getElem hk]
    exact this
def isK (l : List Int) (n k : Nat) : List Bool := (List.range n).map fun i : Nat => decide ((i : Int) ∈ l.take k)
theorem isK_length (l : List Int) (n k : Nat) : (isK l n k).length = n := by simp [isK]
theorem isK_zero (l : List Int) (n : Nat) : (isK l n 0).map bv = List.replicate n (Value.bool false) := by
  refine list_ext_getD undef (by simp [isK]) fun j hj => ?_
  have hj' : j < n := by simpa [isK] using hj
  simp [List.getD_eq_getElem?_getD, hj', isK, bv]
theorem isK_set {l : List Int} {n k m : Nat} (hk : k < l.length) (hm : l.getD k 0 = (m : Int)) (hn : m < n) : ((isK l n k).map bv).set m (.bool true) = (isK l n (k + 1)).map bv := by
  have ht : l.take (k + 1) = l.take k ++ [(m : Int)] := by
    rw [List.take_add_one, List.getElem?_eq_getElem hk]
    rw [List.getD_eq_getElem?_getD, List.getElem?_eq_getElem hk] at hm
    have hm' : l[k] = (m : Int) := hm
    rw [hm']
    rfl
  refine list_ext_getD undef (by simp [isK]) fun j hj => ?_
  have hj' : j < n := by simpa [isK] using hj
  have e1 : ∀ q, ((isK l n q).map bv).getD j undef = .bool (decide ((j : Int) ∈ l.take q)) := fun q => by
    simp [List.getD_eq_getElem?_getD, hj', isK, bv]
  rw [e1, ht]
  by_cases h : m = j
  · subst h
    rw [Go.Gx.getD_set_self (by simp [isK]; omega)]
    simp
  · rw [Go.Gx.getD_set_ne h, e1]
    have hne : ¬ ((j : Int) = (m : Int)) := by omega
    simp [List.mem_append, hne]
theorem isK_all (a : List Nat) {i : Nat} (hi : i < a.length) : (isK (maxL a) a.length (maxL a).length).getD i false = maxAt a i := by
  unfold isK
  rw [getD_range_map hi, List.take_length]
  unfold maxL maximaL
  cases h : maxAt a i
  · refine decide_eq_false fun hm => ?_
    obtain ⟨m, hm1, hm2⟩ := List.mem_map.1 hm
    have e : m = i := by omega
    subst e
    rw [(List.mem_filter.1 hm1).2] at h
    cases h
  · exact decide_eq_true (List.mem_map.2 ⟨i, List.mem_filter.2 ⟨List.mem_range.2 hi, h⟩, rfl⟩)
/-! ### a list and its double -/
def dblL (L : List Nat) (i : Nat) : List Nat := (List.range i).map fun k => fbin .mul .f32 1073741824 (L.getD k 0)
theorem dblL_length (L : List Nat) (i : Nat) : (dblL L i).length = i := by simp [dblL]
theorem dblL_succ (L : List Nat) (i : Nat) : (dblL L i).map fv ++ [.float .f32 (fbin .mul .f32 1073741824 (L.getD i 0))] = (dblL L (i + 1)).map fv := by simp [dblL, List.range_succ, fv]
theorem wtwo_val : FinW .f32 1073741824 ∧ fval .f32 1073741824 = 2 := finV32_ok (s := false) (m := 8388608) (e := -22) (by decide +kernel)
theorem dblL_dl {L : List Nat} (h : QdL L) : DL 2 8 L (dblL L L.length) := by
  refine ⟨dblL_length _ _, fun i hi => ?_⟩
  obtain ⟨f, _, q, q0, q1, qv⟩ := (h i hi).ok
  obtain ⟨t1, t2⟩ := wtwo_val
  have e : (dblL L L.length).getD i 0 = fbin .mul .f32 1073741824 (L.getD i 0) := getD_range_map hi
  have hL : FloatKind.f32.format.leastPlace = -149 := by decide
  have hB : 2 * FloatKind.f32.format.binade = 16777216 := by decide
  have a : ((-32 : Int) : Rat) ≤ (q : Rat) := Rat.intCast_le_intCast.2 q0
  have b : (q : Rat) ≤ ((32 : Int) : Rat) := Rat.intCast_le_intCast.2 q1
  have e1 : ((-32 : Int) : Rat) = -32 := rfl
  have e2 : ((32 : Int) : Rat) = 32 := rfl
  rw [e1] at a
  rw [e2] at b
  have ht : (1024 : Rat) ≤ topK .f32 := by unfold topK topV p2; decide +kernel
  have p1 : p2 (-1) = 1 / 2 := by unfold p2; decide +kernel
  have pq : p2 (-((2 : Nat) : Int)) = 1 / 4 := by unfold p2; decide +kernel
  have hv : fval .f32 1073741824 * fval .f32 (L.getD i 0) = (q : Rat) * p2 (-1) := by rw [t2, qv, p1]; grind_linarith
  have g := fmul_val t1 f (by rw [hv, p1]; constructor <;> grind_linarith)
  have gex := g.exact ⟨q, -1, hv, by rw [hB]; omega, by rw [hL]; decide⟩
  have e8 : ((8 : Nat) : Rat) = 8 := rfl
  rw [e]
  refine ⟨f, g.1, ⟨q, by rw [qv, pq]; grind_linarith⟩, by rw [qv, e8]; constructor <;> grind_linarith, ?_⟩
  rw [gex, qv, t2]
theorem dblL_w (L : List Nat) (i : Nat) : W32 (dblL L i) := fun j => by
  by_cases hj : j < i
  · have e : (dblL L i).getD j 0 = fbin .mul .f32 1073741824 (L.getD j 0) := getD_range_map hj
    rw [e]
    exact fbin_lt .mul .f32 _ _
  · simp [List.getD_eq_getElem?_getD, List.getElem?_eq_none (l := dblL L i) (i := j) (by rw [dblL_length]; omega)]
theorem w_b10Ints_eq {H : Heap} {v u : Value} {l : List Int} (hv : IS H v l) (hu : IS H u l) (hn : l.length ≤ 2 ^ 40) : ACalls Try.prog n_w_b10Ints [v, u] H fun r H' => r = .bool true ∧ H' = H := by
  have o := hv.one
  have o2 := hu.one
  refine k_w_b10Ints.run rfl ?_
  unfold c_w_b10Ints
  simp (disch := first | assumption | omega | rfl | (refine id ?_; simp only [gxD, ne_eq, reduceCtorEq, not_false_eq_true, Nat.reduceAdd, *]; done) | (refine id ?_; simp only [gxD]; omega)) only [↓gxPre, gxPost, ↓reduceIte, Nat.reduceEqDiff, reduceCtorEq, Nat.reduceAdd, hv.len, hu.len]
  refine loop_forH l.length (fun i => [v, u, .int .i64 l.length, .int .i64 i]) (fun i G => H = G) rfl rfl ?_ ?_
  · rintro _ rfl
    simp (disch := first | assumption | omega | rfl | (refine id ?_; simp only [gxD, ne_eq, reduceCtorEq, not_false_eq_true, Nat.reduceAdd, *]; done) | (refine id ?_; simp only [gxD]; omega)) only [↓gxPre, gxPost, ↓reduceIte, Nat.reduceEqDiff, reduceCtorEq, Nat.reduceAdd, Int.lt_irrefl]
  · rintro i _ hi rfl
    simp (disch := first | assumption | omega | rfl | (refine id ?_; simp only [gxD, ne_eq, reduceCtorEq, not_false_eq_true, Nat.reduceAdd, *]; done) | (refine id ?_; simp only [gxD]; omega)) only [↓gxPre, gxPost, ↓reduceIte, Nat.reduceEqDiff, reduceCtorEq, Nat.reduceAdd, hv.ia, hv.ld, hu.ia, hu.ld]
    simp
end Go.Proofs.Ytddekdgggpifmaa
