/- What the functions of the program do: contracts that are proved. -/
import Derived.Test.YtkojmlpaamdhoaeRoughnessOfXAToXX
namespace Go.Proofs.Ytkojmlpaamdhoae
open Go.Gx
set_option maxRecDepth 100000
set_option linter.unusedSimpArgs false
set_option linter.unusedVariables false

def avgF (p : List Nat) (ys : List (List Nat)) (i : Nat) : Nat := fbin .quo .f32 (p.getD i 0) (i2f .f32 ((ys.getD i []).length : Int))
def ruY (p : List Nat) (ys : List (List Nat)) (i : Nat) : Nat := fbin .quo .f32 (logR (avgF p ys i)) 1060205080
def ruA : Nat → Nat := foldI (fun i s => fbin .add .f32 s (i2f .f32 (i : Int))) 0
def ruB (p : List Nat) (ys : List (List Nat)) : Nat → Nat := foldI (fun i s => fbin .add .f32 s (ruY p ys i)) 0
def ruC : Nat → Nat := foldI (fun i s => fbin .add .f32 s (fbin .mul .f32 (i2f .f32 (i : Int)) (i2f .f32 (i : Int)))) 0
def ruD (p : List Nat) (ys : List (List Nat)) : Nat → Nat := foldI (fun i s => fbin .add .f32 s (fbin .mul .f32 (i2f .f32 (i : Int)) (ruY p ys i))) 0
def ruF (p : List Nat) (ys : List (List Nat)) (n : Nat) : Nat := fbin .quo .f32 (fbin .sub .f32 (fbin .mul .f32 (i2f .f32 (n : Int)) (ruD p ys n)) (fbin .mul .f32 (ruA n) (ruB p ys n))) (fbin .sub .f32 (fbin .mul .f32 (i2f .f32 (n : Int)) (ruC n)) (fbin .mul .f32 (ruA n) (ruA n)))
def ruOk (xs : List Nat) (ys : List (List Nat)) : Bool := validBandsF xs ys && (powersF xs ys).all finF && decide (2 ≤ ys.length) && (List.range ys.length).all fun i => fcB .gtr .f32 ((powersF xs ys).getD i 0) 0
def ruN (xs : List Nat) (ys : List (List Nat)) : Nat := if (ruOk xs ys && finF (ruF (powersF xs ys) ys ys.length)) = true then ruF (powersF xs ys) ys ys.length else 0
def ruV (xs : List Nat) (ys : List (List Nat)) : Bool := ruOk xs ys && finF (ruF (powersF xs ys) ys ys.length)
theorem avg_dom {p : List Nat} {ys : List (List Nat)} {i : Nat} (hf : finF (p.getD i 0) = true) (hp : fcB .gtr .f32 (p.getD i 0) 0 = true) (h1 : 1 ≤ (ys.getD i []).length) (h2 : (ys.getD i []).length ≤ 64) : FinW .f32 (avgF p ys i) ∧ 0 ≤ fval .f32 (avgF p ys i) := by
  have fx := finW_of hf
  rw [fcB_gtr fx finW_zero.1, finW_zero.2] at hp
  have hp := of_decide_eq_true hp
  have ht := top32
  have ht2 : (1 : Rat) ≤ p2 127 := by rw [← p2_zero]; exact p2_le (by decide)
  have h64 : p2 6 ≤ p2 127 := p2_le (by decide)
  have e64 : p2 6 = ((64 : Nat) : Rat) := p2_nat 6
  have hl1 : (1 : Rat) ≤ (((ys.getD i []).length : Int) : Rat) := by
    have : ((1 : Int) : Rat) ≤ (((ys.getD i []).length : Int) : Rat) := Rat.intCast_le_intCast.2 (by omega)
    exact this
  have hl2 : (((ys.getD i []).length : Int) : Rat) ≤ ((64 : Nat) : Rat) := by
    have : (((ys.getD i []).length : Int) : Rat) ≤ ((64 : Int) : Rat) := Rat.intCast_le_intCast.2 (by omega)
    exact this
  have g := i2f_val (k := .f32) (n := ((ys.getD i []).length : Int)) (by unfold Bd; constructor <;> grind_linarith)
  have hB : 2 * FloatKind.f32.format.binade = 16777216 := by decide
  have hv := g.exact (Rep.int (by decide) _ (by omega))
  unfold avgF
  rw [← hv] at hl1 hl2
  have gw := g.1
  generalize i2f .f32 ((ys.getD i []).length : Int) = l at *
  have hl0 : fval .f32 l ≠ 0 := by
    intro h
    rw [h] at hl1
    grind_linarith
  have hq : fval .f32 (p.getD i 0) / fval .f32 l * fval .f32 l = fval .f32 (p.getD i 0) := Rat.div_mul_cancel hl0
  have hlp : 0 < fval .f32 l := by grind_linarith
  generalize hqq : fval .f32 (p.getD i 0) / fval .f32 l = q at hq
  have q0 : 0 ≤ q := by
    refine Rat.le_of_mul_le_mul_right (c := fval .f32 l) ?_ hlp
    rw [hq]
    grind_linarith
  have q1 : q ≤ fval .f32 (p.getD i 0) := by
    have := Rat.mul_le_mul_of_nonneg_left hl1 q0
    grind_linarith
  have bx := fx.bd
  unfold Bd at bx
  have gg := fdiv_val fx gw hl0 hq (by unfold Bd; constructor <;> grind_linarith)
  exact ⟨gg.1, gg.ge (Rep.int (by decide) 0 (by decide)) q0⟩
theorem ru_no {xs : List Nat} {ys : List (List Nat)} (h : ruOk xs ys = false) : ruN xs ys = 0 ∧ ruV xs ys = false := by simp [ruN, ruV, h]
theorem i_RoughnessOf_law {H : Heap} {v0 u0 : Value} {xs0 : List Nat} {ys0 : List (List Nat)} (A : AF H v0 xs0) (B : AS H u0 ys0) :
    ACalls Try.prog n_i_RoughnessOf [.agg #[v0, u0]] H fun r H' => r = .tuple #[.float .f32 (ruN xs0 ys0), .bool (ruV xs0 ys0)] ∧ Ext H H' := by
  have hm := B.le
  have hnx : ys0.length ≤ 2 ^ 40 := by unfold totL at hm; omega
  have o1 := A.rd.one
  have o2 := B.rd.one'
  obtain ⟨us, hu, hul, hus⟩ := B.rd
  refine k_i_RoughnessOf.run rfl ?_
  unfold c_i_RoughnessOf
  simp (disch := first | assumption | omega | rfl | (refine id ?_; simp only [gxD, ne_eq, reduceCtorEq, not_false_eq_true, Nat.reduceAdd, *]; done) | (refine id ?_; simp only [gxD]; omega)) only [↓gxPre, gxPost, ↓reduceIte, Nat.reduceEqDiff, reduceCtorEq, Nat.reduceAdd]
  refine callR_new ?_
  intro K eK hb nK
  refine callR_of (i_PowersOfBands_law (A.ext eK) ⟨B.rd.ext eK, B.le, B.w⟩) ?_
  rintro _ G ⟨eG, w, rfl, ow, lw⟩
  have e1 := eK.trans eG
  have hbG := (eG.blk _ (by omega)).trans hb
  have vw := ow.one
  have huG := hu.ext e1
  cases hk : (validBandsF xs0 ys0 && (powersF xs0 ys0).all finF)
  · obtain ⟨z1, z2⟩ := ru_no (xs := xs0) (ys := ys0) (by simp only [ruOk, hk, Bool.false_and])
    rw [z1, z2]
    simp (disch := first | assumption | omega | rfl | (refine id ?_; simp only [gxD, ne_eq, reduceCtorEq, not_false_eq_true, Nat.reduceAdd, *]; done) | (refine id ?_; simp only [gxD]; omega)) only [↓gxPre, gxPost, ↓reduceIte, Nat.reduceEqDiff, reduceCtorEq, Nat.reduceAdd, hbG, huG.len, hul]
    exact e1
  rw [hk] at ow
  simp only [selL_t] at ow
  have hw := ow.fs
  rw [Bool.and_eq_true] at hk
  by_cases h2 : (ys0.length : Int) < 2
  · obtain ⟨z1, z2⟩ := ru_no (xs := xs0) (ys := ys0) (by simp only [ruOk, decide_eq_false (show ¬ 2 ≤ ys0.length by omega), Bool.and_false, Bool.false_and])
    rw [z1, z2]
    simp (disch := first | assumption | omega | rfl | (refine id ?_; simp only [gxD, ne_eq, reduceCtorEq, not_false_eq_true, Nat.reduceAdd, *]; done) | (refine id ?_; simp only [gxD]; omega)) only [↓gxPre, gxPost, ↓reduceIte, Nat.reduceEqDiff, reduceCtorEq, Nat.reduceAdd, hbG, huG.len, hul, h2]
    exact e1
  have hpl : (powersF xs0 ys0).length = ys0.length + 1 := by simp [powersF, tabL_length]
  have hvb := vb_yes hk.1
  have hdet := det_le hk.1
  simp (disch := first | assumption | omega | rfl | (refine id ?_; simp only [gxD, ne_eq, reduceCtorEq, not_false_eq_true, Nat.reduceAdd, *]; done) | (refine id ?_; simp only [gxD]; omega)) only [↓gxPre, gxPost, ↓reduceIte, Nat.reduceEqDiff, reduceCtorEq, Nat.reduceAdd, hbG, huG.len, hul, h2]
  refine loop_forH ys0.length (fun i => [w, .int .i64 ys0.length, .float .f32 (ruA i), .float .f32 (ruB (powersF xs0 ys0) ys0 i), .float .f32 (ruC i), .float .f32 (ruD (powersF xs0 ys0) ys0 i), u0, .int .i64 ys0.length, .int .i64 i])
    (fun i F => F = G ∧ ∀ j, j < i → fcB .gtr .f32 ((powersF xs0 ys0).getD j 0) 0 = true) rfl ⟨rfl, by intros; omega⟩ ?_ ?_
  · rintro _ ⟨rfl, hJ⟩
    have hok : ruOk xs0 ys0 = true := by simp only [ruOk, hk.1, hk.2, decide_eq_true (show 2 ≤ ys0.length by omega), allR.2 hJ, Bool.and_self]
    simp (disch := first | assumption | omega | rfl | (refine id ?_; simp only [gxD, ne_eq, reduceCtorEq, not_false_eq_true, Nat.reduceAdd, *]; done) | (refine id ?_; simp only [gxD]; omega)) only [↓gxPre, gxPost, ↓reduceIte, Nat.reduceEqDiff, reduceCtorEq, Nat.reduceAdd, Int.lt_irrefl]
    refine callR_pure i_finite_ok (.inl rfl) ?_
    simp (disch := first | assumption | omega | rfl | (refine id ?_; simp only [gxD, ne_eq, reduceCtorEq, not_false_eq_true, Nat.reduceAdd, *]; done) | (refine id ?_; simp only [gxD]; omega)) only [↓gxPre, gxPost, ↓reduceIte, Nat.reduceEqDiff, reduceCtorEq, Nat.reduceAdd, numV]
    refine ⟨?_, e1⟩
    have hF : fbin .quo .f32 (fbin .sub .f32 (fbin .mul .f32 (i2f .f32 (ys0.length : Int)) (ruD (powersF xs0 ys0) ys0 ys0.length)) (fbin .mul .f32 (ruA ys0.length) (ruB (powersF xs0 ys0) ys0 ys0.length))) (fbin .sub .f32 (fbin .mul .f32 (i2f .f32 (ys0.length : Int)) (ruC ys0.length)) (fbin .mul .f32 (ruA ys0.length) (ruA ys0.length))) = ruF (powersF xs0 ys0) ys0 ys0.length := rfl
    rw [hF]
    simp [ruN, ruV, hok]
  · rintro i _ hi ⟨rfl, hJ⟩
    have hri := (hus i hi).ext e1
    cases hg : fcB .gtr .f32 ((powersF xs0 ys0).getD i 0) 0
    · have hno : ruOk xs0 ys0 = false := by
        unfold ruOk
        rw [allR_false (p := fun i => fcB .gtr .f32 ((powersF xs0 ys0).getD i 0) 0) hi hg, Bool.and_false]
      obtain ⟨z1, z2⟩ := ru_no hno
      rw [z1, z2]
      simp (disch := first | assumption | omega | rfl | (refine id ?_; simp only [gxD, ne_eq, reduceCtorEq, not_false_eq_true, Nat.reduceAdd, *]; done) | (refine id ?_; simp only [gxD]; omega)) only [↓gxPre, gxPost, ↓reduceIte, Nat.reduceEqDiff, reduceCtorEq, Nat.reduceAdd, huG.ia, huG.ldD, hul, hw.ia, hw.ld, hpl, hg]
      exact e1
    · have hfi : finF ((powersF xs0 ys0).getD i 0) = true := (List.all_eq_true.1 hk.2) _ (by rw [List.getD_eq_getElem?_getD, List.getElem?_eq_getElem (by omega)]; exact List.getElem_mem _)
      obtain ⟨d1, d2⟩ := hdet i hi
      have ha : fbin .quo .f32 ((powersF xs0 ys0).getD i 0) (i2f .f32 ((ys0.getD i []).length : Int)) = avgF (powersF xs0 ys0) ys0 i := rfl
      have hY : fbin .quo .f32 (logR (avgF (powersF xs0 ys0) ys0 i)) 1060205080 = ruY (powersF xs0 ys0) ys0 i := rfl
      obtain ⟨f1, f2⟩ := avg_dom (p := powersF xs0 ys0) (ys := ys0) (i := i) hfi hg d1 (by omega)
      simp (disch := first | assumption | omega | rfl | (refine id ?_; simp only [gxD, ne_eq, reduceCtorEq, not_false_eq_true, Nat.reduceAdd, *]; done) | (refine id ?_; simp only [gxD]; omega)) only [↓gxPre, gxPost, ↓reduceIte, Nat.reduceEqDiff, reduceCtorEq, Nat.reduceAdd, huG.ia, huG.ldD, hul, hw.ia, hw.ld, hpl, hg, hri.len, ha]
      refine callR_pure (i_LogNumber_ok f1 f2) (.inl rfl) ?_
      simp (disch := first | assumption | omega | rfl | (refine id ?_; simp only [gxD, ne_eq, reduceCtorEq, not_false_eq_true, Nat.reduceAdd, *]; done) | (refine id ?_; simp only [gxD]; omega)) only [↓gxPre, gxPost, ↓reduceIte, Nat.reduceEqDiff, reduceCtorEq, Nat.reduceAdd, hY]
      refine ⟨?_, Nat.forall_lt_succ_right.2 ⟨hJ, hg⟩⟩
      simp [ruA, ruB, ruC, ruD, foldI_succ]
theorem s_RoughnessOf_law {H : Heap} {v0 u0 : Value} {xs0 : List Nat} {ys0 : List (List Nat)} (A : AF H v0 xs0) (B : AS H u0 ys0) :
    ACalls Try.prog n_s_RoughnessOf [.agg #[v0, u0]] H fun r H' => r = .tuple #[.float .f32 (ruN xs0 ys0), .bool (ruV xs0 ys0)] ∧ Ext H H' := by
  have hm := B.le
  have hnx : ys0.length ≤ 2 ^ 40 := by unfold totL at hm; omega
  have o1 := A.rd.one
  have o2 := B.rd.one'
  obtain ⟨us, hu, hul, hus⟩ := B.rd
  refine k_s_RoughnessOf.run rfl ?_
  unfold c_s_RoughnessOf
  simp (disch := first | assumption | omega | rfl | (refine id ?_; simp only [gxD, ne_eq, reduceCtorEq, not_false_eq_true, Nat.reduceAdd, *]; done) | (refine id ?_; simp only [gxD]; omega)) only [↓gxPre, gxPost, ↓reduceIte, Nat.reduceEqDiff, reduceCtorEq, Nat.reduceAdd]
  refine callR_new ?_
  intro K eK hb nK
  refine callR_of (s_PowersOfBands_law (A.ext eK) ⟨B.rd.ext eK, B.le, B.w⟩) ?_
  rintro _ G ⟨eG, w, rfl, ow, lw⟩
  have e1 := eK.trans eG
  have hbG := (eG.blk _ (by omega)).trans hb
  have vw := ow.one
  have huG := hu.ext e1
  cases hk : (validBandsF xs0 ys0 && (powersF xs0 ys0).all finF)
  · obtain ⟨z1, z2⟩ := ru_no (xs := xs0) (ys := ys0) (by simp only [ruOk, hk, Bool.false_and])
    rw [z1, z2]
    simp (disch := first | assumption | omega | rfl | (refine id ?_; simp only [gxD, ne_eq, reduceCtorEq, not_false_eq_true, Nat.reduceAdd, *]; done) | (refine id ?_; simp only [gxD]; omega)) only [↓gxPre, gxPost, ↓reduceIte, Nat.reduceEqDiff, reduceCtorEq, Nat.reduceAdd, hbG, huG.len, hul]
    exact e1
  rw [hk] at ow
  simp only [selL_t] at ow
  have hw := ow.fs
  rw [Bool.and_eq_true] at hk
  by_cases h2 : (ys0.length : Int) < 2
  · obtain ⟨z1, z2⟩ := ru_no (xs := xs0) (ys := ys0) (by simp only [ruOk, decide_eq_false (show ¬ 2 ≤ ys0.length by omega), Bool.and_false, Bool.false_and])
    rw [z1, z2]
    simp (disch := first | assumption | omega | rfl | (refine id ?_; simp only [gxD, ne_eq, reduceCtorEq, not_false_eq_true, Nat.reduceAdd, *]; done) | (refine id ?_; simp only [gxD]; omega)) only [↓gxPre, gxPost, ↓reduceIte, Nat.reduceEqDiff, reduceCtorEq, Nat.reduceAdd, hbG, huG.len, hul, h2]
    exact e1
  have hpl : (powersF xs0 ys0).length = ys0.length + 1 := by simp [powersF, tabL_length]
  have hvb := vb_yes hk.1
  have hdet := det_le hk.1
  simp (disch := first | assumption | omega | rfl | (refine id ?_; simp only [gxD, ne_eq, reduceCtorEq, not_false_eq_true, Nat.reduceAdd, *]; done) | (refine id ?_; simp only [gxD]; omega)) only [↓gxPre, gxPost, ↓reduceIte, Nat.reduceEqDiff, reduceCtorEq, Nat.reduceAdd, hbG, huG.len, hul, h2]
  refine loop_forH ys0.length (fun i => [.pointer (some ⟨H.n, 0, some 2⟩), w, .int .i64 ys0.length, .float .f32 (ruA i), .float .f32 (ruB (powersF xs0 ys0) ys0 i), .float .f32 (ruC i), .float .f32 (ruD (powersF xs0 ys0) ys0 i), .int .i64 i])
    (fun i F => F = G ∧ ∀ j, j < i → fcB .gtr .f32 ((powersF xs0 ys0).getD j 0) 0 = true) rfl ⟨rfl, by intros; omega⟩ ?_ ?_
  · rintro _ ⟨rfl, hJ⟩
    have hok : ruOk xs0 ys0 = true := by simp only [ruOk, hk.1, hk.2, decide_eq_true (show 2 ≤ ys0.length by omega), allR.2 hJ, Bool.and_self]
    simp (disch := first | assumption | omega | rfl | (refine id ?_; simp only [gxD, ne_eq, reduceCtorEq, not_false_eq_true, Nat.reduceAdd, *]; done) | (refine id ?_; simp only [gxD]; omega)) only [↓gxPre, gxPost, ↓reduceIte, Nat.reduceEqDiff, reduceCtorEq, Nat.reduceAdd, Int.lt_irrefl]
    refine callR_pure s_l02Number_ok (.inl rfl) ?_
    simp (disch := first | assumption | omega | rfl | (refine id ?_; simp only [gxD, ne_eq, reduceCtorEq, not_false_eq_true, Nat.reduceAdd, *]; done) | (refine id ?_; simp only [gxD]; omega)) only [↓gxPre, gxPost, ↓reduceIte, Nat.reduceEqDiff, reduceCtorEq, Nat.reduceAdd, numV]
    refine ⟨?_, e1⟩
    have hF : fbin .quo .f32 (fbin .sub .f32 (fbin .mul .f32 (i2f .f32 (ys0.length : Int)) (ruD (powersF xs0 ys0) ys0 ys0.length)) (fbin .mul .f32 (ruA ys0.length) (ruB (powersF xs0 ys0) ys0 ys0.length))) (fbin .sub .f32 (fbin .mul .f32 (i2f .f32 (ys0.length : Int)) (ruC ys0.length)) (fbin .mul .f32 (ruA ys0.length) (ruA ys0.length))) = ruF (powersF xs0 ys0) ys0 ys0.length := rfl
    rw [hF]
    simp [ruN, ruV, hok]
  · rintro i _ hi ⟨rfl, hJ⟩
    have hri := (hus i hi).ext e1
    cases hg : fcB .gtr .f32 ((powersF xs0 ys0).getD i 0) 0
    · have hno : ruOk xs0 ys0 = false := by
        unfold ruOk
        rw [allR_false (p := fun i => fcB .gtr .f32 ((powersF xs0 ys0).getD i 0) 0) hi hg, Bool.and_false]
      obtain ⟨z1, z2⟩ := ru_no hno
      rw [z1, z2]
      simp (disch := first | assumption | omega | rfl | (refine id ?_; simp only [gxD, ne_eq, reduceCtorEq, not_false_eq_true, Nat.reduceAdd, *]; done) | (refine id ?_; simp only [gxD]; omega)) only [↓gxPre, gxPost, ↓reduceIte, Nat.reduceEqDiff, reduceCtorEq, Nat.reduceAdd, hbG, huG.ia, huG.ldD, hul, hw.ia, hw.ld, hpl, hg]
      exact e1
    · have hfi : finF ((powersF xs0 ys0).getD i 0) = true := (List.all_eq_true.1 hk.2) _ (by rw [List.getD_eq_getElem?_getD, List.getElem?_eq_getElem (by omega)]; exact List.getElem_mem _)
      obtain ⟨d1, d2⟩ := hdet i hi
      have ha : fbin .quo .f32 ((powersF xs0 ys0).getD i 0) (i2f .f32 ((ys0.getD i []).length : Int)) = avgF (powersF xs0 ys0) ys0 i := rfl
      have hY : fbin .quo .f32 (logR (avgF (powersF xs0 ys0) ys0 i)) 1060205080 = ruY (powersF xs0 ys0) ys0 i := rfl
      obtain ⟨f1, f2⟩ := avg_dom (p := powersF xs0 ys0) (ys := ys0) (i := i) hfi hg d1 (by omega)
      simp (disch := first | assumption | omega | rfl | (refine id ?_; simp only [gxD, ne_eq, reduceCtorEq, not_false_eq_true, Nat.reduceAdd, *]; done) | (refine id ?_; simp only [gxD]; omega)) only [↓gxPre, gxPost, ↓reduceIte, Nat.reduceEqDiff, reduceCtorEq, Nat.reduceAdd, hbG, huG.ia, huG.ldD, hul, hw.ia, hw.ld, hpl, hg, hri.len, ha]
      refine callR_pure (s_l01Log_ok f1 f2) (.inl rfl) ?_
      simp (disch := first | assumption | omega | rfl | (refine id ?_; simp only [gxD, ne_eq, reduceCtorEq, not_false_eq_true, Nat.reduceAdd, *]; done) | (refine id ?_; simp only [gxD]; omega)) only [↓gxPre, gxPost, ↓reduceIte, Nat.reduceEqDiff, reduceCtorEq, Nat.reduceAdd, hY]
      refine ⟨?_, Nat.forall_lt_succ_right.2 ⟨hJ, hg⟩⟩
      simp [ruA, ruB, ruC, ruD, foldI_succ]
end Go.Proofs.Ytkojmlpaamdhoae
