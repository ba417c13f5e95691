/- What the functions of the program do: contracts that are proved. -/
import Derived.Test.YtkojmlpaamdhoaeRipplesOfXNToYB
namespace Go.Proofs.Ytkojmlpaamdhoae
open Go.Gx
set_option maxRecDepth 100000
set_option linter.unusedSimpArgs false
set_option linter.unusedVariables false

theorem c_half32 : FinW .f32 1056964608 ∧ fval .f32 1056964608 = 1 / 2 := by
  have h : FloatKind.f32.decode 1056964608 = .number false 8388608 (-24) := by decide +kernel
  refine ⟨⟨_, _, _, h⟩, ?_⟩
  unfold fval
  rw [h]
  show sg false * _ = _
  unfold p2
  decide +kernel
theorem c_16 : FinW .f32 1098907648 ∧ fval .f32 1098907648 = 16 := by
  have h : FloatKind.f32.decode 1098907648 = .number false 8388608 (-19) := by decide +kernel
  refine ⟨⟨_, _, _, h⟩, ?_⟩
  unfold fval
  rw [h]
  show sg false * _ = _
  unfold p2
  decide +kernel
theorem c_3 : FinW .f32 1077936128 ∧ fval .f32 1077936128 = 3 := by
  have h : FloatKind.f32.decode 1077936128 = .number false 12582912 (-22) := by decide +kernel
  refine ⟨⟨_, _, _, h⟩, ?_⟩
  unfold fval
  rw [h]
  show sg false * _ = _
  unfold p2
  decide +kernel
theorem c_mhalf : FinW .f32 3204448256 ∧ fval .f32 3204448256 = -(1 / 2) := by
  have h : FloatKind.f32.decode 3204448256 = .number true 8388608 (-24) := by decide +kernel
  refine ⟨⟨_, _, _, h⟩, ?_⟩
  unfold fval
  rw [h]
  show sg true * _ = _
  unfold p2
  decide +kernel
def In32 (r : Nat) (a b : Rat) : Prop := FinW .f32 r ∧ a ≤ fval .f32 r ∧ fval .f32 r ≤ b
theorem In32_of {v a b : Rat} {r : Nat} (ha : Rep FloatKind.f32.format a) (hb : Rep FloatKind.f32.format b) (h1 : a ≤ v) (h2 : v ≤ b) (h3 : -(65536 : Rat) ≤ a) (h4 : b ≤ 65536) (g : Bd v (topK .f32) → Gives .f32 v r) : In32 r a b := by
  have h5 := p2_le (show (16 : Int) ≤ 127 by decide)
  have e : p2 16 = ((65536 : Nat) : Rat) := p2_nat 16
  have e2 : ((65536 : Nat) : Rat) = 65536 := rfl
  have ht := top32
  rw [e, e2] at h5
  have g' := g (by unfold Bd; constructor <;> grind_linarith)
  exact ⟨g'.1, g'.ge ha h1, g'.le hb h2⟩
theorem repI (n : Int) (h : n.natAbs ≤ 65536) {c : Rat} (e : c = (n : Rat)) : Rep FloatKind.f32.format c := by
  have hB : 2 * FloatKind.f32.format.binade = 16777216 := by decide
  rw [e]
  exact Rep.int (by decide) n (by omega)
theorem scale_dom {x : Nat} (h : scaleF x = true) : In32 x (1 / 2) 16 := by
  unfold scaleF at h
  rw [Bool.and_eq_true] at h
  have hx : FinW .f32 x := by
    obtain ⟨s1, m1, e1, hd1⟩ := c_half32.1
    obtain ⟨s2, m2, e2, hd2⟩ := c_16.1
    have g1 : ((FloatKind.f32.decode x).order (.number s1 m1 e1) == some .gt || (FloatKind.f32.decode x).order (.number s1 m1 e1) == some .eq) = true := by
      have := h.1
      rw [← hd1]
      exact this
    have g2 : ((FloatKind.f32.decode x).order (.number s2 m2 e2) == some .lt || (FloatKind.f32.decode x).order (.number s2 m2 e2) == some .eq) = true := by
      have := h.2
      rw [← hd2]
      exact this
    cases hd : FloatKind.f32.decode x with
    | nan a b =>
      rw [hd] at g1
      simp [Ieee.Datum.order] at g1
    | infinity s =>
      rw [hd] at g1 g2
      cases s
      · simp [Ieee.Datum.order] at g2
      · simp [Ieee.Datum.order] at g1
    | number s m e => exact ⟨s, m, e, hd⟩
  have h1 := h.1
  have h2 := h.2
  rw [fcB_geq hx c_half32.1, c_half32.2] at h1
  rw [fcB_leq hx c_16.1, c_16.2] at h2
  exact ⟨hx, of_decide_eq_true h1, of_decide_eq_true h2⟩
def kR (x : Nat) : Int := (f2i .f64 (intF 1 (f64 (fbin .mul .f32 1077936128 x))) .i64).getD 0
def kU (x : Nat) (k : Nat) : Nat := fbin .quo .f32 (i2f .f32 ((k : Int) - kR x)) x
def kA (x : Nat) (k : Nat) : Nat := fbin .mul .f32 (fbin .mul .f32 3204448256 (kU x k)) (kU x k)
def kW (x : Nat) (k : Nat) : Nat := fbin .quo .f32 (expR (kA x k)) x
def kC (x : Nat) (k : Nat) : Nat × Nat := (fbin .mul .f32 (narF (phX (f64 (kU x k)))) (kW x k), fbin .mul .f32 (narF (phY (f64 (kU x k)))) (kW x k))
def cv (p : Nat × Nat) : Value := .complex .f32 p.1 p.2
def kL (x : Nat) (n : Nat) : List (Nat × Nat) := (List.range n).map (kC x)
theorem kR_ok {x : Nat} (h : In32 x (1 / 2) 16) : f2i .f64 (intF 1 (f64 (fbin .mul .f32 1077936128 x))) .i64 = some (kR x) ∧ 0 ≤ kR x ∧ kR x ≤ 66 := by
  obtain ⟨a, b, c⟩ := h
  obtain ⟨f, g1, g2⟩ := In32_of (repI 0 (by decide) rfl) (repI 48 (by decide) rfl) (by show (0 : Rat) ≤ _; rw [c_3.2]; grind_linarith) (by show _ ≤ (48 : Rat); rw [c_3.2]; grind_linarith) (by decide) (by decide) (fmul_val c_3.1 a)
  obtain ⟨w, wv⟩ := f64_fin f
  have e0 : ((0 : Int) : Rat) = 0 := rfl
  have e48 : ((48 : Int) : Rat) = 48 := rfl
  rw [e0] at g1
  rw [e48] at g2
  obtain ⟨n, n1, n2, n3⟩ := ceil_ok w (by rw [wv]; exact g1) (by rw [wv]; grind_linarith)
  have hn : kR x = n := by unfold kR; rw [n1]; rfl
  rw [hn]
  exact ⟨n1, n2, n3⟩
theorem kU_in {x : Nat} (h : In32 x (1 / 2) 16) {k : Nat} (hk : (k : Int) ≤ 2 * kR x) : In32 (kU x k) (-132) 132 := by
  obtain ⟨a, b, c⟩ := h
  obtain ⟨_, r0', r1'⟩ := kR_ok ⟨a, b, c⟩
  have hz : ((k : Int) - kR x).natAbs ≤ 66 := by omega
  unfold kU
  generalize (k : Int) - kR x = z at *
  have hz1 : ((-66 : Int) : Rat) ≤ (z : Rat) := Rat.intCast_le_intCast.2 (by omega)
  have hz2 : (z : Rat) ≤ ((66 : Int) : Rat) := Rat.intCast_le_intCast.2 (by omega)
  have em : ((-66 : Int) : Rat) = -66 := rfl
  have ep : ((66 : Int) : Rat) = 66 := rfl
  rw [em] at hz1
  rw [ep] at hz2
  have ht := top32
  have h7 := p2_le (show (7 : Int) ≤ 127 by decide)
  have e7 : p2 7 = ((128 : Nat) : Rat) := p2_nat 7
  have e7' : ((128 : Nat) : Rat) = 128 := rfl
  rw [e7, e7'] at h7
  have g := i2f_val (k := .f32) (n := z) (by unfold Bd; constructor <;> grind_linarith)
  have hv := g.exact (repI z (by omega) rfl)
  have hx0 : fval .f32 x ≠ 0 := by intro hh; rw [hh] at b; grind_linarith
  have hq := Rat.div_mul_cancel (a := fval .f32 (i2f .f32 z)) hx0
  have gq := fun hb => fdiv_val (q := fval .f32 (i2f .f32 z) / fval .f32 x) g.1 a hx0 hq hb
  generalize fval .f32 (i2f .f32 z) / fval .f32 x = q at hq gq
  rw [hv] at hq
  have hxp : 0 < fval .f32 x := by grind_linarith
  have q1 : -132 ≤ q := by
    refine Rat.le_of_mul_le_mul_right (c := fval .f32 x) ?_ hxp
    rw [hq]; grind_linarith
  have q2 : q ≤ 132 := by
    refine Rat.le_of_mul_le_mul_right (c := fval .f32 x) ?_ hxp
    rw [hq]; grind_linarith
  exact In32_of (repI (-132) (by decide) rfl) (repI 132 (by decide) rfl) q1 q2 (by decide) (by decide) gq
theorem kA_in {x : Nat} (h : In32 x (1 / 2) 16) {k : Nat} (hk : (k : Int) ≤ 2 * kR x) : FinW .f32 (kA x k) ∧ fval .f32 (kA x k) ≤ 0 := by
  obtain ⟨a, b, c⟩ := kU_in h hk
  unfold kA
  generalize kU x k = u at *
  rcases (Rat.le_total : fval .f32 u ≤ 0 ∨ 0 ≤ fval .f32 u) with hs | hs
  · obtain ⟨m1, m2, m3⟩ := In32_of (r := fbin .mul .f32 3204448256 u) (repI 0 (by decide) rfl) (repI 66 (by decide) rfl) (by show (0 : Rat) ≤ _; rw [c_mhalf.2]; grind_linarith) (by show _ ≤ (66 : Rat); rw [c_mhalf.2]; grind_linarith) (by decide) (by decide) (fmul_val c_mhalf.1 a)
    have e0 : ((0 : Int) : Rat) = 0 := rfl
    have e66 : ((66 : Int) : Rat) = 66 := rfl
    rw [e0] at m2
    rw [e66] at m3
    obtain ⟨p1, p2'⟩ := mul_in m2 m3 (show (0 : Rat) ≤ -fval .f32 u by grind_linarith) (show -fval .f32 u ≤ 132 by grind_linarith)
    obtain ⟨x1, x2, x3⟩ := In32_of (r := fbin .mul .f32 (fbin .mul .f32 3204448256 u) u) (repI (-8712) (by decide) rfl) (repI 0 (by decide) rfl) (by show (-8712 : Rat) ≤ _; grind_linarith) (by show _ ≤ (0 : Rat); grind_linarith) (by decide) (by decide) (fmul_val m1 a)
    exact ⟨x1, x3⟩
  · obtain ⟨m1, m2, m3⟩ := In32_of (r := fbin .mul .f32 3204448256 u) (repI (-66) (by decide) rfl) (repI 0 (by decide) rfl) (by show (-66 : Rat) ≤ _; rw [c_mhalf.2]; grind_linarith) (by show _ ≤ (0 : Rat); rw [c_mhalf.2]; grind_linarith) (by decide) (by decide) (fmul_val c_mhalf.1 a)
    have e0 : ((0 : Int) : Rat) = 0 := rfl
    have e66 : ((-66 : Int) : Rat) = -66 := rfl
    rw [e66] at m2
    rw [e0] at m3
    obtain ⟨p1, p2'⟩ := mul_in (show (0 : Rat) ≤ -fval .f32 (fbin .mul .f32 3204448256 u) by grind_linarith) (show -fval .f32 (fbin .mul .f32 3204448256 u) ≤ 66 by grind_linarith) hs c
    obtain ⟨x1, x2, x3⟩ := In32_of (r := fbin .mul .f32 (fbin .mul .f32 3204448256 u) u) (repI (-8712) (by decide) rfl) (repI 0 (by decide) rfl) (by show (-8712 : Rat) ≤ _; grind_linarith) (by show _ ≤ (0 : Rat); grind_linarith) (by decide) (by decide) (fmul_val m1 a)
    exact ⟨x1, x3⟩
theorem expR_in {x : Nat} (hx : FinW .f32 x) (h0 : fval .f32 x ≤ 0) : In32 (expR x) 0 1 := by
  obtain ⟨a, b⟩ := f64_fin hx
  obtain ⟨c, d, e⟩ := expW_in a (by rw [b]; exact h0)
  have hp := p2_le (show (0 : Int) ≤ 127 by decide)
  have ht := top32
  rw [p2_zero] at hp
  obtain ⟨w, hw, g⟩ := f2f_fin c (by unfold Bd; constructor <;> grind_linarith)
  have he : expR x = w := by unfold expR; rw [hw]; rfl
  rw [he]
  exact ⟨g.1, g.ge (repI 0 (by decide) rfl) d, g.le (repI 1 (by decide) rfl) e⟩
theorem kW_in {x : Nat} (h : In32 x (1 / 2) 16) {k : Nat} (hk : (k : Int) ≤ 2 * kR x) : In32 (kW x k) 0 2 := by
  obtain ⟨f, f0⟩ := kA_in h hk
  obtain ⟨e1, e2, e3⟩ := expR_in f f0
  obtain ⟨a, b, c⟩ := h
  unfold kW
  generalize expR (kA x k) = e at *
  have hx0 : fval .f32 x ≠ 0 := by intro hh; rw [hh] at b; grind_linarith
  have hq := Rat.div_mul_cancel (a := fval .f32 e) hx0
  have gq := fun hb => fdiv_val (q := fval .f32 e / fval .f32 x) e1 a hx0 hq hb
  generalize fval .f32 e / fval .f32 x = q at hq gq
  have hxp : 0 < fval .f32 x := by grind_linarith
  have q1 : 0 ≤ q := by
    refine Rat.le_of_mul_le_mul_right (c := fval .f32 x) ?_ hxp
    rw [hq]; grind_linarith
  have q2 : q ≤ 2 := by
    refine Rat.le_of_mul_le_mul_right (c := fval .f32 x) ?_ hxp
    rw [hq]; grind_linarith
  exact In32_of (repI 0 (by decide) rfl) (repI 2 (by decide) rfl) q1 q2 (by decide) (by decide) gq
theorem kC_fin {x : Nat} (h : In32 x (1 / 2) 16) {k : Nat} (hk : (k : Int) ≤ 2 * kR x) : finF (kC x k).1 = true ∧ finF (kC x k).2 = true := by
  obtain ⟨u1, u2, u3⟩ := kU_in h hk
  obtain ⟨w1, w2, w3⟩ := kW_in h hk
  obtain ⟨v1, v2⟩ := f64_fin u1
  obtain ⟨_, _, _, hf⟩ := frac_in v1 (by rw [v2]; grind_linarith) (by rw [v2]; grind_linarith)
  obtain ⟨x1, x2⟩ := phX_in hf
  obtain ⟨_, n1, n2⟩ := nar_in x1
  obtain ⟨_, n3, n4⟩ := nar_in x2
  have hw : Bd (fval .f32 (kW x k)) 2 := by unfold Bd; constructor <;> grind_linarith
  clear hf x1 x2
  have m1 := bd_mul n2 hw
  have m2 := bd_mul n4 hw
  unfold Bd at m1 m2
  simp only [kC]
  clear u1 u2 u3 v1 v2 w2 w3 hw h hk
  generalize narF (phX (f64 (kU x k))) = a at *
  generalize narF (phY (f64 (kU x k))) = b at *
  generalize kW x k = w at *
  have f1 := In32_of (repI (-4) (by decide) rfl) (repI 4 (by decide) rfl) (show ((-4 : Int) : Rat) ≤ fval .f32 a * fval .f32 w from by show (-4 : Rat) ≤ _; grind_linarith) (show fval .f32 a * fval .f32 w ≤ ((4 : Int) : Rat) from by show _ ≤ (4 : Rat); grind_linarith) (by decide) (by decide) (fmul_val n1 w1)
  have f2 := In32_of (repI (-4) (by decide) rfl) (repI 4 (by decide) rfl) (show ((-4 : Int) : Rat) ≤ fval .f32 b * fval .f32 w from by show (-4 : Rat) ≤ _; grind_linarith) (show fval .f32 b * fval .f32 w ≤ ((4 : Int) : Rat) from by show _ ≤ (4 : Rat); grind_linarith) (by decide) (by decide) (fmul_val n3 w1)
  exact ⟨f1.1.fin, f2.1.fin⟩
theorem kC_1 (x k : Nat) : fbin .mul .f32 (narF (phX (f64 (kU x k)))) (kW x k) = (kC x k).1 := by simp only [kC]
theorem kC_2 (x k : Nat) : fbin .mul .f32 (narF (phY (f64 (kU x k)))) (kW x k) = (kC x k).2 := by simp only [kC]
theorem kL_succ (x n : Nat) : (kL x n).map cv ++ [.complex .f32 (kC x n).1 (kC x n).2] = (kL x (n + 1)).map cv := by simp [kL, List.range_succ, cv]
theorem i_kernel_ok {H : Heap} {x : Nat} (h : In32 x (1 / 2) 16) : ACalls Try.prog n_i_kernel [.float .f32 x] H fun r H' => Ext H H' ∧ H.n < H'.n ∧ r = .tuple #[.slice (some ⟨H.n, 0, none⟩) (2 * (kR x).toNat + 1) (2 * (kR x).toNat + 1), .int .i64 (kR x)] ∧ H'.blk H.n = some ⟨true, t_complex64, (kL x (2 * (kR x).toNat + 1)).map cv⟩ := by
  obtain ⟨a1, a2, a3⟩ := kR_ok h
  have ha := acv_trunc a1
  refine k_i_kernel.run rfl ?_
  unfold c_i_kernel
  simp (disch := first | assumption | omega | rfl | (refine id ?_; simp only [gxD, ne_eq, reduceCtorEq, not_false_eq_true, Nat.reduceAdd, *]; done) | (refine id ?_; simp only [gxD]; omega)) only [↓gxPre, gxPost, ↓reduceIte, Nat.reduceEqDiff, reduceCtorEq, Nat.reduceAdd]
  refine callR_pure m_Ceil_ok (.inl rfl) ?_
  simp (disch := first | assumption | omega | rfl | (refine id ?_; simp only [gxD, ne_eq, reduceCtorEq, not_false_eq_true, Nat.reduceAdd, *]; done) | (refine id ?_; simp only [gxD]; omega)) only [↓gxPre, gxPost, ↓reduceIte, Nat.reduceEqDiff, reduceCtorEq, Nat.reduceAdd, ha]
  obtain ⟨R, hR⟩ : ∃ R : Nat, kR x = R := ⟨(kR x).toNat, by omega⟩
  rw [hR, Int.toNat_natCast]
  rw [hR] at a2 a3
  refine loop_forH (2 * R + 1) (fun i => [.float .f32 x, .int .i64 (R : Int), .slice (some ⟨H.n, 0, none⟩) i i, .int .i64 (2 * (R : Int) + 1), .int .i64 (i : Int)])
    (fun i G => H.n + 1 ≤ G.n ∧ Ext H G ∧ G.blk H.n = some ⟨true, t_complex64, (kL x i).map cv⟩) rfl ⟨by simp only [new_n]; omega, ⟨by first | omega | (simp only [new_n, put_n]; omega) | (simp only [new_n, put_n] at *; omega), fun i hi => by simp (disch := first | assumption | omega | rfl | (refine id ?_; simp only [gxD, ne_eq, reduceCtorEq, not_false_eq_true, Nat.reduceAdd, *]; done) | (refine id ?_; simp only [gxD]; omega)) only [↓gxPre, gxPost, ↓reduceIte, Nat.reduceEqDiff, reduceCtorEq, Nat.reduceAdd, *]⟩, by simp (disch := first | assumption | omega | rfl | (refine id ?_; simp only [gxD, ne_eq, reduceCtorEq, not_false_eq_true, Nat.reduceAdd, *]; done) | (refine id ?_; simp only [gxD]; omega)) only [↓gxPre, gxPost, ↓reduceIte, Nat.reduceEqDiff, reduceCtorEq, Nat.reduceAdd]; rfl⟩ ?_ ?_
  · rintro G ⟨g1, g2, g3⟩
    have c : ¬ (((2 * R + 1 : Nat) : Int) < 2 * (R : Int) + 1) := by omega
    simp (disch := first | assumption | omega | rfl | (refine id ?_; simp only [gxD, ne_eq, reduceCtorEq, not_false_eq_true, Nat.reduceAdd, *]; done) | (refine id ?_; simp only [gxD]; omega)) only [↓gxPre, gxPost, ↓reduceIte, Nat.reduceEqDiff, reduceCtorEq, Nat.reduceAdd, c]
    exact ⟨g2, by omega, g3⟩
  · rintro i G hi ⟨g1, g2, g3⟩
    have hk : (i : Int) ≤ 2 * kR x := by omega
    have c : (i : Int) < 2 * (R : Int) + 1 := by omega
    have hU : fbin .quo .f32 (i2f .f32 ((i : Int) - (R : Int))) x = kU x i := by rw [← hR]; rfl
    have hA : fbin .mul .f32 (fbin .mul .f32 3204448256 (kU x i)) (kU x i) = kA x i := rfl
    have hW : fbin .quo .f32 (expR (kA x i)) x = kW x i := rfl
    obtain ⟨u1, u2, u3⟩ := kU_in h hk
    obtain ⟨f1, f0⟩ := kA_in h hk
    obtain ⟨v1, v2⟩ := f64_fin u1
    have hl64 := f64_lt u1
    simp (disch := first | assumption | omega | rfl | (refine id ?_; simp only [gxD, ne_eq, reduceCtorEq, not_false_eq_true, Nat.reduceAdd, *]; done) | (refine id ?_; simp only [gxD]; omega)) only [↓gxPre, gxPost, ↓reduceIte, Nat.reduceEqDiff, reduceCtorEq, Nat.reduceAdd, c, hU, hA]
    refine callR_pure (i_ExpNumber_ok f1 f0) (.inl rfl) ?_
    simp (disch := first | assumption | omega | rfl | (refine id ?_; simp only [gxD, ne_eq, reduceCtorEq, not_false_eq_true, Nat.reduceAdd, *]; done) | (refine id ?_; simp only [gxD]; omega)) only [↓gxPre, gxPost, ↓reduceIte, Nat.reduceEqDiff, reduceCtorEq, Nat.reduceAdd, hW]
    refine callR_pure (i_PhasorOf_ok v1 hl64 (by rw [v2]; grind_linarith) (by rw [v2]; grind_linarith)) (.inl rfl) ?_
    unfold phV
    simp (disch := first | assumption | omega | rfl | (refine id ?_; simp only [gxD, ne_eq, reduceCtorEq, not_false_eq_true, Nat.reduceAdd, *]; done) | (refine id ?_; simp only [gxD]; omega)) only [↓gxPre, gxPost, ↓reduceIte, Nat.reduceEqDiff, reduceCtorEq, Nat.reduceAdd]
    refine callR_pure i_ScaleComplex_ok (.inl rfl) ?_
    have hml : ((kL x i).map cv).length = i := by simp [kL]
    have hsn := kL_succ x i
    rw [kC_1, kC_2]
    obtain ⟨p1, p2', p3, p4⟩ := push_at g2 g3 (Nat.le_refl _) (by omega) hsn
    have oc : one (Value.complex .f32 (kC x i).1 (kC x i).2) = true := rfl
    simp (disch := first | assumption | omega | rfl | (refine id ?_; simp only [gxD, ne_eq, reduceCtorEq, not_false_eq_true, Nat.reduceAdd, *]; done) | (refine id ?_; simp only [gxD]; omega)) only [↓gxPre, gxPost, ↓reduceIte, Nat.reduceEqDiff, reduceCtorEq, Nat.reduceAdd, g3]
    exact ⟨by simp, by omega, p1, by rw [hsn]⟩
theorem s_l03Kernel_ok {H : Heap} {x : Nat} (h : In32 x (1 / 2) 16) : ACalls Try.prog n_s_l03Kernel [.float .f32 x] H fun r H' => Ext H H' ∧ H.n < H'.n ∧ r = .slice (some ⟨H.n, 0, none⟩) (2 * (kR x).toNat + 1) (2 * (kR x).toNat + 1) ∧ H'.blk H.n = some ⟨true, t_complex64, (kL x (2 * (kR x).toNat + 1)).map cv⟩ := by
  obtain ⟨a1, a2, a3⟩ := kR_ok h
  have ha := acv_trunc a1
  refine k_s_l03Kernel.run rfl ?_
  unfold c_s_l03Kernel
  simp (disch := first | assumption | omega | rfl | (refine id ?_; simp only [gxD, ne_eq, reduceCtorEq, not_false_eq_true, Nat.reduceAdd, *]; done) | (refine id ?_; simp only [gxD]; omega)) only [↓gxPre, gxPost, ↓reduceIte, Nat.reduceEqDiff, reduceCtorEq, Nat.reduceAdd]
  refine callR_pure m_Ceil_ok (.inl rfl) ?_
  simp (disch := first | assumption | omega | rfl | (refine id ?_; simp only [gxD, ne_eq, reduceCtorEq, not_false_eq_true, Nat.reduceAdd, *]; done) | (refine id ?_; simp only [gxD]; omega)) only [↓gxPre, gxPost, ↓reduceIte, Nat.reduceEqDiff, reduceCtorEq, Nat.reduceAdd, ha]
  obtain ⟨R, hR⟩ : ∃ R : Nat, kR x = R := ⟨(kR x).toNat, by omega⟩
  rw [hR, Int.toNat_natCast]
  rw [hR] at a2 a3
  refine loop_forH (2 * R + 1) (fun i => [.float .f32 x, .int .i64 (R : Int), .slice (some ⟨H.n, 0, none⟩) i i, .int .i64 (i : Int)])
    (fun i G => H.n + 1 ≤ G.n ∧ Ext H G ∧ G.blk H.n = some ⟨true, t_complex64, (kL x i).map cv⟩) rfl ⟨by simp only [new_n]; omega, ⟨by first | omega | (simp only [new_n, put_n]; omega) | (simp only [new_n, put_n] at *; omega), fun i hi => by simp (disch := first | assumption | omega | rfl | (refine id ?_; simp only [gxD, ne_eq, reduceCtorEq, not_false_eq_true, Nat.reduceAdd, *]; done) | (refine id ?_; simp only [gxD]; omega)) only [↓gxPre, gxPost, ↓reduceIte, Nat.reduceEqDiff, reduceCtorEq, Nat.reduceAdd, *]⟩, by simp (disch := first | assumption | omega | rfl | (refine id ?_; simp only [gxD, ne_eq, reduceCtorEq, not_false_eq_true, Nat.reduceAdd, *]; done) | (refine id ?_; simp only [gxD]; omega)) only [↓gxPre, gxPost, ↓reduceIte, Nat.reduceEqDiff, reduceCtorEq, Nat.reduceAdd]; rfl⟩ ?_ ?_
  · rintro G ⟨g1, g2, g3⟩
    have c : ¬ (((2 * R + 1 : Nat) : Int) ≤ 2 * (R : Int)) := by omega
    simp (disch := first | assumption | omega | rfl | (refine id ?_; simp only [gxD, ne_eq, reduceCtorEq, not_false_eq_true, Nat.reduceAdd, *]; done) | (refine id ?_; simp only [gxD]; omega)) only [↓gxPre, gxPost, ↓reduceIte, Nat.reduceEqDiff, reduceCtorEq, Nat.reduceAdd, c]
    exact ⟨g2, by omega, g3⟩
  · rintro i G hi ⟨g1, g2, g3⟩
    have hk : (i : Int) ≤ 2 * kR x := by omega
    have c : (i : Int) ≤ 2 * (R : Int) := by omega
    have hU : fbin .quo .f32 (i2f .f32 ((i : Int) - (R : Int))) x = kU x i := by rw [← hR]; rfl
    have hA : fbin .mul .f32 (fbin .mul .f32 3204448256 (kU x i)) (kU x i) = kA x i := rfl
    have hW : fbin .quo .f32 (expR (kA x i)) x = kW x i := rfl
    obtain ⟨u1, u2, u3⟩ := kU_in h hk
    obtain ⟨f1, f0⟩ := kA_in h hk
    obtain ⟨v1, v2⟩ := f64_fin u1
    have hl64 := f64_lt u1
    simp (disch := first | assumption | omega | rfl | (refine id ?_; simp only [gxD, ne_eq, reduceCtorEq, not_false_eq_true, Nat.reduceAdd, *]; done) | (refine id ?_; simp only [gxD]; omega)) only [↓gxPre, gxPost, ↓reduceIte, Nat.reduceEqDiff, reduceCtorEq, Nat.reduceAdd, c, hU, hA]
    refine callR_pure (s_l01Exp_ok f1 f0) (.inl rfl) ?_
    simp (disch := first | assumption | omega | rfl | (refine id ?_; simp only [gxD, ne_eq, reduceCtorEq, not_false_eq_true, Nat.reduceAdd, *]; done) | (refine id ?_; simp only [gxD]; omega)) only [↓gxPre, gxPost, ↓reduceIte, Nat.reduceEqDiff, reduceCtorEq, Nat.reduceAdd, hW]
    refine callR_pure (s_l01Phasor_ok v1 (by rw [v2]; grind_linarith) (by rw [v2]; grind_linarith)) (.inl rfl) ?_
    unfold phV
    simp (disch := first | assumption | omega | rfl | (refine id ?_; simp only [gxD, ne_eq, reduceCtorEq, not_false_eq_true, Nat.reduceAdd, *]; done) | (refine id ?_; simp only [gxD]; omega)) only [↓gxPre, gxPost, ↓reduceIte, Nat.reduceEqDiff, reduceCtorEq, Nat.reduceAdd]
    refine callR_pure s_l01Scale_ok (.inl rfl) ?_
    have hml : ((kL x i).map cv).length = i := by simp [kL]
    have hsn := kL_succ x i
    rw [kC_1, kC_2]
    obtain ⟨p1, p2', p3, p4⟩ := push_at g2 g3 (Nat.le_refl _) (by omega) hsn
    have oc : one (Value.complex .f32 (kC x i).1 (kC x i).2) = true := rfl
    simp (disch := first | assumption | omega | rfl | (refine id ?_; simp only [gxD, ne_eq, reduceCtorEq, not_false_eq_true, Nat.reduceAdd, *]; done) | (refine id ?_; simp only [gxD]; omega)) only [↓gxPre, gxPost, ↓reduceIte, Nat.reduceEqDiff, reduceCtorEq, Nat.reduceAdd, g3]
    exact ⟨by simp, by omega, p1, by rw [hsn]⟩
end Go.Proofs.Ytkojmlpaamdhoae

namespace Go.Proofs.Ytkojmlpaamdhoae
open Go.Gx
set_option maxRecDepth 100000
set_option linter.unusedSimpArgs false
set_option linter.unusedVariables false

def finC (p : Nat × Nat) : Bool := finF p.1 && finF p.2
theorem cv_ld {H : Heap} {v : Value} {xs : List (Nat × Nat)} (h : Sl H v (xs.map cv)) (j : Nat) (h1 : j < xs.length) : aLd (elp v j) H = some (.complex .f32 (xs.getD j (0, 0)).1 (xs.getD j (0, 0)).2) := by
  rw [Sl.ld h j (by simpa using h1)]
  simp [List.getD_eq_getElem?_getD, h1, cv]
theorem cv_ia {H : Heap} {v : Value} {xs : List (Nat × Nat)} (h : Sl H v (xs.map cv)) (k : IntKind) (j : Int) (h0 : 0 ≤ j) (h1 : j < xs.length) : aIa v (.int k j) H = some (elp v j.toNat) := Sl.ia h k j h0 (by simpa using h1)
theorem cv_len {H : Heap} {v : Value} {xs : List (Nat × Nat)} (h : Sl H v (xs.map cv)) : aLen v = some (.int .i64 xs.length) := by simpa using Sl.len h
theorem kL_len (x n : Nat) : (kL x n).length = n := by simp [kL]
theorem i_IsFiniteComplex_ok {H : Heap} {a b : Nat} : ACalls Try.prog n_i_IsFiniteComplex [.complex .f32 a b] H fun r H' => r = .bool (finF a && finF b) ∧ H' = H := by
  refine k_i_IsFiniteComplex.run rfl ?_
  unfold c_i_IsFiniteComplex
  simp (disch := first | assumption | omega | rfl | (refine id ?_; simp only [gxD, ne_eq, reduceCtorEq, not_false_eq_true, Nat.reduceAdd, *]; done) | (refine id ?_; simp only [gxD]; omega)) only [↓gxPre, gxPost, ↓reduceIte, Nat.reduceEqDiff, reduceCtorEq, Nat.reduceAdd]
  refine callR_pure i_IsFinite_ok (.inl rfl) ?_
  cases h : finF a
  · simp (disch := first | assumption | omega | rfl | (refine id ?_; simp only [gxD, ne_eq, reduceCtorEq, not_false_eq_true, Nat.reduceAdd, *]; done) | (refine id ?_; simp only [gxD]; omega)) only [↓gxPre, gxPost, ↓reduceIte, Nat.reduceEqDiff, reduceCtorEq, Nat.reduceAdd]
    simp
  · simp (disch := first | assumption | omega | rfl | (refine id ?_; simp only [gxD, ne_eq, reduceCtorEq, not_false_eq_true, Nat.reduceAdd, *]; done) | (refine id ?_; simp only [gxD]; omega)) only [↓gxPre, gxPost, ↓reduceIte, Nat.reduceEqDiff, reduceCtorEq, Nat.reduceAdd]
    refine callR_pure i_IsFinite_ok (.inl rfl) ?_
    simp (disch := first | assumption | omega | rfl | (refine id ?_; simp only [gxD, ne_eq, reduceCtorEq, not_false_eq_true, Nat.reduceAdd, *]; done) | (refine id ?_; simp only [gxD]; omega)) only [↓gxPre, gxPost, ↓reduceIte, Nat.reduceEqDiff, reduceCtorEq, Nat.reduceAdd]
    simp
theorem i_finiteComplex_ok {H : Heap} {v : Value} {xs : List (Nat × Nat)} (hv : Sl H v (xs.map cv)) (hn : xs.length ≤ 2 ^ 40) : ACalls Try.prog n_i_finiteComplex [v] H fun r H' => r = .tuple #[if xs.all finC = true then v else .slice none 0 0, .bool (xs.all finC)] ∧ H' = H := by
  refine k_i_finiteComplex.run rfl ?_
  unfold c_i_finiteComplex
  have o := Sl.one hv
  simp (disch := first | assumption | omega | rfl | (refine id ?_; simp only [gxD, ne_eq, reduceCtorEq, not_false_eq_true, Nat.reduceAdd, *]; done) | (refine id ?_; simp only [gxD]; omega)) only [↓gxPre, gxPost, ↓reduceIte, Nat.reduceEqDiff, reduceCtorEq, Nat.reduceAdd, cv_len hv]
  refine loop_forH xs.length (fun i => [v, v, .int .i64 xs.length, .int .i64 i]) (fun i G => G = H ∧ ∀ j, j < i → finC (xs.getD j (0, 0)) = true) rfl ⟨rfl, by intros; omega⟩ ?_ ?_
  · rintro _ ⟨rfl, hJ⟩
    have hall : xs.all finC = true := (allD (0, 0)).2 hJ
    simp (disch := first | assumption | omega | rfl | (refine id ?_; simp only [gxD, ne_eq, reduceCtorEq, not_false_eq_true, Nat.reduceAdd, *]; done) | (refine id ?_; simp only [gxD]; omega)) only [↓gxPre, gxPost, ↓reduceIte, Nat.reduceEqDiff, reduceCtorEq, Nat.reduceAdd, Int.lt_irrefl]
    simp [hall]
  · rintro i _ hi ⟨rfl, hJ⟩
    simp (disch := first | assumption | omega | rfl | (refine id ?_; simp only [gxD, ne_eq, reduceCtorEq, not_false_eq_true, Nat.reduceAdd, *]; done) | (refine id ?_; simp only [gxD]; omega)) only [↓gxPre, gxPost, ↓reduceIte, Nat.reduceEqDiff, reduceCtorEq, Nat.reduceAdd, cv_ia hv, cv_ld hv]
    refine callR_pure i_IsFiniteComplex_ok (.inl rfl) ?_
    cases hf : (finF (xs.getD i (0, 0)).1 && finF (xs.getD i (0, 0)).2)
    · have hno : xs.all finC = false := by
        cases ha : xs.all finC
        · rfl
        · have := (allD (0, 0)).1 ha i hi
          unfold finC at this
          rw [hf] at this
          cases this
      simp (disch := first | assumption | omega | rfl | (refine id ?_; simp only [gxD, ne_eq, reduceCtorEq, not_false_eq_true, Nat.reduceAdd, *]; done) | (refine id ?_; simp only [gxD]; omega)) only [↓gxPre, gxPost, ↓reduceIte, Nat.reduceEqDiff, reduceCtorEq, Nat.reduceAdd]
      simp [hno]
    · simp (disch := first | assumption | omega | rfl | (refine id ?_; simp only [gxD, ne_eq, reduceCtorEq, not_false_eq_true, Nat.reduceAdd, *]; done) | (refine id ?_; simp only [gxD]; omega)) only [↓gxPre, gxPost, ↓reduceIte, Nat.reduceEqDiff, reduceCtorEq, Nat.reduceAdd]
      exact ⟨by simp, Nat.forall_lt_succ_right.2 ⟨hJ, hf⟩⟩
end Go.Proofs.Ytkojmlpaamdhoae

namespace Go.Proofs.Ytkojmlpaamdhoae
open Go.Gx
set_option maxRecDepth 100000
set_option linter.unusedSimpArgs false
set_option linter.unusedVariables false

def nkF (n : Int) : Nat := (f2f .f64 (i2f .f64 n) .f32).getD 0
def markC (k : Int) (j : Nat) : Value := .complex .f32 (nkF (k + (j : Int))) 1065353216
theorem nk_ok {n : Int} (h0 : 0 ≤ n) (h1 : n ≤ 2 ^ 62) : f2f .f64 (i2f .f64 n) .f32 = some (nkF n) ∧ FinW .f32 (nkF n) := by
  have e62 : p2 62 = ((4611686018427387904 : Nat) : Rat) := p2_nat 62
  have a1 : ((0 : Int) : Rat) ≤ (n : Rat) := Rat.intCast_le_intCast.2 h0
  have a2 : (n : Rat) ≤ ((4611686018427387904 : Int) : Rat) := Rat.intCast_le_intCast.2 (by omega)
  have e0 : ((0 : Int) : Rat) = 0 := rfl
  have e4 : ((4611686018427387904 : Int) : Rat) = ((4611686018427387904 : Nat) : Rat) := rfl
  rw [e0] at a1
  rw [e4, ← e62] at a2
  have t64 := top_ge (show (62 : Int) ≤ 1023 by decide)
  have t127 := p2_le (show (62 : Int) ≤ 127 by decide)
  have t32 := top32
  have hp := p2_pos 62
  have g := i2f_val (k := .f64) (n := n) (by unfold Bd; constructor <;> grind_linarith)
  have hb := g.bd (Rep.p2 (by decide)) (show Bd (n : Rat) (p2 62) by unfold Bd; constructor <;> grind_linarith)
  unfold Bd at hb
  obtain ⟨w, hw, gw⟩ := f2f_fin g.1 (by unfold Bd; constructor <;> grind_linarith)
  have hz : nkF n = w := by unfold nkF; rw [hw]; rfl
  rw [hz]
  exact ⟨hw, gw.1⟩
theorem one_nar : f2f .f64 4607182418800017408 .f32 = some 1065353216 := by decide +kernel
theorem one_fin32 : FinW .f32 1065353216 := by
  have h : FloatKind.f32.decode 1065353216 = .number false 8388608 (-23) := by decide +kernel
  exact ⟨_, _, _, h⟩
theorem acv_markC {n : Int} (h0 : 0 ≤ n) (h1 : n ≤ 2 ^ 62) : acv (.c .f32) (.complex .f64 (i2f .f64 n) 4607182418800017408) = some (.complex .f32 (nkF n) 1065353216) := by
  unfold acv
  simp only [(nk_ok h0 h1).1, one_nar]
theorem acv_wideC {a b : Nat} : acv (.c .f64) (.complex .f32 a b) = some (.complex .f64 (f64 a) (f64 b)) := by
  unfold acv
  simp only [f2f_wide]
theorem feq_self {w : Nat} (h : FinW .f32 w) : feq .f32 w w = true := by
  have := finW_neq h
  have e : fcB .neq .f32 w w = !feq .f32 w w := rfl
  rw [e] at this
  simpa using this
theorem w_sameComplex_ok {H : Heap} {a b : Nat} : ACalls Try.prog n_w_sameComplex [.complex .f64 a b, .complex .f64 a b] H fun r H' => r = .bool true ∧ H' = H := by
  refine k_w_sameComplex.run rfl ?_
  unfold c_w_sameComplex
  simp (disch := first | assumption | omega | rfl | (refine id ?_; simp only [gxD, ne_eq, reduceCtorEq, not_false_eq_true, Nat.reduceAdd, *]; done) | (refine id ?_; simp only [gxD]; omega)) only [↓gxPre, gxPost, ↓reduceIte, Nat.reduceEqDiff, reduceCtorEq, Nat.reduceAdd]
  refine callR_pure w_sameFloat_ok (.inl rfl) ?_
  simp (disch := first | assumption | omega | rfl | (refine id ?_; simp only [gxD, ne_eq, reduceCtorEq, not_false_eq_true, Nat.reduceAdd, *]; done) | (refine id ?_; simp only [gxD]; omega)) only [↓gxPre, gxPost, ↓reduceIte, Nat.reduceEqDiff, reduceCtorEq, Nat.reduceAdd]
  refine callR_pure w_sameFloat_ok (.inl rfl) ?_
  simp (disch := first | assumption | omega | rfl | (refine id ?_; simp only [gxD, ne_eq, reduceCtorEq, not_false_eq_true, Nat.reduceAdd, *]; done) | (refine id ?_; simp only [gxD]; omega)) only [↓gxPre, gxPost, ↓reduceIte, Nat.reduceEqDiff, reduceCtorEq, Nat.reduceAdd]
theorem w_eqComplex64S_ow {H : Heap} {v u : Value} {xs : List (Nat × Nat)} (hv : Sl H v (xs.map cv)) (hu : Sl H u (xs.map cv)) (hn : xs.length ≤ 2 ^ 40) :
    ACalls Try.prog n_w_eqComplex64S [v, u] H fun r H' => r = .bool true ∧ Ext H H' := by
  refine acalls_ext ?_
  refine k_w_eqComplex64S.run rfl ?_
  unfold c_w_eqComplex64S
  simp (disch := first | assumption | omega | rfl | (refine id ?_; simp only [gxD, ne_eq, reduceCtorEq, not_false_eq_true, Nat.reduceAdd, *]; done) | (refine id ?_; simp only [gxD]; omega)) only [↓gxPre, gxPost, ↓reduceIte, Nat.reduceEqDiff, reduceCtorEq, Nat.reduceAdd, cv_len hv, cv_len hu, ne_eq, not_true]
  refine loop_for xs.length (fun i => [v, u, .int .i64 i]) rfl ?_ ?_
  · simp (disch := first | assumption | omega | rfl | (refine id ?_; simp only [gxD, ne_eq, reduceCtorEq, not_false_eq_true, Nat.reduceAdd, *]; done) | (refine id ?_; simp only [gxD]; omega)) only [↓gxPre, gxPost, ↓reduceIte, Nat.reduceEqDiff, reduceCtorEq, Nat.reduceAdd, cv_len hv, Int.lt_irrefl]
  · intro i hi
    simp (disch := first | assumption | omega | rfl | (refine id ?_; simp only [gxD, ne_eq, reduceCtorEq, not_false_eq_true, Nat.reduceAdd, *]; done) | (refine id ?_; simp only [gxD]; omega)) only [↓gxPre, gxPost, ↓reduceIte, Nat.reduceEqDiff, reduceCtorEq, Nat.reduceAdd, cv_len hv, cv_ia hv, cv_ia hu, cv_ld hv, cv_ld hu, acv_wideC]
    refine callR_pure w_sameComplex_ok (.inl rfl) ?_
    simp (disch := first | assumption | omega | rfl | (refine id ?_; simp only [gxD, ne_eq, reduceCtorEq, not_false_eq_true, Nat.reduceAdd, *]; done) | (refine id ?_; simp only [gxD]; omega)) only [↓gxPre, gxPost, ↓reduceIte, Nat.reduceEqDiff, reduceCtorEq, Nat.reduceAdd]
    simp
theorem w_markComplex64S_ow {lo hi : Nat} {H : Heap} {ty : TypeId} {v : Value} {l : List Value} {k : Int} (o : OwL lo hi H ty v l) (h0 : 0 ≤ k) (h1 : k ≤ 2 ^ 61) (hn : l.length ≤ 2 ^ 61) :
    ACalls Try.prog n_w_markComplex64S [v, .int .i64 k] H fun r H' => r = .int .i64 (k + l.length) ∧ OwL lo hi H' ty v ((List.range l.length).map (markC k)) ∧ Fr v H H' := by
  refine k_w_markComplex64S.run rfl ?_
  unfold c_w_markComplex64S
  rcases o with ⟨rfl, rfl⟩ | ⟨h, rfl, g1, g2, g3, hb⟩
  · simp (disch := first | assumption | omega | rfl | (refine id ?_; simp only [gxD, ne_eq, reduceCtorEq, not_false_eq_true, Nat.reduceAdd, *]; done) | (refine id ?_; simp only [gxD]; omega)) only [↓gxPre, gxPost, ↓reduceIte, Nat.reduceEqDiff, reduceCtorEq, Nat.reduceAdd]
    refine loop_for 0 (fun i => [.slice none 0 0, .int .i64 k, .int .i64 i]) rfl ?_ ?_
    · simp (disch := first | assumption | omega | rfl | (refine id ?_; simp only [gxD, ne_eq, reduceCtorEq, not_false_eq_true, Nat.reduceAdd, *]; done) | (refine id ?_; simp only [gxD]; omega)) only [↓gxPre, gxPost, ↓reduceIte, Nat.reduceEqDiff, reduceCtorEq, Nat.reduceAdd]
      exact ⟨by simp, .nil, .refl _ _⟩
    · intro i hi; omega
  · simp (disch := first | assumption | omega | rfl | (refine id ?_; simp only [gxD, ne_eq, reduceCtorEq, not_false_eq_true, Nat.reduceAdd, *]; done) | (refine id ?_; simp only [gxD]; omega)) only [↓gxPre, gxPost, ↓reduceIte, Nat.reduceEqDiff, reduceCtorEq, Nat.reduceAdd]
    refine loop_forH l.length (fun i => [.slice (some ⟨h, 0, none⟩) l.length l.length, .int .i64 (k + i), .int .i64 i]) (fun i H' => H' = H.put h ⟨true, ty, overL (markC k) i l⟩) (by simp) (by simp [overL_zero, put_id hb]) ?_ ?_
    · rintro _ rfl
      simp (disch := first | assumption | omega | rfl | (refine id ?_; simp only [gxD, ne_eq, reduceCtorEq, not_false_eq_true, Nat.reduceAdd, *]; done) | (refine id ?_; simp only [gxD]; omega)) only [↓gxPre, gxPost, ↓reduceIte, Nat.reduceEqDiff, reduceCtorEq, Nat.reduceAdd, Int.lt_irrefl]
      rw [overL_all _ _ _ rfl]
      exact ⟨.mk (hput_self _ _ _) (by simp) g1 g2 (by rw [put_n]; exact g3), ⟨rfl, fun i hi => hput_other _ _ _ _ fun e => hi (by rw [e]; rfl)⟩⟩
    · rintro i _ hi rfl
      have hl' := overL_length (markC k) i l (by omega)
      have := overL_set (markC k) i l (by omega)
      have hm := acv_markC (n := k + (i : Int)) (by omega) (by omega)
      have oc : one (Value.complex .f32 (nkF (k + (i : Int))) 1065353216) = true := rfl
      simp (disch := first | assumption | omega | rfl | (refine id ?_; simp only [gxD, ne_eq, reduceCtorEq, not_false_eq_true, Nat.reduceAdd, *]; done) | (refine id ?_; simp only [gxD]; omega)) only [↓gxPre, gxPost, ↓reduceIte, Nat.reduceEqDiff, reduceCtorEq, Nat.reduceAdd, hl', hm]
      simp only [markC] at this ⊢
      rw [this]
      simp [Int.add_assoc]
theorem w_heldComplex64S_ow {lo hi n : Nat} {H : Heap} {ty : TypeId} {v : Value} {k : Int} (o : OwL lo hi H ty v ((List.range n).map (markC k))) (h0 : 0 ≤ k) (h1 : k ≤ 2 ^ 61) (hn : n ≤ 2 ^ 61) :
    ACalls Try.prog n_w_heldComplex64S [v, .int .i64 k] H fun r H' => r = .int .i64 (k + n) ∧ Ext H H' := by
  refine acalls_ext ?_
  have hs := o.sl
  have hlen : aLen v = some (.int .i64 n) := by simpa using Sl.len hs
  have hia : ∀ j : Int, 0 ≤ j → j < n → aIa v (.int .i64 j) H = some (elp v j.toNat) := fun j a b => Sl.ia hs .i64 j a (by simpa using b)
  have hld : ∀ j : Nat, j < n → aLd (elp v j) H = some (.complex .f32 (nkF (k + (j : Int))) 1065353216) := fun j hj => by
    rw [Sl.ld hs j (by simpa using hj)]
    simp [hj, markC]
  refine k_w_heldComplex64S.run rfl ?_
  unfold c_w_heldComplex64S
  simp (disch := first | assumption | omega | rfl | (refine id ?_; simp only [gxD, ne_eq, reduceCtorEq, not_false_eq_true, Nat.reduceAdd, *]; done) | (refine id ?_; simp only [gxD]; omega)) only [↓gxPre, gxPost, ↓reduceIte, Nat.reduceEqDiff, reduceCtorEq, Nat.reduceAdd]
  refine loop_for n (fun i => [v, .int .i64 (k + i), .int .i64 i]) (by simp) ?_ ?_
  · simp (disch := first | assumption | omega | rfl | (refine id ?_; simp only [gxD, ne_eq, reduceCtorEq, not_false_eq_true, Nat.reduceAdd, *]; done) | (refine id ?_; simp only [gxD]; omega)) only [↓gxPre, gxPost, ↓reduceIte, Nat.reduceEqDiff, reduceCtorEq, Nat.reduceAdd, hlen, Int.lt_irrefl]
  · intro i hi
    have hm := acv_markC (n := k + (i : Int)) (by omega) (by omega)
    have f1 := feq_self (nk_ok (n := k + (i : Int)) (by omega) (by omega)).2
    have f2 := feq_self one_fin32
    simp (disch := first | assumption | omega | rfl | (refine id ?_; simp only [gxD, ne_eq, reduceCtorEq, not_false_eq_true, Nat.reduceAdd, *]; done) | (refine id ?_; simp only [gxD]; omega)) only [↓gxPre, gxPost, ↓reduceIte, Nat.reduceEqDiff, reduceCtorEq, Nat.reduceAdd, hlen, hia, hld, hm, f1, f2, Bool.and_self]
    simp [Int.add_assoc]
end Go.Proofs.Ytkojmlpaamdhoae

namespace Go.Proofs.Ytkojmlpaamdhoae
open Go.Gx
set_option maxRecDepth 100000
set_option linter.unusedSimpArgs false
set_option linter.unusedVariables false

def ripStep (ks : List (Nat × Nat)) (xs : List Nat) (i : Nat) (R : Int) (k : Nat) (s : Nat × Nat) : Nat × Nat :=
  if 0 ≤ (i : Int) + k - R ∧ (i : Int) + k - R < xs.length then (fbin .add .f32 s.1 (fbin .mul .f32 (ks.getD k (0, 0)).1 (xs.getD ((i : Int) + k - R).toNat 0)), fbin .add .f32 s.2 (fbin .mul .f32 (fneg .f32 (ks.getD k (0, 0)).2) (xs.getD ((i : Int) + k - R).toNat 0))) else s
def ripS (ks : List (Nat × Nat)) (xs : List Nat) (i : Nat) (R : Int) : Nat → Nat × Nat := foldI (ripStep ks xs i R) (0, 0)
theorem ripS_succ (ks : List (Nat × Nat)) (xs : List Nat) (i : Nat) (R : Int) (k : Nat) : ripS ks xs i R (k + 1) = ripStep ks xs i R k (ripS ks xs i R k) := rfl
def ripL (ks : List (Nat × Nat)) (xs : List Nat) (R : Int) (n : Nat) : List (Nat × Nat) := (List.range n).map fun i => ripS ks xs i R ks.length
theorem ripL_succ (ks : List (Nat × Nat)) (xs : List Nat) (R : Int) (n : Nat) : (ripL ks xs R n).map cv ++ [.complex .f32 (ripS ks xs n R ks.length).1 (ripS ks xs n R ks.length).2] = (ripL ks xs R (n + 1)).map cv := by simp [ripL, List.range_succ, cv]
theorem i_ConjugateOf_ok {H : Heap} {a b : Nat} : ACalls Try.prog n_i_ConjugateOf [.complex .f32 a b] H fun r H' => r = .complex .f32 a (fneg .f32 b) ∧ H' = H := by
  refine k_i_ConjugateOf.run rfl ?_
  unfold c_i_ConjugateOf
  simp (disch := first | assumption | omega | rfl | (refine id ?_; simp only [gxD, ne_eq, reduceCtorEq, not_false_eq_true, Nat.reduceAdd, *]; done) | (refine id ?_; simp only [gxD]; omega)) only [↓gxPre, gxPost, ↓reduceIte, Nat.reduceEqDiff, reduceCtorEq, Nat.reduceAdd]
theorem s_l01Conj_ok {H : Heap} {a b : Nat} : ACalls Try.prog n_s_l01Conj [.complex .f32 a b] H fun r H' => r = .complex .f32 a (fneg .f32 b) ∧ H' = H := by
  refine k_s_l01Conj.run rfl ?_
  unfold c_s_l01Conj
  simp (disch := first | assumption | omega | rfl | (refine id ?_; simp only [gxD, ne_eq, reduceCtorEq, not_false_eq_true, Nat.reduceAdd, *]; done) | (refine id ?_; simp only [gxD]; omega)) only [↓gxPre, gxPost, ↓reduceIte, Nat.reduceEqDiff, reduceCtorEq, Nat.reduceAdd]
theorem i_add_ok {H : Heap} {a b c d : Nat} : ACalls Try.prog n_i_add [.complex .f32 a b, .complex .f32 c d] H fun r H' => r = .complex .f32 (fbin .add .f32 a c) (fbin .add .f32 b d) ∧ H' = H := by
  refine k_i_add.run rfl ?_
  unfold c_i_add
  simp (disch := first | assumption | omega | rfl | (refine id ?_; simp only [gxD, ne_eq, reduceCtorEq, not_false_eq_true, Nat.reduceAdd, *]; done) | (refine id ?_; simp only [gxD]; omega)) only [↓gxPre, gxPost, ↓reduceIte, Nat.reduceEqDiff, reduceCtorEq, Nat.reduceAdd]
theorem s_l01CFinite_ok {H : Heap} {a b : Nat} : ACalls Try.prog n_s_l01CFinite [.complex .f32 a b] H fun r H' => r = .bool (finF a && finF b) ∧ H' = H := by
  refine k_s_l01CFinite.run rfl ?_
  unfold c_s_l01CFinite
  simp (disch := first | assumption | omega | rfl | (refine id ?_; simp only [gxD, ne_eq, reduceCtorEq, not_false_eq_true, Nat.reduceAdd, *]; done) | (refine id ?_; simp only [gxD]; omega)) only [↓gxPre, gxPost, ↓reduceIte, Nat.reduceEqDiff, reduceCtorEq, Nat.reduceAdd]
  refine callR_pure s_l01Finite_ok (.inl rfl) ?_
  cases h : finF a
  · simp (disch := first | assumption | omega | rfl | (refine id ?_; simp only [gxD, ne_eq, reduceCtorEq, not_false_eq_true, Nat.reduceAdd, *]; done) | (refine id ?_; simp only [gxD]; omega)) only [↓gxPre, gxPost, ↓reduceIte, Nat.reduceEqDiff, reduceCtorEq, Nat.reduceAdd]
    simp
  · simp (disch := first | assumption | omega | rfl | (refine id ?_; simp only [gxD, ne_eq, reduceCtorEq, not_false_eq_true, Nat.reduceAdd, *]; done) | (refine id ?_; simp only [gxD]; omega)) only [↓gxPre, gxPost, ↓reduceIte, Nat.reduceEqDiff, reduceCtorEq, Nat.reduceAdd]
    refine callR_pure s_l01Finite_ok (.inl rfl) ?_
    simp (disch := first | assumption | omega | rfl | (refine id ?_; simp only [gxD, ne_eq, reduceCtorEq, not_false_eq_true, Nat.reduceAdd, *]; done) | (refine id ?_; simp only [gxD]; omega)) only [↓gxPre, gxPost, ↓reduceIte, Nat.reduceEqDiff, reduceCtorEq, Nat.reduceAdd]
    simp
theorem s_l03CFinite_ok {H : Heap} {v : Value} {xs : List (Nat × Nat)} (hv : Sl H v (xs.map cv)) (hn : xs.length ≤ 2 ^ 40) : ACalls Try.prog n_s_l03CFinite [v] H fun r H' => r = .bool (xs.all finC) ∧ H' = H := by
  refine k_s_l03CFinite.run rfl ?_
  unfold c_s_l03CFinite
  have o := Sl.one hv
  simp (disch := first | assumption | omega | rfl | (refine id ?_; simp only [gxD, ne_eq, reduceCtorEq, not_false_eq_true, Nat.reduceAdd, *]; done) | (refine id ?_; simp only [gxD]; omega)) only [↓gxPre, gxPost, ↓reduceIte, Nat.reduceEqDiff, reduceCtorEq, Nat.reduceAdd, cv_len hv]
  refine loop_forH xs.length (fun i => [v, .int .i64 xs.length, .int .i64 i]) (fun i G => G = H ∧ ∀ j, j < i → finC (xs.getD j (0, 0)) = true) rfl ⟨rfl, by intros; omega⟩ ?_ ?_
  · rintro _ ⟨rfl, hJ⟩
    have hall : xs.all finC = true := (allD (0, 0)).2 hJ
    simp (disch := first | assumption | omega | rfl | (refine id ?_; simp only [gxD, ne_eq, reduceCtorEq, not_false_eq_true, Nat.reduceAdd, *]; done) | (refine id ?_; simp only [gxD]; omega)) only [↓gxPre, gxPost, ↓reduceIte, Nat.reduceEqDiff, reduceCtorEq, Nat.reduceAdd, Int.lt_irrefl]
    simp [hall]
  · rintro i _ hi ⟨rfl, hJ⟩
    simp (disch := first | assumption | omega | rfl | (refine id ?_; simp only [gxD, ne_eq, reduceCtorEq, not_false_eq_true, Nat.reduceAdd, *]; done) | (refine id ?_; simp only [gxD]; omega)) only [↓gxPre, gxPost, ↓reduceIte, Nat.reduceEqDiff, reduceCtorEq, Nat.reduceAdd, cv_ia hv, cv_ld hv]
    refine callR_pure s_l01CFinite_ok (.inl rfl) ?_
    cases hf : (finF (xs.getD i (0, 0)).1 && finF (xs.getD i (0, 0)).2)
    · have hno : xs.all finC = false := by
        cases ha : xs.all finC
        · rfl
        · have := (allD (0, 0)).1 ha i hi
          unfold finC at this
          rw [hf] at this
          cases this
      simp (disch := first | assumption | omega | rfl | (refine id ?_; simp only [gxD, ne_eq, reduceCtorEq, not_false_eq_true, Nat.reduceAdd, *]; done) | (refine id ?_; simp only [gxD]; omega)) only [↓gxPre, gxPost, ↓reduceIte, Nat.reduceEqDiff, reduceCtorEq, Nat.reduceAdd]
      simp [hno]
    · simp (disch := first | assumption | omega | rfl | (refine id ?_; simp only [gxD, ne_eq, reduceCtorEq, not_false_eq_true, Nat.reduceAdd, *]; done) | (refine id ?_; simp only [gxD]; omega)) only [↓gxPre, gxPost, ↓reduceIte, Nat.reduceEqDiff, reduceCtorEq, Nat.reduceAdd]
      exact ⟨by simp, Nat.forall_lt_succ_right.2 ⟨hJ, hf⟩⟩
theorem i_RipplesOf_law {H : Heap} {v0 : Value} {xs0 : List Nat} {a1 : Nat} (A : AF H v0 xs0) (b1 : a1 < 2 ^ 32) :
    ACalls Try.prog n_i_RipplesOf [v0, .float .f32 a1] H fun r H' => ListR cv t_complex64 H (isLongF xs0 && scaleF a1 && (ripL (kL a1 (2 * (kR a1).toNat + 1)) xs0 (kR a1) xs0.length).all finC) (ripL (kL a1 (2 * (kR a1).toNat + 1)) xs0 (kR a1) xs0.length) r H' := by
  refine k_i_RipplesOf.run rfl ?_
  unfold c_i_RipplesOf
  have o0 := A.rd.one
  simp (disch := first | assumption | omega | rfl | (refine id ?_; simp only [gxD, ne_eq, reduceCtorEq, not_false_eq_true, Nat.reduceAdd, *]; done) | (refine id ?_; simp only [gxD]; omega)) only [↓gxPre, gxPost, ↓reduceIte, Nat.reduceEqDiff, reduceCtorEq, Nat.reduceAdd]
  refine callR_ext (i_isLong_ok A.rd A.le) ?_
  intro K n1 bb1
  have eK : Ext H K := ⟨n1, bb1⟩
  cases hl : isLongF xs0
  · simp (disch := first | assumption | omega | rfl | (refine id ?_; simp only [gxD, ne_eq, reduceCtorEq, not_false_eq_true, Nat.reduceAdd, *]; done) | (refine id ?_; simp only [gxD]; omega)) only [↓gxPre, gxPost, ↓reduceIte, Nat.reduceEqDiff, reduceCtorEq, Nat.reduceAdd, Bool.false_and, Bool.true_and, Bool.and_true, Bool.and_false, Bool.or_true, Bool.true_or, Bool.false_or, Bool.or_false, Bool.and_self, Bool.or_self]
    exact .no rfl eK
  simp (disch := first | assumption | omega | rfl | (refine id ?_; simp only [gxD, ne_eq, reduceCtorEq, not_false_eq_true, Nat.reduceAdd, *]; done) | (refine id ?_; simp only [gxD]; omega)) only [↓gxPre, gxPost, ↓reduceIte, Nat.reduceEqDiff, reduceCtorEq, Nat.reduceAdd]
  refine callR_pure i_isScale_ok (.inl rfl) ?_
  cases hs : scaleF a1
  · simp (disch := first | assumption | omega | rfl | (refine id ?_; simp only [gxD, ne_eq, reduceCtorEq, not_false_eq_true, Nat.reduceAdd, *]; done) | (refine id ?_; simp only [gxD]; omega)) only [↓gxPre, gxPost, ↓reduceIte, Nat.reduceEqDiff, reduceCtorEq, Nat.reduceAdd, Bool.false_and, Bool.true_and, Bool.and_true, Bool.and_false, Bool.or_true, Bool.true_or, Bool.false_or, Bool.or_false, Bool.and_self, Bool.or_self]
    exact .no rfl eK
  have h := scale_dom hs
  obtain ⟨_, r1, r2⟩ := kR_ok h
  have hll := long_len hl
  simp (disch := first | assumption | omega | rfl | (refine id ?_; simp only [gxD, ne_eq, reduceCtorEq, not_false_eq_true, Nat.reduceAdd, *]; done) | (refine id ?_; simp only [gxD]; omega)) only [↓gxPre, gxPost, ↓reduceIte, Nat.reduceEqDiff, reduceCtorEq, Nat.reduceAdd]
  refine callR_of (i_kernel_ok h) ?_
  rintro _ G ⟨eG, nG, rfl, bG⟩
  have hlen := kL_len a1 (2 * (kR a1).toNat + 1)
  have e1 := eK.trans eG
  have hv := A.rd.ext e1
  obtain ⟨N, hN⟩ : ∃ N : Nat, N = 2 * (kR a1).toNat + 1 := ⟨_, rfl⟩
  rw [← hN] at bG hlen ⊢
  obtain ⟨ks, hks⟩ : ∃ ks, ks = kL a1 N := ⟨_, rfl⟩
  rw [← hks] at bG hlen ⊢
  generalize kR a1 = R at *
  have nK := eK.n
  simp (disch := first | assumption | omega | rfl | (refine id ?_; simp only [gxD, ne_eq, reduceCtorEq, not_false_eq_true, Nat.reduceAdd, *]; done) | (refine id ?_; simp only [gxD]; omega)) only [↓gxPre, gxPost, ↓reduceIte, Nat.reduceEqDiff, reduceCtorEq, Nat.reduceAdd, hv.len]
  refine loop_forH xs0.length (fun i => [v0, .slice (some ⟨K.n, 0, none⟩) N N, .int .i64 R, .slice (some ⟨G.n, 0, none⟩) i i, .int .i64 xs0.length, .int .i64 i])
    (fun i F => G.n + 1 ≤ F.n ∧ Ext G F ∧ F.blk G.n = some ⟨true, t_complex64, (ripL ks xs0 R i).map cv⟩) rfl ⟨by simp only [new_n]; omega, .new _ _, by simp (disch := first | assumption | omega | rfl | (refine id ?_; simp only [gxD, ne_eq, reduceCtorEq, not_false_eq_true, Nat.reduceAdd, *]; done) | (refine id ?_; simp only [gxD]; omega)) only [↓gxPre, gxPost, ↓reduceIte, Nat.reduceEqDiff, reduceCtorEq, Nat.reduceAdd]; rfl⟩ ?_ ?_
  · rintro F ⟨f1, f2, f3⟩
    have hrl : (ripL ks xs0 R xs0.length).length = xs0.length := by simp [ripL]
    have hsl : Sl F (.slice (some ⟨G.n, 0, none⟩) xs0.length xs0.length) ((ripL ks xs0 R xs0.length).map cv) := FS0.own f3 (by omega) (by simp [ripL])
    simp (disch := first | assumption | omega | rfl | (refine id ?_; simp only [gxD, ne_eq, reduceCtorEq, not_false_eq_true, Nat.reduceAdd, *]; done) | (refine id ?_; simp only [gxD]; omega)) only [↓gxPre, gxPost, ↓reduceIte, Nat.reduceEqDiff, reduceCtorEq, Nat.reduceAdd, Int.lt_irrefl]
    refine callR_pure (i_finiteComplex_ok hsl (by omega)) (.inl rfl) ?_
    cases hf : (ripL ks xs0 R xs0.length).all finC
    · simp (disch := first | assumption | omega | rfl | (refine id ?_; simp only [gxD, ne_eq, reduceCtorEq, not_false_eq_true, Nat.reduceAdd, *]; done) | (refine id ?_; simp only [gxD]; omega)) only [↓gxPre, gxPost, ↓reduceIte, Nat.reduceEqDiff, reduceCtorEq, Nat.reduceAdd, Bool.false_and, Bool.true_and, Bool.and_true, Bool.and_false, Bool.or_true, Bool.true_or, Bool.false_or, Bool.or_false, Bool.and_self, Bool.or_self]
      exact .no rfl (e1.trans f2)
    · simp (disch := first | assumption | omega | rfl | (refine id ?_; simp only [gxD, ne_eq, reduceCtorEq, not_false_eq_true, Nat.reduceAdd, *]; done) | (refine id ?_; simp only [gxD]; omega)) only [↓gxPre, gxPost, ↓reduceIte, Nat.reduceEqDiff, reduceCtorEq, Nat.reduceAdd, Bool.false_and, Bool.true_and, Bool.and_true, Bool.and_false, Bool.or_true, Bool.true_or, Bool.false_or, Bool.or_false, Bool.and_self, Bool.or_self]
      exact .yes rfl (e1.trans f2) (.mk f3 (by simp [ripL]) (by omega) (by omega) (by omega)) (by omega)
  · rintro i F hi ⟨f1, f2, f3⟩
    have bGF := (f2.blk _ nG).trans bG
    have hvF := hv.ext f2
    have hsl : Sl F (.slice (some ⟨K.n, 0, none⟩) N N) (ks.map cv) := FS0.own bGF (by omega) (by simp [hlen])
    simp (disch := first | assumption | omega | rfl | (refine id ?_; simp only [gxD, ne_eq, reduceCtorEq, not_false_eq_true, Nat.reduceAdd, *]; done) | (refine id ?_; simp only [gxD]; omega)) only [↓gxPre, gxPost, ↓reduceIte, Nat.reduceEqDiff, reduceCtorEq, Nat.reduceAdd]
    refine loop_for N (fun k => [v0, .slice (some ⟨K.n, 0, none⟩) N N, .int .i64 R, .slice (some ⟨G.n, 0, none⟩) i i, .int .i64 i, .complex .f32 (ripS ks xs0 i R k).1 (ripS ks xs0 i R k).2, .int .i64 xs0.length, .int .i64 i, .slice (some ⟨K.n, 0, none⟩) N N, .int .i64 N, .int .i64 k]) rfl ?_ ?_
    · have hml : ((ripL ks xs0 R i).map cv).length = i := by simp [ripL]
      have hsn := ripL_succ ks xs0 R i
      rw [hlen] at hsn
      have oc : one (Value.complex .f32 (ripS ks xs0 i R N).1 (ripS ks xs0 i R N).2) = true := rfl
      obtain ⟨p1, p2', p3, p4⟩ := push_at f2 f3 (Nat.le_refl _) (by omega) hsn
      simp (disch := first | assumption | omega | rfl | (refine id ?_; simp only [gxD, ne_eq, reduceCtorEq, not_false_eq_true, Nat.reduceAdd, *]; done) | (refine id ?_; simp only [gxD]; omega)) only [↓gxPre, gxPost, ↓reduceIte, Nat.reduceEqDiff, reduceCtorEq, Nat.reduceAdd, Int.lt_irrefl, f3]
      exact ⟨by simp, by omega, p1, by rw [hsn]⟩
    · intro k hk
      by_cases c1 : 0 ≤ (i : Int) + k - R
      · by_cases c2 : (i : Int) + k - R < xs0.length
        · have hst : ripS ks xs0 i R (k + 1) = (fbin .add .f32 (ripS ks xs0 i R k).1 (fbin .mul .f32 (ks.getD k (0, 0)).1 (xs0.getD ((i : Int) + k - R).toNat 0)), fbin .add .f32 (ripS ks xs0 i R k).2 (fbin .mul .f32 (fneg .f32 (ks.getD k (0, 0)).2) (xs0.getD ((i : Int) + k - R).toNat 0))) := by rw [ripS_succ]; exact if_pos ⟨c1, c2⟩
          simp (disch := first | assumption | omega | rfl | (refine id ?_; simp only [gxD, ne_eq, reduceCtorEq, not_false_eq_true, Nat.reduceAdd, *]; done) | (refine id ?_; simp only [gxD]; omega)) only [↓gxPre, gxPost, ↓reduceIte, Nat.reduceEqDiff, reduceCtorEq, Nat.reduceAdd, cv_ia hsl, cv_ld hsl, hvF.len, c1, c2, hvF.ia, hvF.ld]
          refine callR_of i_ConjugateOf_ok ?_
          rintro _ _ ⟨rfl, rfl⟩
          simp (disch := first | assumption | omega | rfl | (refine id ?_; simp only [gxD, ne_eq, reduceCtorEq, not_false_eq_true, Nat.reduceAdd, *]; done) | (refine id ?_; simp only [gxD]; omega)) only [↓gxPre, gxPost, ↓reduceIte, Nat.reduceEqDiff, reduceCtorEq, Nat.reduceAdd, hvF.ia, hvF.ld]
          refine callR_pure i_ScaleComplex_ok (.inl rfl) ?_
          simp (disch := first | assumption | omega | rfl | (refine id ?_; simp only [gxD, ne_eq, reduceCtorEq, not_false_eq_true, Nat.reduceAdd, *]; done) | (refine id ?_; simp only [gxD]; omega)) only [↓gxPre, gxPost, ↓reduceIte, Nat.reduceEqDiff, reduceCtorEq, Nat.reduceAdd]
          refine callR_pure i_add_ok (.inl rfl) ?_
          simp (disch := first | assumption | omega | rfl | (refine id ?_; simp only [gxD, ne_eq, reduceCtorEq, not_false_eq_true, Nat.reduceAdd, *]; done) | (refine id ?_; simp only [gxD]; omega)) only [↓gxPre, gxPost, ↓reduceIte, Nat.reduceEqDiff, reduceCtorEq, Nat.reduceAdd]
          simp [hst]
        · have hst : ripS ks xs0 i R (k + 1) = ripS ks xs0 i R k := by rw [ripS_succ]; exact if_neg fun hh => c2 hh.2
          simp (disch := first | assumption | omega | rfl | (refine id ?_; simp only [gxD, ne_eq, reduceCtorEq, not_false_eq_true, Nat.reduceAdd, *]; done) | (refine id ?_; simp only [gxD]; omega)) only [↓gxPre, gxPost, ↓reduceIte, Nat.reduceEqDiff, reduceCtorEq, Nat.reduceAdd, cv_ia hsl, cv_ld hsl, hvF.len, c1, c2]
          simp [hst]
      · have hst : ripS ks xs0 i R (k + 1) = ripS ks xs0 i R k := by rw [ripS_succ]; exact if_neg fun hh => c1 hh.1
        simp (disch := first | assumption | omega | rfl | (refine id ?_; simp only [gxD, ne_eq, reduceCtorEq, not_false_eq_true, Nat.reduceAdd, *]; done) | (refine id ?_; simp only [gxD]; omega)) only [↓gxPre, gxPost, ↓reduceIte, Nat.reduceEqDiff, reduceCtorEq, Nat.reduceAdd, cv_ia hsl, cv_ld hsl, hvF.len, c1]
        simp [hst]
theorem s_l03Ripples_ok {H : Heap} {v0 : Value} {xs0 : List Nat} {a1 : Nat} (hv0 : FS H v0 xs0) (hle : xs0.length ≤ 2 ^ 30) (h : In32 a1 (1 / 2) 16) :
    ACalls Try.prog n_s_l03Ripples [v0, .float .f32 a1] H fun r H' => Ext H H' ∧ ∃ p, H.n ≤ p ∧ p < H'.n ∧ r = .slice (some ⟨p, 0, none⟩) xs0.length xs0.length ∧ H'.blk p = some ⟨true, t_complex64, (ripL (kL a1 (2 * (kR a1).toNat + 1)) xs0 (kR a1) xs0.length).map cv⟩ := by
  refine k_s_l03Ripples.run rfl ?_
  unfold c_s_l03Ripples
  obtain ⟨_, r1, r2⟩ := kR_ok h
  simp (disch := first | assumption | omega | rfl | (refine id ?_; simp only [gxD, ne_eq, reduceCtorEq, not_false_eq_true, Nat.reduceAdd, *]; done) | (refine id ?_; simp only [gxD]; omega)) only [↓gxPre, gxPost, ↓reduceIte, Nat.reduceEqDiff, reduceCtorEq, Nat.reduceAdd]
  refine callR_of (s_l03Kernel_ok h) ?_
  rintro _ G ⟨eG, nG, rfl, bG⟩
  have hlen := kL_len a1 (2 * (kR a1).toNat + 1)
  have hv := hv0.ext eG
  obtain ⟨N, hN⟩ : ∃ N : Nat, N = 2 * (kR a1).toNat + 1 := ⟨_, rfl⟩
  rw [← hN] at bG hlen ⊢
  obtain ⟨ks, hks⟩ : ∃ ks, ks = kL a1 N := ⟨_, rfl⟩
  rw [← hks] at bG hlen ⊢
  generalize kR a1 = R at *
  have hq : ((N : Nat) : Int).tdiv 2 = R := by
    have : ((N : Nat) : Int).tdiv ((2 : Nat) : Int) = ((N / 2 : Nat) : Int) := tdivN N 2
    rw [show (2 : Int) = ((2 : Nat) : Int) from rfl, this]
    omega
  have hwr : IntKind.wrap .i64 R = R := by
    obtain ⟨R', rfl⟩ : ∃ R' : Nat, R = R' := ⟨R.toNat, by omega⟩
    exact wrN _ (by omega)
  simp (disch := first | assumption | omega | rfl | (refine id ?_; simp only [gxD, ne_eq, reduceCtorEq, not_false_eq_true, Nat.reduceAdd, *]; done) | (refine id ?_; simp only [gxD]; omega)) only [↓gxPre, gxPost, ↓reduceIte, Nat.reduceEqDiff, reduceCtorEq, Nat.reduceAdd, hq, hwr, hv.len]
  refine loop_forH xs0.length (fun i => [v0, .slice (some ⟨H.n, 0, none⟩) N N, .int .i64 R, .slice (some ⟨G.n, 0, none⟩) i i, .int .i64 xs0.length, .int .i64 i])
    (fun i F => G.n + 1 ≤ F.n ∧ Ext G F ∧ F.blk G.n = some ⟨true, t_complex64, (ripL ks xs0 R i).map cv⟩) rfl ⟨by simp only [new_n]; omega, .new _ _, by simp (disch := first | assumption | omega | rfl | (refine id ?_; simp only [gxD, ne_eq, reduceCtorEq, not_false_eq_true, Nat.reduceAdd, *]; done) | (refine id ?_; simp only [gxD]; omega)) only [↓gxPre, gxPost, ↓reduceIte, Nat.reduceEqDiff, reduceCtorEq, Nat.reduceAdd]; rfl⟩ ?_ ?_
  · rintro F ⟨f1, f2, f3⟩
    have nK := eG.n
    simp (disch := first | assumption | omega | rfl | (refine id ?_; simp only [gxD, ne_eq, reduceCtorEq, not_false_eq_true, Nat.reduceAdd, *]; done) | (refine id ?_; simp only [gxD]; omega)) only [↓gxPre, gxPost, ↓reduceIte, Nat.reduceEqDiff, reduceCtorEq, Nat.reduceAdd, Int.lt_irrefl]
    exact ⟨eG.trans f2, G.n, nK, by omega, rfl, f3⟩
  · rintro i F hi ⟨f1, f2, f3⟩
    have bGF := (f2.blk _ nG).trans bG
    have hvF := hv.ext f2
    have hsl : Sl F (.slice (some ⟨H.n, 0, none⟩) N N) (ks.map cv) := FS0.own bGF (by omega) (by simp [hlen])
    simp (disch := first | assumption | omega | rfl | (refine id ?_; simp only [gxD, ne_eq, reduceCtorEq, not_false_eq_true, Nat.reduceAdd, *]; done) | (refine id ?_; simp only [gxD]; omega)) only [↓gxPre, gxPost, ↓reduceIte, Nat.reduceEqDiff, reduceCtorEq, Nat.reduceAdd]
    refine loop_for N (fun k => [v0, .slice (some ⟨H.n, 0, none⟩) N N, .int .i64 R, .slice (some ⟨G.n, 0, none⟩) i i, .int .i64 i, .complex .f32 (ripS ks xs0 i R k).1 (ripS ks xs0 i R k).2, .int .i64 xs0.length, .int .i64 i, .int .i64 N, .int .i64 k]) rfl ?_ ?_
    · have hml : ((ripL ks xs0 R i).map cv).length = i := by simp [ripL]
      have hsn := ripL_succ ks xs0 R i
      rw [hlen] at hsn
      have oc : one (Value.complex .f32 (ripS ks xs0 i R N).1 (ripS ks xs0 i R N).2) = true := rfl
      obtain ⟨p1, p2', p3, p4⟩ := push_at f2 f3 (Nat.le_refl _) (by omega) hsn
      simp (disch := first | assumption | omega | rfl | (refine id ?_; simp only [gxD, ne_eq, reduceCtorEq, not_false_eq_true, Nat.reduceAdd, *]; done) | (refine id ?_; simp only [gxD]; omega)) only [↓gxPre, gxPost, ↓reduceIte, Nat.reduceEqDiff, reduceCtorEq, Nat.reduceAdd, Int.lt_irrefl, f3]
      exact ⟨by simp, by omega, p1, by rw [hsn]⟩
    · intro k hk
      by_cases c1 : 0 ≤ (i : Int) + k - R
      · by_cases c2 : (i : Int) + k - R < xs0.length
        · have hst : ripS ks xs0 i R (k + 1) = (fbin .add .f32 (ripS ks xs0 i R k).1 (fbin .mul .f32 (ks.getD k (0, 0)).1 (xs0.getD ((i : Int) + k - R).toNat 0)), fbin .add .f32 (ripS ks xs0 i R k).2 (fbin .mul .f32 (fneg .f32 (ks.getD k (0, 0)).2) (xs0.getD ((i : Int) + k - R).toNat 0))) := by rw [ripS_succ]; exact if_pos ⟨c1, c2⟩
          simp (disch := first | assumption | omega | rfl | (refine id ?_; simp only [gxD, ne_eq, reduceCtorEq, not_false_eq_true, Nat.reduceAdd, *]; done) | (refine id ?_; simp only [gxD]; omega)) only [↓gxPre, gxPost, ↓reduceIte, Nat.reduceEqDiff, reduceCtorEq, Nat.reduceAdd, cv_ia hsl, cv_ld hsl, hvF.len, c1, c2, hvF.ia, hvF.ld]
          refine callR_of s_l01Conj_ok ?_
          rintro _ _ ⟨rfl, rfl⟩
          simp (disch := first | assumption | omega | rfl | (refine id ?_; simp only [gxD, ne_eq, reduceCtorEq, not_false_eq_true, Nat.reduceAdd, *]; done) | (refine id ?_; simp only [gxD]; omega)) only [↓gxPre, gxPost, ↓reduceIte, Nat.reduceEqDiff, reduceCtorEq, Nat.reduceAdd, hvF.ia, hvF.ld]
          refine callR_pure s_l01Scale_ok (.inl rfl) ?_
          simp (disch := first | assumption | omega | rfl | (refine id ?_; simp only [gxD, ne_eq, reduceCtorEq, not_false_eq_true, Nat.reduceAdd, *]; done) | (refine id ?_; simp only [gxD]; omega)) only [↓gxPre, gxPost, ↓reduceIte, Nat.reduceEqDiff, reduceCtorEq, Nat.reduceAdd]
          simp [hst]
        · have hst : ripS ks xs0 i R (k + 1) = ripS ks xs0 i R k := by rw [ripS_succ]; exact if_neg fun hh => c2 hh.2
          simp (disch := first | assumption | omega | rfl | (refine id ?_; simp only [gxD, ne_eq, reduceCtorEq, not_false_eq_true, Nat.reduceAdd, *]; done) | (refine id ?_; simp only [gxD]; omega)) only [↓gxPre, gxPost, ↓reduceIte, Nat.reduceEqDiff, reduceCtorEq, Nat.reduceAdd, cv_ia hsl, cv_ld hsl, hvF.len, c1, c2]
          simp [hst]
      · have hst : ripS ks xs0 i R (k + 1) = ripS ks xs0 i R k := by rw [ripS_succ]; exact if_neg fun hh => c1 hh.1
        simp (disch := first | assumption | omega | rfl | (refine id ?_; simp only [gxD, ne_eq, reduceCtorEq, not_false_eq_true, Nat.reduceAdd, *]; done) | (refine id ?_; simp only [gxD]; omega)) only [↓gxPre, gxPost, ↓reduceIte, Nat.reduceEqDiff, reduceCtorEq, Nat.reduceAdd, cv_ia hsl, cv_ld hsl, hvF.len, c1]
        simp [hst]
theorem s_RipplesOf_law {H : Heap} {v0 : Value} {xs0 : List Nat} {a1 : Nat} (A : AF H v0 xs0) (b1 : a1 < 2 ^ 32) :
    ACalls Try.prog n_s_RipplesOf [v0, .float .f32 a1] H fun r H' => ListR cv t_complex64 H (isLongF xs0 && scaleF a1 && (ripL (kL a1 (2 * (kR a1).toNat + 1)) xs0 (kR a1) xs0.length).all finC) (ripL (kL a1 (2 * (kR a1).toNat + 1)) xs0 (kR a1) xs0.length) r H' := by
  refine k_s_RipplesOf.run rfl ?_
  unfold c_s_RipplesOf
  simp (disch := first | assumption | omega | rfl | (refine id ?_; simp only [gxD, ne_eq, reduceCtorEq, not_false_eq_true, Nat.reduceAdd, *]; done) | (refine id ?_; simp only [gxD]; omega)) only [↓gxPre, gxPost, ↓reduceIte, Nat.reduceEqDiff, reduceCtorEq, Nat.reduceAdd]
  refine callR_pure (s_l03Long_ok A.rd A.le) (.inl rfl) ?_
  cases hl : isLongF xs0
  · simp (disch := first | assumption | omega | rfl | (refine id ?_; simp only [gxD, ne_eq, reduceCtorEq, not_false_eq_true, Nat.reduceAdd, *]; done) | (refine id ?_; simp only [gxD]; omega)) only [↓gxPre, gxPost, ↓reduceIte, Nat.reduceEqDiff, reduceCtorEq, Nat.reduceAdd, Bool.false_and, Bool.true_and, Bool.and_true, Bool.and_false, Bool.or_true, Bool.true_or, Bool.false_or, Bool.or_false, Bool.and_self, Bool.or_self]
    exact .no rfl (.refl _)
  simp (disch := first | assumption | omega | rfl | (refine id ?_; simp only [gxD, ne_eq, reduceCtorEq, not_false_eq_true, Nat.reduceAdd, *]; done) | (refine id ?_; simp only [gxD]; omega)) only [↓gxPre, gxPost, ↓reduceIte, Nat.reduceEqDiff, reduceCtorEq, Nat.reduceAdd]
  refine callR_pure s_l03Scale_ok (.inl rfl) ?_
  cases hs : scaleF a1
  · simp (disch := first | assumption | omega | rfl | (refine id ?_; simp only [gxD, ne_eq, reduceCtorEq, not_false_eq_true, Nat.reduceAdd, *]; done) | (refine id ?_; simp only [gxD]; omega)) only [↓gxPre, gxPost, ↓reduceIte, Nat.reduceEqDiff, reduceCtorEq, Nat.reduceAdd, Bool.false_and, Bool.true_and, Bool.and_true, Bool.and_false, Bool.or_true, Bool.true_or, Bool.false_or, Bool.or_false, Bool.and_self, Bool.or_self]
    exact .no rfl (.refl _)
  have h := scale_dom hs
  have hll := long_len hl
  simp (disch := first | assumption | omega | rfl | (refine id ?_; simp only [gxD, ne_eq, reduceCtorEq, not_false_eq_true, Nat.reduceAdd, *]; done) | (refine id ?_; simp only [gxD]; omega)) only [↓gxPre, gxPost, ↓reduceIte, Nat.reduceEqDiff, reduceCtorEq, Nat.reduceAdd]
  refine callR_of (s_l03Ripples_ok A.rd (by omega) h) ?_
  rintro _ F ⟨eF, p, p0, p1, rfl, f3⟩
  have hrl : (ripL (kL a1 (2 * (kR a1).toNat + 1)) xs0 (kR a1) xs0.length).length = xs0.length := by simp [ripL]
  generalize ripL (kL a1 (2 * (kR a1).toNat + 1)) xs0 (kR a1) xs0.length = ls at *
  have hsl : Sl F (.slice (some ⟨p, 0, none⟩) xs0.length xs0.length) (ls.map cv) := FS0.own f3 (by omega) (by simp [hrl])
  simp (disch := first | assumption | omega | rfl | (refine id ?_; simp only [gxD, ne_eq, reduceCtorEq, not_false_eq_true, Nat.reduceAdd, *]; done) | (refine id ?_; simp only [gxD]; omega)) only [↓gxPre, gxPost, ↓reduceIte, Nat.reduceEqDiff, reduceCtorEq, Nat.reduceAdd]
  refine callR_pure (s_l03CFinite_ok hsl (by omega)) (.inl rfl) ?_
  cases hf : ls.all finC
  · simp (disch := first | assumption | omega | rfl | (refine id ?_; simp only [gxD, ne_eq, reduceCtorEq, not_false_eq_true, Nat.reduceAdd, *]; done) | (refine id ?_; simp only [gxD]; omega)) only [↓gxPre, gxPost, ↓reduceIte, Nat.reduceEqDiff, reduceCtorEq, Nat.reduceAdd, Bool.false_and, Bool.true_and, Bool.and_true, Bool.and_false, Bool.or_true, Bool.true_or, Bool.false_or, Bool.or_false, Bool.and_self, Bool.or_self]
    exact .no rfl eF
  · simp (disch := first | assumption | omega | rfl | (refine id ?_; simp only [gxD, ne_eq, reduceCtorEq, not_false_eq_true, Nat.reduceAdd, *]; done) | (refine id ?_; simp only [gxD]; omega)) only [↓gxPre, gxPost, ↓reduceIte, Nat.reduceEqDiff, reduceCtorEq, Nat.reduceAdd, Bool.false_and, Bool.true_and, Bool.and_true, Bool.and_false, Bool.or_true, Bool.true_or, Bool.false_or, Bool.or_false, Bool.and_self, Bool.or_self]
    exact .yes rfl eF (.mk f3 (by simp [hrl]) p0 p1 p1) (by omega)
end Go.Proofs.Ytkojmlpaamdhoae
