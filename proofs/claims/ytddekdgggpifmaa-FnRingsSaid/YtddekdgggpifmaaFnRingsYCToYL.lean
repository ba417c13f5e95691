/- What the functions of the program do: contracts that are proved. -/
import Derived.Test.YtddekdgggpifmaaFnRingsXAToYB
namespace Go.Proofs.Ytddekdgggpifmaa
open Go.Gx
set_option maxRecDepth 100000
set_option linter.unusedSimpArgs false
set_option linter.unusedVariables false

theorem c_half32 : FinW .f32 1056964608 ∧ fval .f32 1056964608 = 1 / 2 := by
  have h : FloatKind.f32.decode 1056964608 = .number false 8388608 (-24) := by decide +kernel
  refine ⟨⟨_, _, _, h⟩, ?_⟩
  unfold fval
  rw [h]
  show sg false * _ = _
  unfold p2
  decide +kernel
theorem c_16 : FinW .f32 1098907648 ∧ fval .f32 1098907648 = 16 := by
  have h : FloatKind.f32.decode 1098907648 = .number false 8388608 (-19) := by decide +kernel
  refine ⟨⟨_, _, _, h⟩, ?_⟩
  unfold fval
  rw [h]
  show sg false * _ = _
  unfold p2
  decide +kernel
theorem c_3 : FinW .f32 1077936128 ∧ fval .f32 1077936128 = 3 := by
  have h : FloatKind.f32.decode 1077936128 = .number false 12582912 (-22) := by decide +kernel
  refine ⟨⟨_, _, _, h⟩, ?_⟩
  unfold fval
  rw [h]
  show sg false * _ = _
  unfold p2
  decide +kernel
theorem c_mhalf : FinW .f32 3204448256 ∧ fval .f32 3204448256 = -(1 / 2) := by
  have h : FloatKind.f32.decode 3204448256 = .number true 8388608 (-24) := by decide +kernel
  refine ⟨⟨_, _, _, h⟩, ?_⟩
  unfold fval
  rw [h]
  show sg true * _ = _
  unfold p2
  decide +kernel
def In32 (r : Nat) (a b : Rat) : Prop := FinW .f32 r ∧ a ≤ fval .f32 r ∧ fval .f32 r ≤ b
theorem In32_of {v a b : Rat} {r : Nat} (ha : Rep FloatKind.f32.format a) (hb : Rep FloatKind.f32.format b) (h1 : a ≤ v) (h2 : v ≤ b) (h3 : -(65536 : Rat) ≤ a) (h4 : b ≤ 65536) (g : Bd v (topK .f32) → Gives .f32 v r) : In32 r a b := by
  have h5 := p2_le (show (16 : Int) ≤ 127 by decide)
  have e : p2 16 = ((65536 : Nat) : Rat) := p2_nat 16
  have e2 : ((65536 : Nat) : Rat) = 65536 := rfl
  have ht := top32
  rw [e, e2] at h5
  have g' := g (by unfold Bd; constructor <;> grind_linarith)
  exact ⟨g'.1, g'.ge ha h1, g'.le hb h2⟩
theorem repI (n : Int) (h : n.natAbs ≤ 65536) {c : Rat} (e : c = (n : Rat)) : Rep FloatKind.f32.format c := by
  have hB : 2 * FloatKind.f32.format.binade = 16777216 := by decide
  rw [e]
  exact Rep.int (by decide) n (by omega)
theorem scale_dom {x : Nat} (h : scaleF x = true) : In32 x (1 / 2) 16 := by
  unfold scaleF at h
  rw [Bool.and_eq_true] at h
  have hx : FinW .f32 x := by
    obtain ⟨s1, m1, e1, hd1⟩ := c_half32.1
    obtain ⟨s2, m2, e2, hd2⟩ := c_16.1
    have g1 : ((FloatKind.f32.decode x).order (.number s1 m1 e1) == some .gt || (FloatKind.f32.decode x).order (.number s1 m1 e1) == some .eq) = true := by
      have := h.1
      rw [← hd1]
      exact this
    have g2 : ((FloatKind.f32.decode x).order (.number s2 m2 e2) == some .lt || (FloatKind.f32.decode x).order (.number s2 m2 e2) == some .eq) = true := by
      have := h.2
      rw [← hd2]
      exact this
    cases hd : FloatKind.f32.decode x with
    | nan a b =>
      rw [hd] at g1
      simp [Ieee.Datum.order] at g1
    | infinity s =>
      rw [hd] at g1 g2
      cases s
      · simp [Ieee.Datum.order] at g2
      · simp [Ieee.Datum.order] at g1
    | number s m e => exact ⟨s, m, e, hd⟩
  have h1 := h.1
  have h2 := h.2
  rw [fcB_geq hx c_half32.1, c_half32.2] at h1
  rw [fcB_leq hx c_16.1, c_16.2] at h2
  exact ⟨hx, of_decide_eq_true h1, of_decide_eq_true h2⟩
def kR (x : Nat) : Int := (f2i .f64 (intF 1 (f64 (fbin .mul .f32 1077936128 x))) .i64).getD 0
def kU (x : Nat) (k : Nat) : Nat := fbin .quo .f32 (i2f .f32 ((k : Int) - kR x)) x
def kA (x : Nat) (k : Nat) : Nat := fbin .mul .f32 (fbin .mul .f32 3204448256 (kU x k)) (kU x k)
def kW (x : Nat) (k : Nat) : Nat := fbin .quo .f32 (expR (kA x k)) x
def kC (x : Nat) (k : Nat) : Nat × Nat := (fbin .mul .f32 (narF (phX (f64 (kU x k)))) (kW x k), fbin .mul .f32 (narF (phY (f64 (kU x k)))) (kW x k))
def cv (p : Nat × Nat) : Value := .complex .f32 p.1 p.2
def kL (x : Nat) (n : Nat) : List (Nat × Nat) := (List.range n).map (kC x)
theorem kR_ok {x : Nat} (h : In32 x (1 / 2) 16) : f2i .f64 (intF 1 (f64 (fbin .mul .f32 1077936128 x))) .i64 = some (kR x) ∧ 0 ≤ kR x ∧ kR x ≤ 66 := by
  obtain ⟨a, b, c⟩ := h
  obtain ⟨f, g1, g2⟩ := In32_of (repI 0 (by decide) rfl) (repI 48 (by decide) rfl) (by show (0 : Rat) ≤ _; rw [c_3.2]; grind_linarith) (by show _ ≤ (48 : Rat); rw [c_3.2]; grind_linarith) (by decide) (by decide) (fmul_val c_3.1 a)
  obtain ⟨w, wv⟩ := f64_fin f
  have e0 : ((0 : Int) : Rat) = 0 := rfl
  have e48 : ((48 : Int) : Rat) = 48 := rfl
  rw [e0] at g1
  rw [e48] at g2
  obtain ⟨n, n1, n2, n3⟩ := ceil_ok w (by rw [wv]; exact g1) (by rw [wv]; grind_linarith)
  have hn : kR x = n := by unfold kR; rw [n1]; rfl
  rw [hn]
  exact ⟨n1, n2, n3⟩
theorem kU_in {x : Nat} (h : In32 x (1 / 2) 16) {k : Nat} (hk : (k : Int) ≤ 2 * kR x) : In32 (kU x k) (-132) 132 := by
  obtain ⟨a, b, c⟩ := h
  obtain ⟨_, r0', r1'⟩ := kR_ok ⟨a, b, c⟩
  have hz : ((k : Int) - kR x).natAbs ≤ 66 := by omega
  unfold kU
  generalize (k : Int) - kR x = z at *
  have hz1 : ((-66 : Int) : Rat) ≤ (z : Rat) := Rat.intCast_le_intCast.2 (by omega)
  have hz2 : (z : Rat) ≤ ((66 : Int) : Rat) := Rat.intCast_le_intCast.2 (by omega)
  have em : ((-66 : Int) : Rat) = -66 := rfl
  have ep : ((66 : Int) : Rat) = 66 := rfl
  rw [em] at hz1
  rw [ep] at hz2
  have ht := top32
  have h7 := p2_le (show (7 : Int) ≤ 127 by decide)
  have e7 : p2 7 = ((128 : Nat) : Rat) := p2_nat 7
  have e7' : ((128 : Nat) : Rat) = 128 := rfl
  rw [e7, e7'] at h7
  have g := i2f_val (k := .f32) (n := z) (by unfold Bd; constructor <;> grind_linarith)
  have hv := g.exact (repI z (by omega) rfl)
  have hx0 : fval .f32 x ≠ 0 := by intro hh; rw [hh] at b; grind_linarith
  have hq := Rat.div_mul_cancel (a := fval .f32 (i2f .f32 z)) hx0
  have gq := fun hb => fdiv_val (q := fval .f32 (i2f .f32 z) / fval .f32 x) g.1 a hx0 hq hb
  generalize fval .f32 (i2f .f32 z) / fval .f32 x = q at hq gq
  rw [hv] at hq
  have hxp : 0 < fval .f32 x := by grind_linarith
  have q1 : -132 ≤ q := by
    refine Rat.le_of_mul_le_mul_right (c := fval .f32 x) ?_ hxp
    rw [hq]; grind_linarith
  have q2 : q ≤ 132 := by
    refine Rat.le_of_mul_le_mul_right (c := fval .f32 x) ?_ hxp
    rw [hq]; grind_linarith
  exact In32_of (repI (-132) (by decide) rfl) (repI 132 (by decide) rfl) q1 q2 (by decide) (by decide) gq
theorem kA_in {x : Nat} (h : In32 x (1 / 2) 16) {k : Nat} (hk : (k : Int) ≤ 2 * kR x) : FinW .f32 (kA x k) ∧ fval .f32 (kA x k) ≤ 0 := by
  obtain ⟨a, b, c⟩ := kU_in h hk
  unfold kA
  generalize kU x k = u at *
  rcases (Rat.le_total : fval .f32 u ≤ 0 ∨ 0 ≤ fval .f32 u) with hs | hs
  · obtain ⟨m1, m2, m3⟩ := In32_of (r := fbin .mul .f32 3204448256 u) (repI 0 (by decide) rfl) (repI 66 (by decide) rfl) (by show (0 : Rat) ≤ _; rw [c_mhalf.2]; grind_linarith) (by show _ ≤ (66 : Rat); rw [c_mhalf.2]; grind_linarith) (by decide) (by decide) (fmul_val c_mhalf.1 a)
    have e0 : ((0 : Int) : Rat) = 0 := rfl
    have e66 : ((66 : Int) : Rat) = 66 := rfl
    rw [e0] at m2
    rw [e66] at m3
    obtain ⟨p1, p2'⟩ := mul_in m2 m3 (show (0 : Rat) ≤ -fval .f32 u by grind_linarith) (show -fval .f32 u ≤ 132 by grind_linarith)
    obtain ⟨x1, x2, x3⟩ := In32_of (r := fbin .mul .f32 (fbin .mul .f32 3204448256 u) u) (repI (-8712) (by decide) rfl) (repI 0 (by decide) rfl) (by show (-8712 : Rat) ≤ _; grind_linarith) (by show _ ≤ (0 : Rat); grind_linarith) (by decide) (by decide) (fmul_val m1 a)
    exact ⟨x1, x3⟩
  · obtain ⟨m1, m2, m3⟩ := In32_of (r := fbin .mul .f32 3204448256 u) (repI (-66) (by decide) rfl) (repI 0 (by decide) rfl) (by show (-66 : Rat) ≤ _; rw [c_mhalf.2]; grind_linarith) (by show _ ≤ (0 : Rat); rw [c_mhalf.2]; grind_linarith) (by decide) (by decide) (fmul_val c_mhalf.1 a)
    have e0 : ((0 : Int) : Rat) = 0 := rfl
    have e66 : ((-66 : Int) : Rat) = -66 := rfl
    rw [e66] at m2
    rw [e0] at m3
    obtain ⟨p1, p2'⟩ := mul_in (show (0 : Rat) ≤ -fval .f32 (fbin .mul .f32 3204448256 u) by grind_linarith) (show -fval .f32 (fbin .mul .f32 3204448256 u) ≤ 66 by grind_linarith) hs c
    obtain ⟨x1, x2, x3⟩ := In32_of (r := fbin .mul .f32 (fbin .mul .f32 3204448256 u) u) (repI (-8712) (by decide) rfl) (repI 0 (by decide) rfl) (by show (-8712 : Rat) ≤ _; grind_linarith) (by show _ ≤ (0 : Rat); grind_linarith) (by decide) (by decide) (fmul_val m1 a)
    exact ⟨x1, x3⟩
theorem expR_in {x : Nat} (hx : FinW .f32 x) (h0 : fval .f32 x ≤ 0) : In32 (expR x) 0 1 := by
  obtain ⟨a, b⟩ := f64_fin hx
  obtain ⟨c, d, e⟩ := expW_in a (by rw [b]; exact h0)
  have hp := p2_le (show (0 : Int) ≤ 127 by decide)
  have ht := top32
  rw [p2_zero] at hp
  obtain ⟨w, hw, g⟩ := f2f_fin c (by unfold Bd; constructor <;> grind_linarith)
  have he : expR x = w := by unfold expR; rw [hw]; rfl
  rw [he]
  exact ⟨g.1, g.ge (repI 0 (by decide) rfl) d, g.le (repI 1 (by decide) rfl) e⟩
theorem kW_in {x : Nat} (h : In32 x (1 / 2) 16) {k : Nat} (hk : (k : Int) ≤ 2 * kR x) : In32 (kW x k) 0 2 := by
  obtain ⟨f, f0⟩ := kA_in h hk
  obtain ⟨e1, e2, e3⟩ := expR_in f f0
  obtain ⟨a, b, c⟩ := h
  unfold kW
  generalize expR (kA x k) = e at *
  have hx0 : fval .f32 x ≠ 0 := by intro hh; rw [hh] at b; grind_linarith
  have hq := Rat.div_mul_cancel (a := fval .f32 e) hx0
  have gq := fun hb => fdiv_val (q := fval .f32 e / fval .f32 x) e1 a hx0 hq hb
  generalize fval .f32 e / fval .f32 x = q at hq gq
  have hxp : 0 < fval .f32 x := by grind_linarith
  have q1 : 0 ≤ q := by
    refine Rat.le_of_mul_le_mul_right (c := fval .f32 x) ?_ hxp
    rw [hq]; grind_linarith
  have q2 : q ≤ 2 := by
    refine Rat.le_of_mul_le_mul_right (c := fval .f32 x) ?_ hxp
    rw [hq]; grind_linarith
  exact In32_of (repI 0 (by decide) rfl) (repI 2 (by decide) rfl) q1 q2 (by decide) (by decide) gq
theorem kC_fin {x : Nat} (h : In32 x (1 / 2) 16) {k : Nat} (hk : (k : Int) ≤ 2 * kR x) : finF (kC x k).1 = true ∧ finF (kC x k).2 = true := by
  obtain ⟨u1, u2, u3⟩ := kU_in h hk
  obtain ⟨w1, w2, w3⟩ := kW_in h hk
  obtain ⟨v1, v2⟩ := f64_fin u1
  obtain ⟨_, _, _, hf⟩ := frac_in v1 (by rw [v2]; grind_linarith) (by rw [v2]; grind_linarith)
  obtain ⟨x1, x2⟩ := phX_in hf
  obtain ⟨_, n1, n2⟩ := nar_in x1
  obtain ⟨_, n3, n4⟩ := nar_in x2
  have hw : Bd (fval .f32 (kW x k)) 2 := by unfold Bd; constructor <;> grind_linarith
  clear hf x1 x2
  have m1 := bd_mul n2 hw
  have m2 := bd_mul n4 hw
  unfold Bd at m1 m2
  simp only [kC]
  clear u1 u2 u3 v1 v2 w2 w3 hw h hk
  generalize narF (phX (f64 (kU x k))) = a at *
  generalize narF (phY (f64 (kU x k))) = b at *
  generalize kW x k = w at *
  have f1 := In32_of (repI (-4) (by decide) rfl) (repI 4 (by decide) rfl) (show ((-4 : Int) : Rat) ≤ fval .f32 a * fval .f32 w from by show (-4 : Rat) ≤ _; grind_linarith) (show fval .f32 a * fval .f32 w ≤ ((4 : Int) : Rat) from by show _ ≤ (4 : Rat); grind_linarith) (by decide) (by decide) (fmul_val n1 w1)
  have f2 := In32_of (repI (-4) (by decide) rfl) (repI 4 (by decide) rfl) (show ((-4 : Int) : Rat) ≤ fval .f32 b * fval .f32 w from by show (-4 : Rat) ≤ _; grind_linarith) (show fval .f32 b * fval .f32 w ≤ ((4 : Int) : Rat) from by show _ ≤ (4 : Rat); grind_linarith) (by decide) (by decide) (fmul_val n3 w1)
  exact ⟨f1.1.fin, f2.1.fin⟩
theorem kC_1 (x k : Nat) : fbin .mul .f32 (narF (phX (f64 (kU x k)))) (kW x k) = (kC x k).1 := by simp only [kC]
theorem kC_2 (x k : Nat) : fbin .mul .f32 (narF (phY (f64 (kU x k)))) (kW x k) = (kC x k).2 := by simp only [kC]
theorem kL_succ (x n : Nat) : (kL x n).map cv ++ [.complex .f32 (kC x n).1 (kC x n).2] = (kL x (n + 1)).map cv := by simp [kL, List.range_succ, cv]
end Go.Proofs.Ytddekdgggpifmaa

namespace Go.Proofs.Ytddekdgggpifmaa
open Go.Gx
set_option maxRecDepth 100000
set_option linter.unusedSimpArgs false
set_option linter.unusedVariables false

def finC (p : Nat × Nat) : Bool := finF p.1 && finF p.2
theorem cv_ld {H : Heap} {v : Value} {xs : List (Nat × Nat)} (h : Sl H v (xs.map cv)) (j : Nat) (h1 : j < xs.length) : aLd (elp v j) H = some (.complex .f32 (xs.getD j (0, 0)).1 (xs.getD j (0, 0)).2) := by
  rw [Sl.ld h j (by simpa using h1)]
  simp [List.getD_eq_getElem?_getD, h1, cv]
theorem cv_ia {H : Heap} {v : Value} {xs : List (Nat × Nat)} (h : Sl H v (xs.map cv)) (k : IntKind) (j : Int) (h0 : 0 ≤ j) (h1 : j < xs.length) : aIa v (.int k j) H = some (elp v j.toNat) := Sl.ia h k j h0 (by simpa using h1)
theorem cv_len {H : Heap} {v : Value} {xs : List (Nat × Nat)} (h : Sl H v (xs.map cv)) : aLen v = some (.int .i64 xs.length) := by simpa using Sl.len h
theorem kL_len (x n : Nat) : (kL x n).length = n := by simp [kL]
end Go.Proofs.Ytddekdgggpifmaa

namespace Go.Proofs.Ytddekdgggpifmaa
open Go.Gx
set_option maxRecDepth 100000
set_option linter.unusedSimpArgs false
set_option linter.unusedVariables false

def nkF (n : Int) : Nat := (f2f .f64 (i2f .f64 n) .f32).getD 0
def markC (k : Int) (j : Nat) : Value := .complex .f32 (nkF (k + (j : Int))) 1065353216
theorem nk_ok {n : Int} (h0 : 0 ≤ n) (h1 : n ≤ 2 ^ 62) : f2f .f64 (i2f .f64 n) .f32 = some (nkF n) ∧ FinW .f32 (nkF n) := by
  have e62 : p2 62 = ((4611686018427387904 : Nat) : Rat) := p2_nat 62
  have a1 : ((0 : Int) : Rat) ≤ (n : Rat) := Rat.intCast_le_intCast.2 h0
  have a2 : (n : Rat) ≤ ((4611686018427387904 : Int) : Rat) := Rat.intCast_le_intCast.2 (by omega)
  have e0 : ((0 : Int) : Rat) = 0 := rfl
  have e4 : ((4611686018427387904 : Int) : Rat) = ((4611686018427387904 : Nat) : Rat) := rfl
  rw [e0] at a1
  rw [e4, ← e62] at a2
  have t64 := top_ge (show (62 : Int) ≤ 1023 by decide)
  have t127 := p2_le (show (62 : Int) ≤ 127 by decide)
  have t32 := top32
  have hp := p2_pos 62
  have g := i2f_val (k := .f64) (n := n) (by unfold Bd; constructor <;> grind_linarith)
  have hb := g.bd (Rep.p2 (by decide)) (show Bd (n : Rat) (p2 62) by unfold Bd; constructor <;> grind_linarith)
  unfold Bd at hb
  obtain ⟨w, hw, gw⟩ := f2f_fin g.1 (by unfold Bd; constructor <;> grind_linarith)
  have hz : nkF n = w := by unfold nkF; rw [hw]; rfl
  rw [hz]
  exact ⟨hw, gw.1⟩
theorem one_nar : f2f .f64 4607182418800017408 .f32 = some 1065353216 := by decide +kernel
theorem one_fin32 : FinW .f32 1065353216 := by
  have h : FloatKind.f32.decode 1065353216 = .number false 8388608 (-23) := by decide +kernel
  exact ⟨_, _, _, h⟩
theorem acv_markC {n : Int} (h0 : 0 ≤ n) (h1 : n ≤ 2 ^ 62) : acv (.c .f32) (.complex .f64 (i2f .f64 n) 4607182418800017408) = some (.complex .f32 (nkF n) 1065353216) := by
  unfold acv
  simp only [(nk_ok h0 h1).1, one_nar]
theorem acv_wideC {a b : Nat} : acv (.c .f64) (.complex .f32 a b) = some (.complex .f64 (f64 a) (f64 b)) := by
  unfold acv
  simp only [f2f_wide]
theorem feq_self {w : Nat} (h : FinW .f32 w) : feq .f32 w w = true := by
  have := finW_neq h
  have e : fcB .neq .f32 w w = !feq .f32 w w := rfl
  rw [e] at this
  simpa using this
end Go.Proofs.Ytddekdgggpifmaa

namespace Go.Proofs.Ytddekdgggpifmaa
open Go.Gx
set_option maxRecDepth 100000
set_option linter.unusedSimpArgs false
set_option linter.unusedVariables false

def ripStep (ks : List (Nat × Nat)) (xs : List Nat) (i : Nat) (R : Int) (k : Nat) (s : Nat × Nat) : Nat × Nat :=
  if 0 ≤ (i : Int) + k - R ∧ (i : Int) + k - R < xs.length then (fbin .add .f32 s.1 (fbin .mul .f32 (ks.getD k (0, 0)).1 (xs.getD ((i : Int) + k - R).toNat 0)), fbin .add .f32 s.2 (fbin .mul .f32 (fneg .f32 (ks.getD k (0, 0)).2) (xs.getD ((i : Int) + k - R).toNat 0))) else s
def ripS (ks : List (Nat × Nat)) (xs : List Nat) (i : Nat) (R : Int) : Nat → Nat × Nat := foldI (ripStep ks xs i R) (0, 0)
theorem ripS_succ (ks : List (Nat × Nat)) (xs : List Nat) (i : Nat) (R : Int) (k : Nat) : ripS ks xs i R (k + 1) = ripStep ks xs i R k (ripS ks xs i R k) := rfl
def ripL (ks : List (Nat × Nat)) (xs : List Nat) (R : Int) (n : Nat) : List (Nat × Nat) := (List.range n).map fun i => ripS ks xs i R ks.length
theorem ripL_succ (ks : List (Nat × Nat)) (xs : List Nat) (R : Int) (n : Nat) : (ripL ks xs R n).map cv ++ [.complex .f32 (ripS ks xs n R ks.length).1 (ripS ks xs n R ks.length).2] = (ripL ks xs R (n + 1)).map cv := by simp [ripL, List.range_succ, cv]
end Go.Proofs.Ytddekdgggpifmaa

namespace Go.Proofs.Ytddekdgggpifmaa
open Go.Gx
set_option maxRecDepth 100000
set_option linter.unusedSimpArgs false
set_option linter.unusedVariables false

theorem wr_u64 (z : Int) : 0 ≤ IntKind.wrap .u64 z ∧ IntKind.wrap .u64 z < 2 ^ 64 := by
  unfold IntKind.wrap
  simp [IntKind.bits, IntKind.signed]
  omega
theorem and_255 (z : Int) : 0 ≤ bits .and .u64 z 255 ∧ bits .and .u64 z 255 ≤ 255 := by
  unfold bits
  simp only
  have e1 : (BitVec.ofInt (IntKind.bits .u64) z &&& BitVec.ofInt (IntKind.bits .u64) 255).toNat ≤ 255 := by
    show (BitVec.ofInt 64 z &&& BitVec.ofInt 64 255).toNat ≤ 255
    rw [BitVec.toNat_and]
    exact Nat.and_le_right
  generalize (BitVec.ofInt (IntKind.bits .u64) z &&& BitVec.ofInt (IntKind.bits .u64) 255).toNat = n at *
  unfold IntKind.wrap
  simp [IntKind.bits, IntKind.signed]
  omega
theorem wr_small {y : Int} (h0 : 0 ≤ y) (h1 : y ≤ 255) : IntKind.wrap .i64 y = y := by
  obtain ⟨n, rfl⟩ : ∃ n : Nat, y = n := ⟨y.toNat, by omega⟩
  exact wrN _ (by omega)
theorem s_l00Src_next_ok {H : Heap} {p : Nat} {ty : TypeId} {v : Value} {bs : List Nat} {at0 seed : Int} (hb : H.blk p = some ⟨true, ty, [v, .int .i64 at0, .int .u64 seed]⟩) (hp : p < H.n) (hv : YB H v bs) (h0 : 0 ≤ at0) (h1 : at0 ≤ 2 ^ 41) (s0 : 0 ≤ seed) (s1 : seed < 2 ^ 64) :
    ACalls Try.prog n_s_l00Src_next [.pointer (some ⟨p, 0, some 3⟩)] H fun r H' => ∃ x seed' : Int, r = .int .i64 x ∧ 0 ≤ x ∧ x ≤ 255 ∧ 0 ≤ seed' ∧ seed' < 2 ^ 64 ∧ H' = H.put p ⟨true, ty, [v, .int .i64 (at0 + 1), .int .u64 seed']⟩ := by
  refine k_s_l00Src_next.run rfl ?_
  unfold c_s_l00Src_next
  have o := Sl.one hv.rd
  by_cases c1 : at0 < bs.length
  · have hw := hv.w at0.toNat
    have hr : IntKind.wrap .i64 ((bs.getD at0.toNat 0 : Nat) : Int) = ((bs.getD at0.toNat 0 : Nat) : Int) := wrN _ (by omega)
    have c2 : at0 + 1 ≤ bs.length := by omega
    simp (disch := first | assumption | omega | rfl | (refine id ?_; simp only [gxD, ne_eq, reduceCtorEq, not_false_eq_true, Nat.reduceAdd, *]; done) | (refine id ?_; simp only [gxD]; omega)) only [↓gxPre, gxPost, ↓reduceIte, Nat.reduceEqDiff, reduceCtorEq, Nat.reduceAdd, hb, hv.len, c1, hv.ia, hv.ld, hr, c2]
    exact ⟨_, _, rfl, by omega, by omega, (wr_u64 _).1, (wr_u64 _).2, rfl⟩
  · have c2 : ¬ at0 + 1 ≤ bs.length := by omega
    simp (disch := first | assumption | omega | rfl | (refine id ?_; simp only [gxD, ne_eq, reduceCtorEq, not_false_eq_true, Nat.reduceAdd, *]; done) | (refine id ?_; simp only [gxD]; omega)) only [↓gxPre, gxPost, ↓reduceIte, Nat.reduceEqDiff, reduceCtorEq, Nat.reduceAdd, hb, hv.len, c1, c2]
    refine ⟨_, _, rfl, ?_, ?_, (wr_u64 _).1, (wr_u64 _).2, rfl⟩
    · rw [wr_small (and_255 _).1 (and_255 _).2]; exact (and_255 _).1
    · rw [wr_small (and_255 _).1 (and_255 _).2]; exact (and_255 _).2
theorem s_l00Src_pick_ok {H : Heap} {p : Nat} {ty : TypeId} {v : Value} {bs : List Nat} {at0 seed n : Int} (hb : H.blk p = some ⟨true, ty, [v, .int .i64 at0, .int .u64 seed]⟩) (hp : p < H.n) (hv : YB H v bs) (h0 : 0 ≤ at0) (h1 : at0 ≤ 2 ^ 40) (s0 : 0 ≤ seed) (s1 : seed < 2 ^ 64) (hn : 2 ≤ n) (hn' : n ≤ 1000)
    (hvp : ∀ b, YB (H.put p ⟨true, ty, b⟩) v bs) :
    ACalls Try.prog n_s_l00Src_pick [.pointer (some ⟨p, 0, some 3⟩), .int .i64 n] H fun r H' => ∃ x at' seed' : Int, r = .int .i64 x ∧ 0 ≤ x ∧ x < n ∧ at0 ≤ at' ∧ at' ≤ at0 + 2 ∧ 0 ≤ seed' ∧ seed' < 2 ^ 64 ∧ H' = H.put p ⟨true, ty, [v, .int .i64 at', .int .u64 seed']⟩ := by
  refine k_s_l00Src_pick.run rfl ?_
  unfold c_s_l00Src_pick
  have c1 : ¬ n ≤ 1 := by omega
  have hn0 : n ≠ 0 := by omega
  simp (disch := first | assumption | omega | rfl | (refine id ?_; simp only [gxD, ne_eq, reduceCtorEq, not_false_eq_true, Nat.reduceAdd, *]; done) | (refine id ?_; simp only [gxD]; omega)) only [↓gxPre, gxPost, ↓reduceIte, Nat.reduceEqDiff, reduceCtorEq, Nat.reduceAdd, c1]
  refine callR_of (s_l00Src_next_ok hb hp hv h0 (by omega) s0 s1) ?_
  rintro _ _ ⟨x, sd, rfl, x0, x1, sd0, sd1, rfl⟩
  by_cases c2 : 200 < n
  · simp (disch := first | assumption | omega | rfl | (refine id ?_; simp only [gxD, ne_eq, reduceCtorEq, not_false_eq_true, Nat.reduceAdd, *]; done) | (refine id ?_; simp only [gxD]; omega)) only [↓gxPre, gxPost, ↓reduceIte, Nat.reduceEqDiff, reduceCtorEq, Nat.reduceAdd, c2]
    refine callR_of (s_l00Src_next_ok (hput_self _ _ _) (by rw [put_n]; exact hp) (hvp _) (by omega) (by omega) sd0 sd1) ?_
    rintro _ _ ⟨y, sd2, rfl, y0, y1, t0, t1, rfl⟩
    simp (disch := first | assumption | omega | rfl | (refine id ?_; simp only [gxD, ne_eq, reduceCtorEq, not_false_eq_true, Nat.reduceAdd, *]; done) | (refine id ?_; simp only [gxD]; omega)) only [↓gxPre, gxPost, ↓reduceIte, Nat.reduceEqDiff, reduceCtorEq, Nat.reduceAdd, hn0, hput_put]
    exact ⟨_, _, _, rfl, Int.tmod_nonneg _ (by omega), Int.tmod_lt_of_pos _ (by omega), by omega, by omega, t0, t1, rfl⟩
  · simp (disch := first | assumption | omega | rfl | (refine id ?_; simp only [gxD, ne_eq, reduceCtorEq, not_false_eq_true, Nat.reduceAdd, *]; done) | (refine id ?_; simp only [gxD]; omega)) only [↓gxPre, gxPost, ↓reduceIte, Nat.reduceEqDiff, reduceCtorEq, Nat.reduceAdd, c2, hn0]
    exact ⟨_, _, _, rfl, Int.tmod_nonneg _ (by omega), Int.tmod_lt_of_pos _ (by omega), by omega, by omega, sd0, sd1, rfl⟩
theorem s_l00From_ok {H : Heap} {v : Value} {bs : List Nat} (hv : YB H v bs) : ACalls Try.prog n_s_l00From [v] H fun r H' => ∃ ty, r = .pointer (some ⟨H.n, 0, some 3⟩) ∧ H' = H.new ⟨true, ty, [v, .int .i64 0, .int .u64 0]⟩ := by
  refine k_s_l00From.run rfl ?_
  unfold c_s_l00From
  have o := Sl.one hv.rd
  simp (disch := first | assumption | omega | rfl | (refine id ?_; simp only [gxD, ne_eq, reduceCtorEq, not_false_eq_true, Nat.reduceAdd, *]; done) | (refine id ?_; simp only [gxD]; omega)) only [↓gxPre, gxPost, ↓reduceIte, Nat.reduceEqDiff, reduceCtorEq, Nat.reduceAdd]
  exact ⟨_, rfl⟩
end Go.Proofs.Ytddekdgggpifmaa

namespace Go.Proofs.Ytddekdgggpifmaa
open Go.Gx
set_option maxRecDepth 100000
set_option linter.unusedSimpArgs false
set_option linter.unusedVariables false

def bzN (n : Nat) : Nat → Nat := foldI (fun _ m => m - m / 2) n
theorem bzN_zero (n : Nat) : bzN n 0 = n := rfl
theorem bzN_succ (n t : Nat) : bzN n (t + 1) = bzN n t - bzN n t / 2 := rfl
def bzM (n t : Nat) : Bool := decide (1 < bzN n t)
def bzO (n t : Nat) : List Nat := (List.range t).map fun k => bzN n k / 2
def bzS (n L : Nat) : Nat := stopN (bzM n) L
def bzL (n L : Nat) : List Nat := bzO n (bzS n L) ++ [bzN n (bzS n L)]
theorem bzO_length (n t : Nat) : (bzO n t).length = t := by simp [bzO]
theorem bzO_succ (n t : Nat) : bzO n t ++ [bzN n t / 2] = bzO n (t + 1) := by simp [bzO, List.range_succ]
theorem bzN_bd {n : Nat} (h0 : 1 ≤ n) : ∀ t, 1 ≤ bzN n t ∧ bzN n t ≤ n
  | 0 => ⟨h0, Nat.le_refl _⟩
  | t + 1 => by have := bzN_bd h0 t; rw [bzN_succ]; omega
theorem bz_ok : ∀ n : Fin 129, ∀ L : Fin 7, 1 ≤ n.val → 1 ≤ L.val → sizesF (bzL n.val L.val) = true := by decide +kernel
theorem nowI_len (kind : Int) (xs : List Int) : ∀ t, (nowI kind xs t).length = bzN xs.length t
  | 0 => rfl
  | t + 1 => by rw [nowI_succ, liftE_length, nowI_len kind xs t, bzN_succ]; omega
theorem moreI_eq (kind : Int) (xs : List Int) : moreI kind xs = bzM xs.length := by
  funext t
  unfold moreI bzM
  rw [nowI_len]
theorem levelsI_eq (kind : Int) (xs : List Int) (L : Nat) : levelsI kind xs L = outI kind xs (bzS xs.length L) ++ [nowI kind xs (bzS xs.length L)] := by
  unfold levelsI bzS
  rw [moreI_eq]
theorem levelsI_len (kind : Int) (xs : List Int) (L : Nat) : (levelsI kind xs L).length = bzS xs.length L + 1 := by rw [levelsI_eq]; simp [outI_len]
theorem levelsI_sizes (kind : Int) (xs : List Int) (L : Nat) : (levelsI kind xs L).map List.length = bzL xs.length L := by
  rw [levelsI_eq, List.map_append, List.map_cons, List.map_nil, nowI_len, bzL]
  congr 1
  unfold outI bzO
  rw [List.map_map]
  refine List.map_congr_left fun k _ => ?_
  show (liftO kind (nowI kind xs k)).length = _
  rw [liftO_length, nowI_len]
theorem outI_at {kind : Int} {xs : List Int} {t k : Nat} {l : List Int} (h : k < t) : (outI kind xs t ++ [l]).getD k [] = liftO kind (nowI kind xs k) := by
  rw [getD_app_lt (by rw [outI_len]; exact h), outI, getD_range_map h]
theorem dropV_lev (kind : Int) {xs : List Int} (hI : I64 xs) (L : Nat) : ∀ k, k ≤ bzS xs.length L → dropV kind (levelsI kind xs L) k = nowI kind xs (bzS xs.length L - k)
  | 0, _ => by
    rw [dropV_zero, levelsI_eq]
    have := @getD_app_at _ (outI kind xs (bzS xs.length L)) (nowI kind xs (bzS xs.length L)) []
    rw [outI_len] at this
    simp only [List.length_append, outI_len, List.length_cons, List.length_nil, Nat.zero_add, Nat.add_sub_cancel, Nat.sub_zero]
    exact this
  | k + 1, h => by
    have ih := dropV_lev kind hI L k (by omega)
    rw [dropV_succ, ih, levelsI_len]
    have e : bzS xs.length L + 1 - 2 - k = bzS xs.length L - (k + 1) := by omega
    have e2 : bzS xs.length L - k = bzS xs.length L - (k + 1) + 1 := by omega
    rw [e, e2, levelsI_eq, outI_at (by omega), nowI_succ]
    exact drop_lift (i64_nowI hI _)
def mbI : Nat → Int
  | 0 => 100
  | t + 1 => 3 * mbI t + 3
theorem mbI_le : ∀ t : Fin 7, 0 ≤ mbI t.val ∧ mbI t.val ≤ 100000 := by decide
theorem nowI_bd (kind : Int) {xs : List Int} (h : IB xs 100) : ∀ t, t ≤ 6 → IB (nowI kind xs t) (mbI t)
  | 0, _ => h
  | t + 1, ht => by
    have ih := nowI_bd kind h t (by omega)
    have := mbI_le ⟨t, by omega⟩
    simp only at this
    rw [nowI_succ]
    exact liftE_bound ih (by omega) (by omega)
theorem boundF_of {xs : List Int} {M N : Int} (h : IB xs M) (hN : M ≤ N) : boundF xs N = true := by
  unfold boundF
  refine (allD 0).2 fun j hj => ?_
  have := h j
  exact within_true.2 (by omega)
theorem integers_of {xs : List Int} {M : Int} (h : IB xs M) (hM : M ≤ 1000000) (h0 : 1 ≤ xs.length) (h1 : xs.length ≤ 128) : integersF xs = true := by
  unfold integersF
  rw [boundF_of h hM, within_true.2 (by omega)]
  rfl
theorem lev_back {kind : Int} {xs : List Int} {L : Nat} (hk : within kind 0 2 = true) (h : IB xs 100) (h0 : 1 ≤ xs.length) (h1 : xs.length ≤ 128) (l0 : 1 ≤ L) (l1 : L ≤ 6) :
    levOk kind (levelsI kind xs L) = true ∧ dropV kind (levelsI kind xs L) ((levelsI kind xs L).length - 1) = xs := by
  have hI : I64 xs := h.i64 (by omega)
  have hs : bzS xs.length L ≤ L := stopN_le _ _
  have hlen := levelsI_len kind xs L
  have hint : ∀ t, t ≤ 6 → integersF (nowI kind xs t) = true := fun t ht => by
    have := mbI_le ⟨t, by omega⟩
    simp only at this
    have b := bzN_bd h0 t
    exact integers_of (nowI_bd kind h t ht) (by omega) (by rw [nowI_len]; omega) (by rw [nowI_len]; omega)
  have hfin : dropV kind (levelsI kind xs L) ((levelsI kind xs L).length - 1) = xs := by
    rw [hlen, Nat.add_sub_cancel, dropV_lev kind hI L _ (Nat.le_refl _), Nat.sub_self]
    rfl
  refine ⟨?_, hfin⟩
  rw [levOk_yes hk (by rw [levelsI_sizes]; exact bz_ok ⟨xs.length, by omega⟩ ⟨L, by omega⟩ h0 l0) ?_, hfin]
  · exact hint 0 (by omega)
  · intro k hk'
    rw [hlen, Nat.add_sub_cancel] at hk'
    rw [dropV_lev kind hI L _ (by omega), hlen]
    have e : bzS xs.length L + 1 - 2 - k = bzS xs.length L - (k + 1) := by omega
    have e2 : bzS xs.length L - k = bzS xs.length L - (k + 1) + 1 := by omega
    rw [e, e2, levelsI_eq, outI_at (by omega), nowI_succ]
    generalize ht : bzS xs.length L - (k + 1) = t
    have ht6 : t ≤ 5 := by omega
    have b0 := nowI_bd kind h t (by omega)
    have m0 := mbI_le ⟨t, by omega⟩
    simp only at m0
    have hl := bzN_bd h0 t
    unfold dropOkI
    have f1 : fitF (liftE kind (nowI kind xs t)).length (liftO kind (nowI kind xs t)).length = true := by
      rw [liftE_length, liftO_length, nowI_len]
      unfold fitF
      simp only [Bool.and_eq_true, Bool.or_eq_true, decide_eq_true_eq]
      omega
    rw [hk, f1, boundF_of (liftE_bound b0 m0.1 (by omega)) (by omega), boundF_of (liftO_bound b0 m0.1 (by omega)) (by omega), drop_lift (i64_nowI hI _), hint t (by omega)]
    rfl
theorem lift_back {kind : Int} {xs : List Int} (hk : within kind 0 2 = true) (h : IB xs 100) (h0 : 1 ≤ xs.length) (h1 : xs.length ≤ 128) :
    integersF xs = true ∧ dropOkI kind (liftE kind xs) (liftO kind xs) = true ∧ dropI kind (liftE kind xs) (liftO kind xs) = xs := by
  have hI : I64 xs := h.i64 (by omega)
  have hint : integersF xs = true := integers_of h (by omega) h0 h1
  refine ⟨hint, ?_, drop_lift hI⟩
  unfold dropOkI
  have f1 : fitF (liftE kind xs).length (liftO kind xs).length = true := by
    rw [liftE_length, liftO_length]
    unfold fitF
    simp only [Bool.and_eq_true, Bool.or_eq_true, decide_eq_true_eq]
    omega
  rw [hk, f1, boundF_of (liftE_bound h (by omega) (by omega)) (by omega), boundF_of (liftO_bound h (by omega) (by omega)) (by omega), drop_lift hI, hint]
  rfl
end Go.Proofs.Ytddekdgggpifmaa

namespace Go.Proofs.Ytddekdgggpifmaa
open Go.Gx
set_option maxRecDepth 100000
set_option linter.unusedSimpArgs false
set_option linter.unusedVariables false

def quartW (q : Int) : Nat := fbin .quo .f32 (i2f .f32 q) 1082130432
theorem quartW_all : ∀ n : Fin 65, finF (quartW ((n.val : Int) - 32)) = true ∧ quartW ((n.val : Int) - 32) < 2 ^ 32 ∧ fval .f32 (quartW ((n.val : Int) - 32)) = (((n.val : Int) - 32 : Int) : Rat) / 4 := by decide +kernel
/-- A quarter's word. -/
def Qd (w : Nat) : Prop := ∃ q : Int, -32 ≤ q ∧ q ≤ 32 ∧ w = quartW q
theorem Qd.ok {w : Nat} (h : Qd w) : FinW .f32 w ∧ w < 2 ^ 32 ∧ ∃ q : Int, -32 ≤ q ∧ q ≤ 32 ∧ fval .f32 w = (q : Rat) / 4 := by
  obtain ⟨q, h0, h1, rfl⟩ := h
  obtain ⟨a, b, c⟩ := quartW_all ⟨(q + 32).toNat, by omega⟩
  have e : (((q + 32).toNat : Nat) : Int) - 32 = q := by omega
  simp only [e] at a b c
  exact ⟨finW_of a, b, q, h0, h1, c⟩
def QdL (xs : List Nat) : Prop := ∀ j, j < xs.length → Qd (xs.getD j 0)
theorem QdL.w32 {xs : List Nat} (h : QdL xs) : W32 xs := fun j => by
  by_cases hj : j < xs.length
  · exact (h j hj).ok.2.1
  · have : xs.getD j 0 = 0 := by simp [List.getD_eq_getElem?_getD, List.getElem?_eq_none (Nat.le_of_not_lt hj)]
    rw [this]; decide
theorem QdL.snoc {xs : List Nat} {w : Nat} (h : QdL xs) (hw : Qd w) : QdL (xs ++ [w]) := fun j hj => by
  by_cases hlt : j < xs.length
  · rw [getD_app_lt hlt]; exact h j hlt
  · have : j = xs.length := by simp at hj; omega
    subst this
    rw [getD_app_at]; exact hw
theorem w_b10Long_ok {H : Heap} {v u : Value} {bs cs : List Nat} (hv : YA H v bs) (hu : YA H u cs) : ACalls Try.prog n_w_b10Long [v, u] H fun r H' => r = .bool (decide (1048576 < bs.length) || decide (1048576 < cs.length)) ∧ H' = H := by
  refine k_w_b10Long.run rfl ?_
  unfold c_w_b10Long
  by_cases c1 : (1048576 : Int) < bs.length
  · simp (disch := first | assumption | omega | rfl | (refine id ?_; simp only [gxD, ne_eq, reduceCtorEq, not_false_eq_true, Nat.reduceAdd, *]; done) | (refine id ?_; simp only [gxD]; omega)) only [↓gxPre, gxPost, ↓reduceIte, Nat.reduceEqDiff, reduceCtorEq, Nat.reduceAdd, hv.len, c1]
    try simp
    try omega
  · simp (disch := first | assumption | omega | rfl | (refine id ?_; simp only [gxD, ne_eq, reduceCtorEq, not_false_eq_true, Nat.reduceAdd, *]; done) | (refine id ?_; simp only [gxD]; omega)) only [↓gxPre, gxPost, ↓reduceIte, Nat.reduceEqDiff, reduceCtorEq, Nat.reduceAdd, hv.len, hu.len, c1]
    try simp
    try omega
theorem w_b10At_ok {H : Heap} {v : Value} {bs : List Nat} {k n : Int} (hv : YB H v bs) (hk : 0 ≤ k) (hk' : k ≤ 1000) (hn : 2 ≤ n) (hn' : n ≤ 1000) : ∃ x : Int, 0 ≤ x ∧ x < n ∧ ACalls Try.prog n_w_b10At [v, .int .i64 k, .int .i64 n] H fun r H' => r = .int .i64 x ∧ H' = H := by
  have c1 : ¬ n ≤ 1 := by omega
  have hn0 : n ≠ 0 := by omega
  by_cases c2 : k < (bs.length : Int)
  · have hw := hv.w k.toNat
    refine ⟨((bs.getD k.toNat 0 : Nat) : Int).tmod n, Int.tmod_nonneg _ (by omega), Int.tmod_lt_of_pos _ (by omega), ?_⟩
    refine k_w_b10At.run rfl ?_
    unfold c_w_b10At
    have hr : IntKind.wrap .i64 ((bs.getD k.toNat 0 : Nat) : Int) = ((bs.getD k.toNat 0 : Nat) : Int) := wrN _ (by omega)
    simp (disch := first | assumption | omega | rfl | (refine id ?_; simp only [gxD, ne_eq, reduceCtorEq, not_false_eq_true, Nat.reduceAdd, *]; done) | (refine id ?_; simp only [gxD]; omega)) only [↓gxPre, gxPost, ↓reduceIte, Nat.reduceEqDiff, reduceCtorEq, Nat.reduceAdd, hv.len, hv.ia, hv.ld, c1, c2, hr, hn0]
  · refine ⟨(k * 37 + 11).tmod n, Int.tmod_nonneg _ (by omega), Int.tmod_lt_of_pos _ (by omega), ?_⟩
    refine k_w_b10At.run rfl ?_
    unfold c_w_b10At
    simp (disch := first | assumption | omega | rfl | (refine id ?_; simp only [gxD, ne_eq, reduceCtorEq, not_false_eq_true, Nat.reduceAdd, *]; done) | (refine id ?_; simp only [gxD]; omega)) only [↓gxPre, gxPost, ↓reduceIte, Nat.reduceEqDiff, reduceCtorEq, Nat.reduceAdd, hv.len, c1, c2, hn0]
theorem s_l00Src_one_ok {H : Heap} {p : Nat} {ty : TypeId} {v : Value} {bs : List Nat} {at0 seed n : Int} (hb : H.blk p = some ⟨true, ty, [v, .int .i64 at0, .int .u64 seed]⟩) (hp : p < H.n) (hv : YB H v bs) (h0 : 0 ≤ at0) (h1 : at0 ≤ 2 ^ 40) (s0 : 0 ≤ seed) (s1 : seed < 2 ^ 64) (hn : 2 ≤ n) (hn' : n ≤ 1000)
    (hvp : ∀ b, YB (H.put p ⟨true, ty, b⟩) v bs) :
    ACalls Try.prog n_s_l00Src_one [.pointer (some ⟨p, 0, some 3⟩), .int .i64 n] H fun r H' => ∃ (x : Bool) (at' seed' : Int), r = .bool x ∧ at0 ≤ at' ∧ at' ≤ at0 + 2 ∧ 0 ≤ seed' ∧ seed' < 2 ^ 64 ∧ H' = H.put p ⟨true, ty, [v, .int .i64 at', .int .u64 seed']⟩ := by
  refine k_s_l00Src_one.run rfl ?_
  unfold c_s_l00Src_one
  simp (disch := first | assumption | omega | rfl | (refine id ?_; simp only [gxD, ne_eq, reduceCtorEq, not_false_eq_true, Nat.reduceAdd, *]; done) | (refine id ?_; simp only [gxD]; omega)) only [↓gxPre, gxPost, ↓reduceIte, Nat.reduceEqDiff, reduceCtorEq, Nat.reduceAdd]
  refine callR_of (s_l00Src_pick_ok hb hp hv h0 h1 s0 s1 hn hn' hvp) ?_
  rintro _ _ ⟨x, at', sd, rfl, x0, x1, a0, a1, t0, t1, rfl⟩
  simp (disch := first | assumption | omega | rfl | (refine id ?_; simp only [gxD, ne_eq, reduceCtorEq, not_false_eq_true, Nat.reduceAdd, *]; done) | (refine id ?_; simp only [gxD]; omega)) only [↓gxPre, gxPost, ↓reduceIte, Nat.reduceEqDiff, reduceCtorEq, Nat.reduceAdd]
  exact ⟨_, _, _, rfl, a0, a1, t0, t1, rfl⟩
theorem s_B10Pair_ok {H : Heap} {v : Value} {bs : List Nat} (hv : YB H v bs) : ACalls Try.prog n_s_B10Pair [v] H fun r H' => Ext H H' ∧ ∃ (ps : List Nat) (h : Nat), (ps = fourP ∨ ps = haarP) ∧ H.n ≤ h ∧ h < H'.n ∧ r = .agg #[.slice (some ⟨h, 0, none⟩) ps.length ps.length] ∧ H'.blk h = some ⟨true, t_float32, ps.map fv⟩ := by
  have o := Sl.one hv.rd
  refine k_s_B10Pair.run rfl ?_
  unfold c_s_B10Pair
  simp (disch := first | assumption | omega | rfl | (refine id ?_; simp only [gxD, ne_eq, reduceCtorEq, not_false_eq_true, Nat.reduceAdd, *]; done) | (refine id ?_; simp only [gxD]; omega)) only [↓gxPre, gxPost, ↓reduceIte, Nat.reduceEqDiff, reduceCtorEq, Nat.reduceAdd]
  refine callR_new ?_
  intro G e hb nn
  refine callR_of (s_l00From_ok (hv.ext e)) ?_
  rintro _ _ ⟨ty, rfl, rfl⟩
  simp (disch := first | assumption | omega | rfl | (refine id ?_; simp only [gxD, ne_eq, reduceCtorEq, not_false_eq_true, Nat.reduceAdd, *]; done) | (refine id ?_; simp only [gxD]; omega)) only [↓gxPre, gxPost, ↓reduceIte, Nat.reduceEqDiff, reduceCtorEq, Nat.reduceAdd]
  have hvx : ∀ K, Ext H K → YB K v bs := fun K e => hv.ext e
  have e0 : Ext H (G.new ⟨true, ty, [v, .int .i64 0, .int .u64 0]⟩) := e.trans (.new _ _)
  refine callR_of (s_l00Src_one_ok (H := G.new ⟨true, ty, [v, .int .i64 0, .int .u64 0]⟩) (p := G.n) (ty := ty) (v := v) (bs := bs) (at0 := 0) (seed := 0) (n := 2) (new_self _ _) (by simp only [new_n]; omega) (hvx _ e0) (by omega) (by omega) (by omega) (by omega) (by omega) (by omega) (fun b => hvx _ (e0.put (by omega) _))) ?_
  rintro _ _ ⟨x, at1, sd, rfl, a0, a1, sd0, sd1, rfl⟩
  have e1 : Ext H ((G.new ⟨true, ty, [v, .int .i64 0, .int .u64 0]⟩).put G.n ⟨true, ty, [v, .int .i64 at1, .int .u64 sd]⟩) := e0.put (by omega) _
  have hb1 : ((G.new ⟨true, ty, [v, .int .i64 0, .int .u64 0]⟩).put G.n ⟨true, ty, [v, .int .i64 at1, .int .u64 sd]⟩).blk H.n = some ⟨true, 26, [.slice none 0 0]⟩ := by
    rw [hput_other _ _ _ _ (by omega), new_old _ _ _ (by omega), hb]
  have n1 : ((G.new ⟨true, ty, [v, .int .i64 0, .int .u64 0]⟩).put G.n ⟨true, ty, [v, .int .i64 at1, .int .u64 sd]⟩).n = H.n + 2 := by simp only [put_n, new_n]; omega
  generalize ((G.new ⟨true, ty, [v, .int .i64 0, .int .u64 0]⟩).put G.n ⟨true, ty, [v, .int .i64 at1, .int .u64 sd]⟩) = K at *
  cases x
  · simp (disch := first | assumption | omega | rfl | (refine id ?_; simp only [gxD, ne_eq, reduceCtorEq, not_false_eq_true, Nat.reduceAdd, *]; done) | (refine id ?_; simp only [gxD]; omega)) only [↓gxPre, gxPost, ↓reduceIte, Nat.reduceEqDiff, reduceCtorEq, Nat.reduceAdd]
    refine callR_of s_HaarPair_ok ?_
    rintro _ J ⟨eJ, h, h1, h2, rfl, hh⟩
    have hbJ := (eJ.blk H.n (by omega)).trans hb1
    simp (disch := first | assumption | omega | rfl | (refine id ?_; simp only [gxD, ne_eq, reduceCtorEq, not_false_eq_true, Nat.reduceAdd, *]; done) | (refine id ?_; simp only [gxD]; omega)) only [↓gxPre, gxPost, ↓reduceIte, Nat.reduceEqDiff, reduceCtorEq, Nat.reduceAdd, hbJ]
    refine ⟨(e1.trans eJ).put (Nat.le_refl _) _, haarP, h, .inr rfl, by omega, by omega, rfl, ?_⟩
    rw [hput_other _ _ _ _ (by omega)]; exact hh
  · simp (disch := first | assumption | omega | rfl | (refine id ?_; simp only [gxD, ne_eq, reduceCtorEq, not_false_eq_true, Nat.reduceAdd, *]; done) | (refine id ?_; simp only [gxD]; omega)) only [↓gxPre, gxPost, ↓reduceIte, Nat.reduceEqDiff, reduceCtorEq, Nat.reduceAdd]
    refine callR_of s_FourPair_ok ?_
    rintro _ J ⟨eJ, h, h1, h2, rfl, hh⟩
    have hbJ := (eJ.blk H.n (by omega)).trans hb1
    simp (disch := first | assumption | omega | rfl | (refine id ?_; simp only [gxD, ne_eq, reduceCtorEq, not_false_eq_true, Nat.reduceAdd, *]; done) | (refine id ?_; simp only [gxD]; omega)) only [↓gxPre, gxPost, ↓reduceIte, Nat.reduceEqDiff, reduceCtorEq, Nat.reduceAdd, hbJ]
    refine ⟨(e1.trans eJ).put (Nat.le_refl _) _, fourP, h, .inl rfl, by omega, by omega, rfl, ?_⟩
    rw [hput_other _ _ _ _ (by omega)]; exact hh
theorem s_B10Signal_ok {H : Heap} {v : Value} {bs : List Nat} {n : Nat} (hv : YB H v bs) (hn : n ≤ 1000) : ACalls Try.prog n_s_B10Signal [v, .int .i64 n] H fun r H' => Ext H H' ∧ ∃ (L : List Nat) (o : Nat), H.n ≤ o ∧ o < H'.n ∧ L.length = n ∧ QdL L ∧ r = .slice (some ⟨o, 0, none⟩) n n ∧ H'.blk o = some ⟨true, t_float32, L.map fv⟩ := by
  have o := Sl.one hv.rd
  refine k_s_B10Signal.run rfl ?_
  unfold c_s_B10Signal
  simp (disch := first | assumption | omega | rfl | (refine id ?_; simp only [gxD, ne_eq, reduceCtorEq, not_false_eq_true, Nat.reduceAdd, *]; done) | (refine id ?_; simp only [gxD]; omega)) only [↓gxPre, gxPost, ↓reduceIte, Nat.reduceEqDiff, reduceCtorEq, Nat.reduceAdd]
  refine callR_of (s_l00From_ok hv) ?_
  rintro _ _ ⟨ty, rfl, rfl⟩
  simp (disch := first | assumption | omega | rfl | (refine id ?_; simp only [gxD, ne_eq, reduceCtorEq, not_false_eq_true, Nat.reduceAdd, *]; done) | (refine id ?_; simp only [gxD]; omega)) only [↓gxPre, gxPost, ↓reduceIte, Nat.reduceEqDiff, reduceCtorEq, Nat.reduceAdd]
  have hvx : ∀ K, Ext H K → YB K v bs := fun K e => hv.ext e
  have e0 : Ext H ((H.new ⟨true, ty, [v, .int .i64 0, .int .u64 0]⟩).new ⟨true, t_float32, []⟩) := (Ext.new H _).trans (.new _ _)
  refine loop_st (σ := List Nat) (fun L => [.int .i64 ((n : Int) - L.length), .pointer (some ⟨H.n, 0, some 3⟩), .slice (some ⟨H.n + 1, 0, none⟩) L.length L.length])
    (fun L G => L.length ≤ n ∧ QdL L ∧ H.n + 2 ≤ G.n ∧ Ext H G ∧ (∃ at' sd' : Int, 0 ≤ at' ∧ at' ≤ 2 * L.length ∧ 0 ≤ sd' ∧ sd' < 2 ^ 64 ∧ G.blk H.n = some ⟨true, ty, [v, .int .i64 at', .int .u64 sd']⟩) ∧ G.blk (H.n + 1) = some ⟨true, t_float32, L.map fv⟩)
    (fun L => n - L.length) [] (by simp) ⟨by simp, by intro j hj; simp at hj, by simp only [new_n]; omega, e0, ⟨0, 0, by omega, by simp, by omega, by omega, by rw [new_old _ _ _ (by simp only [new_n]; omega), new_self]⟩, by rw [show H.n + 1 = (H.new ⟨true, ty, [v, .int .i64 0, .int .u64 0]⟩).n from rfl]; exact new_self _ _⟩ ?_
  rintro L G ⟨g1, g2, g3, g4, ⟨at', sd', b0, b1, b2, b3, b4⟩, g5⟩
  by_cases c : 0 < (n : Int) - (L.length : Int)
  · simp (disch := first | assumption | omega | rfl | (refine id ?_; simp only [gxD, ne_eq, reduceCtorEq, not_false_eq_true, Nat.reduceAdd, *]; done) | (refine id ?_; simp only [gxD]; omega)) only [↓gxPre, gxPost, ↓reduceIte, Nat.reduceEqDiff, reduceCtorEq, Nat.reduceAdd, c]
    refine callR_of (s_l00Src_pick_ok (n := 65) b4 (by omega) (hvx _ g4) b0 (by omega) b2 b3 (by omega) (by omega) (fun b => hvx _ (g4.put (Nat.le_refl _) _))) ?_
    rintro _ _ ⟨y, at2, sd2, rfl, y0, y1, u0, u1, v0', v1', rfl⟩
    have hml : (L.map fv).length = L.length := by simp
    have h5 : (G.put H.n ⟨true, ty, [v, .int .i64 at2, .int .u64 sd2]⟩).blk (H.n + 1) = some ⟨true, t_float32, L.map fv⟩ := (hput_other _ _ _ _ (by omega)).trans g5
    have hsn : L.map fv ++ [.float .f32 (quartW (y - 32))] = (L ++ [quartW (y - 32)]).map fv := fv_snoc' L _
    obtain ⟨p1, p2', p3, p4⟩ := push_at (g4.put (Nat.le_refl _) ⟨true, ty, [v, .int .i64 at2, .int .u64 sd2]⟩) h5 (by omega) (by rw [put_n]; omega) hsn
    simp (disch := first | assumption | omega | rfl | (refine id ?_; simp only [gxD, ne_eq, reduceCtorEq, not_false_eq_true, Nat.reduceAdd, *]; done) | (refine id ?_; simp only [gxD]; omega)) only [↓gxPre, gxPost, ↓reduceIte, Nat.reduceEqDiff, reduceCtorEq, Nat.reduceAdd, h5, g5, rd1_at]
    refine ⟨L ++ [quartW (y - 32)], by simp; omega, ?_, by simp; omega, g2.snoc ⟨y - 32, by omega, by omega, rfl⟩, by omega, p1, ⟨at2, sd2, by omega, by simp; omega, v0', v1', ?_⟩, by rw [← hsn]; rfl⟩
    · simp; omega
    · first | rfl | exact (p4 H.n (by rw [put_n]; omega) (by omega)).trans (hput_self _ _ _)
  · have hLn : L.length = n := by omega
    simp (disch := first | assumption | omega | rfl | (refine id ?_; simp only [gxD, ne_eq, reduceCtorEq, not_false_eq_true, Nat.reduceAdd, *]; done) | (refine id ?_; simp only [gxD]; omega)) only [↓gxPre, gxPost, ↓reduceIte, Nat.reduceEqDiff, reduceCtorEq, Nat.reduceAdd, c]
    exact ⟨g4, L, H.n + 1, by omega, by omega, hLn, g2, by rw [hLn], g5⟩
theorem w_b10Gap_ok {H : Heap} {a b : Nat} : ACalls Try.prog n_w_b10Gap [.float .f64 a, .float .f64 b] H fun r H' => r = .float .f64 (gapW a b) ∧ H' = H := by
  refine k_w_b10Gap.run rfl ?_
  unfold c_w_b10Gap
  cases h : fcB .lss .f64 a b <;> simp (disch := first | assumption | omega | rfl | (refine id ?_; simp only [gxD, ne_eq, reduceCtorEq, not_false_eq_true, Nat.reduceAdd, *]; done) | (refine id ?_; simp only [gxD]; omega)) only [↓gxPre, gxPost, ↓reduceIte, Nat.reduceEqDiff, reduceCtorEq, Nat.reduceAdd, h, gapW]
theorem w_b10Squares_ok {H : Heap} {v : Value} {xs : List Nat} (hv : FS H v xs) (hn : xs.length ≤ 2 ^ 40) : ACalls Try.prog n_w_b10Squares [v] H fun r H' => r = .float .f64 (sqD xs xs.length) ∧ H' = H := by
  have o := hv.one
  refine k_w_b10Squares.run rfl ?_
  unfold c_w_b10Squares
  simp (disch := first | assumption | omega | rfl | (refine id ?_; simp only [gxD, ne_eq, reduceCtorEq, not_false_eq_true, Nat.reduceAdd, *]; done) | (refine id ?_; simp only [gxD]; omega)) only [↓gxPre, gxPost, ↓reduceIte, Nat.reduceEqDiff, reduceCtorEq, Nat.reduceAdd, hv.len]
  refine loop_forH xs.length (fun i => [v, .float .f64 (sqD xs i), .int .i64 xs.length, .int .i64 i]) (fun i G => H = G) rfl rfl ?_ ?_
  · rintro _ rfl
    simp (disch := first | assumption | omega | rfl | (refine id ?_; simp only [gxD, ne_eq, reduceCtorEq, not_false_eq_true, Nat.reduceAdd, *]; done) | (refine id ?_; simp only [gxD]; omega)) only [↓gxPre, gxPost, ↓reduceIte, Nat.reduceEqDiff, reduceCtorEq, Nat.reduceAdd, Int.lt_irrefl]
  · rintro i _ hi rfl
    simp (disch := first | assumption | omega | rfl | (refine id ?_; simp only [gxD, ne_eq, reduceCtorEq, not_false_eq_true, Nat.reduceAdd, *]; done) | (refine id ?_; simp only [gxD]; omega)) only [↓gxPre, gxPost, ↓reduceIte, Nat.reduceEqDiff, reduceCtorEq, Nat.reduceAdd, hv.ia, hv.ld]
    simp [sqD, foldI_succ]
theorem w_b10Apart_no {H : Heap} {v u : Value} {xs ys : List Nat} {t : Nat} (hv : FS H v xs) (hu : FS H u ys) (hn : xs.length ≤ 2 ^ 40) (hl : ys.length = xs.length) (hg : ∀ i, i < xs.length → fcB .leq .f64 (gapW (f64 (xs.getD i 0)) (f64 (ys.getD i 0))) t = true) :
    ACalls Try.prog n_w_b10Apart [v, u, .float .f64 t] H fun r H' => r = .bool false ∧ H' = H := by
  have o := hv.one
  have o2 := hu.one
  have lu := hu.len
  rw [hl] at lu
  refine k_w_b10Apart.run rfl ?_
  unfold c_w_b10Apart
  simp (disch := first | assumption | omega | rfl | (refine id ?_; simp only [gxD, ne_eq, reduceCtorEq, not_false_eq_true, Nat.reduceAdd, *]; done) | (refine id ?_; simp only [gxD]; omega)) only [↓gxPre, gxPost, ↓reduceIte, Nat.reduceEqDiff, reduceCtorEq, Nat.reduceAdd, hv.len, lu]
  refine loop_forH xs.length (fun i => [v, u, .float .f64 t, .int .i64 xs.length, .int .i64 i]) (fun i G => H = G) rfl rfl ?_ ?_
  · rintro _ rfl
    simp (disch := first | assumption | omega | rfl | (refine id ?_; simp only [gxD, ne_eq, reduceCtorEq, not_false_eq_true, Nat.reduceAdd, *]; done) | (refine id ?_; simp only [gxD]; omega)) only [↓gxPre, gxPost, ↓reduceIte, Nat.reduceEqDiff, reduceCtorEq, Nat.reduceAdd, Int.lt_irrefl]
  · rintro i _ hi rfl
    have g := hg i hi
    simp (disch := first | assumption | omega | rfl | (refine id ?_; simp only [gxD, ne_eq, reduceCtorEq, not_false_eq_true, Nat.reduceAdd, *]; done) | (refine id ?_; simp only [gxD]; omega)) only [↓gxPre, gxPost, ↓reduceIte, Nat.reduceEqDiff, reduceCtorEq, Nat.reduceAdd, hv.ia, hv.ld, hu.ia, hu.ld]
    refine callR_pure w_b10Gap_ok (.inl rfl) ?_
    simp (disch := first | assumption | omega | rfl | (refine id ?_; simp only [gxD, ne_eq, reduceCtorEq, not_false_eq_true, Nat.reduceAdd, *]; done) | (refine id ?_; simp only [gxD]; omega)) only [↓gxPre, gxPost, ↓reduceIte, Nat.reduceEqDiff, reduceCtorEq, Nat.reduceAdd, g]
    simp
end Go.Proofs.Ytddekdgggpifmaa

namespace Go.Proofs.Ytddekdgggpifmaa
open Go.Gx
set_option maxRecDepth 100000
set_option linter.unusedSimpArgs false
set_option linter.unusedVariables false

def psQ : Bool → List Nat
  | true => fourP
  | false => haarP
def loQ : Bool → Rat → Rat → Rat → Rat → Rat
  | true, a, b, c, d => loR a b c d
  | false, a, b, _, _ => loH a b
def hiQ : Bool → Rat → Rat → Rat → Rat → Rat
  | true, a, b, c, d => hiR a b c d
  | false, a, b, _, _ => hiH a b
def jeQ : Bool → Rat → Rat → Rat → Rat → Rat
  | true, l, h, l', h' => 8102773 / 16777216 * l + -4342263 / 33554432 * h + (1880255 / 8388608 * l' + 14034415 / 16777216 * h')
  | false, l, h, _, _ => 11863283 / 16777216 * l + 11863283 / 16777216 * h
def joQ : Bool → Rat → Rat → Rat → Rat → Rat
  | true, l, h, l', h' => 14034415 / 16777216 * l + -1880255 / 8388608 * h + (-4342263 / 33554432 * l' + -8102773 / 16777216 * h')
  | false, l, h, _, _ => 11863283 / 16777216 * l + -11863283 / 16777216 * h
theorem mod_next {m j : Nat} (hj : j < m) : (2 * j + 2) % (2 * m) = 2 * ((j + 1) % m) ∧ (2 * j + 3) % (2 * m) = 2 * ((j + 1) % m) + 1 ∧ (j + 1) % m < m := by
  have h1 : (j + 1) % m < m := Nat.mod_lt _ (by omega)
  have e : (2 * j + 2) % (2 * m) = 2 * ((j + 1) % m) := by
    rw [show 2 * j + 2 = 2 * (j + 1) by omega, Nat.mul_mod_mul_left]
  refine ⟨e, ?_, h1⟩
  by_cases c : j + 1 < m
  · rw [Nat.mod_eq_of_lt (by omega), Nat.mod_eq_of_lt c]; omega
  · have : j + 1 = m := by omega
    rw [this, Nat.mod_self, show 2 * j + 3 = 1 + 2 * m by omega, Nat.add_mod_right]
    by_cases hm : m = 0
    · omega
    · rw [Nat.mod_eq_of_lt (by omega)]
theorem tapL_len (xs ps : List Nat) : (tapL xs ps).length = xs.length / 2 := by simp [tapL, tabL_length]
theorem tapL_at {xs ps : List Nat} {j : Nat} (h : j < xs.length / 2) : (tapL xs ps).getD j 0 = tapF xs ps j ps.length := tabL_getD h
/-- What a split gives. -/
theorem split_near (q : Bool) {xs : List Nat} {m : Nat} {M : Rat} (hM : okR M) (hl : xs.length = 2 * m) (hx : ∀ i, i < 2 * m → FinW .f32 (xs.getD i 0) ∧ Bd (vF xs i) M) {j : Nat} (hj : j < m) :
    Nr ((tapL xs (psQ q)).getD j 0) (loQ q (vF xs (2 * j)) (vF xs (2 * j + 1)) (vF xs (2 * ((j + 1) % m))) (vF xs (2 * ((j + 1) % m) + 1))) (2 * M / 1000000) ∧
      Nr ((tapL xs (highL (psQ q))).getD j 0) (hiQ q (vF xs (2 * j)) (vF xs (2 * j + 1)) (vF xs (2 * ((j + 1) % m))) (vF xs (2 * ((j + 1) % m) + 1))) (2 * M / 1000000) := by
  obtain ⟨n1, n2, n3⟩ := mod_next hj
  have h0 : (2 * j + 0) % (2 * m) = 2 * j := Nat.mod_eq_of_lt (by omega)
  have h1 : (2 * j + 1) % (2 * m) = 2 * j + 1 := Nat.mod_eq_of_lt (by omega)
  rw [tapL_at (by omega), tapL_at (by omega)]
  cases q
  · have e : highL (psQ false) = haarG := haarG_eq
    rw [e]
    have t1 : tapF xs (psQ false) j (psQ false).length = fbin .add .f32 (fbin .add .f32 0 (fbin .mul .f32 1060439283 (xs.getD (2 * j) 0))) (fbin .mul .f32 1060439283 (xs.getD (2 * j + 1) 0)) := by
      show tapF xs haarP j 2 = _
      rw [tapF_succ, tapF_succ, hl, h0, h1]
      rfl
    have t2 : tapF xs haarG j haarG.length = fbin .add .f32 (fbin .add .f32 0 (fbin .mul .f32 1060439283 (xs.getD (2 * j) 0))) (fbin .mul .f32 3207922931 (xs.getD (2 * j + 1) 0)) := by
      show tapF xs haarG j 2 = _
      rw [tapF_succ, tapF_succ, hl, h0, h1]
      rfl
    rw [t1, t2]
    exact ⟨haar_lo hM (hx _ (by omega)) (hx _ (by omega)), haar_hi hM (hx _ (by omega)) (hx _ (by omega))⟩
  · have e : highL (psQ true) = fourG := fourG_eq
    rw [e]
    have t1 : tapF xs (psQ true) j (psQ true).length = fbin .add .f32 (fbin .add .f32 (fbin .add .f32 (fbin .add .f32 0 (fbin .mul .f32 1056392938 (xs.getD (2 * j) 0))) (fbin .mul .f32 1062610415 (xs.getD (2 * j + 1) 0))) (fbin .mul .f32 1046840824 (xs.getD (2 * ((j + 1) % m)) 0))) (fbin .mul .f32 3187966958 (xs.getD (2 * ((j + 1) % m) + 1) 0)) := by
      show tapF xs fourP j 4 = _
      rw [tapF_succ, tapF_succ, tapF_succ, tapF_succ, hl, h0, h1, n1, n2]
      rfl
    have t2 : tapF xs fourG j fourG.length = fbin .add .f32 (fbin .add .f32 (fbin .add .f32 (fbin .add .f32 0 (fbin .mul .f32 3187966958 (xs.getD (2 * j) 0))) (fbin .mul .f32 3194324472 (xs.getD (2 * j + 1) 0))) (fbin .mul .f32 1062610415 (xs.getD (2 * ((j + 1) % m)) 0))) (fbin .mul .f32 3203876586 (xs.getD (2 * ((j + 1) % m) + 1) 0)) := by
      show tapF xs fourG j 4 = _
      rw [tapF_succ, tapF_succ, tapF_succ, tapF_succ, hl, h0, h1, n1, n2]
      rfl
    rw [t1, t2]
    exact ⟨four_lo hM (hx _ (by omega)) (hx _ (by omega)) (hx _ (by omega)) (hx _ (by omega)), four_hi hM (hx _ (by omega)) (hx _ (by omega)) (hx _ (by omega)) (hx _ (by omega))⟩

/-! ### joined rings, number by number -/
def jE (lo hi ps hp : List Nat) (j k w : Nat) : Nat := fbin .add .f32 w (fbin .add .f32 (fbin .mul .f32 (ps.getD k 0) (lo.getD j 0)) (fbin .mul .f32 (hp.getD k 0) (hi.getD j 0)))
theorem joinK_at {lo hi ps hp out : List Nat} {j k i : Nat} (h : i < out.length) : (joinK lo hi ps hp out j k).getD i 0 = if i = (2 * j + k) % (2 * lo.length) then jE lo hi ps hp j k (out.getD i 0) else out.getD i 0 := by
  unfold joinK
  by_cases c : i = (2 * j + k) % (2 * lo.length)
  · subst c
    rw [Go.Gx.getD_set_self h, if_pos rfl]
    rfl
  · rw [Go.Gx.getD_set_ne (fun e => c e.symm), if_neg c]
theorem joinK_len (lo hi ps hp out : List Nat) (j k : Nat) : (joinK lo hi ps hp out j k).length = out.length := by simp [joinK]
theorem joinJ2_at {lo hi ps hp out : List Nat} {j t b : Nat} (hl : out.length = 2 * lo.length) (hj : j < lo.length) (ht : t < lo.length) (hb : b < 2) :
    (joinJ lo hi ps hp out j 2).getD (2 * t + b) 0 = if t = j then jE lo hi ps hp j b (out.getD (2 * t + b) 0) else out.getD (2 * t + b) 0 := by
  have e : joinJ lo hi ps hp out j 2 = joinK lo hi ps hp (joinK lo hi ps hp out j 0) j 1 := rfl
  have h0 : (2 * j + 0) % (2 * lo.length) = 2 * j := Nat.mod_eq_of_lt (by omega)
  have h1 : (2 * j + 1) % (2 * lo.length) = 2 * j + 1 := Nat.mod_eq_of_lt (by omega)
  rw [e, joinK_at (by rw [joinK_len]; omega), joinK_at (by omega), h0, h1]
  by_cases c : t = j
  · subst c
    rw [if_pos rfl]
    rcases (by omega : b = 0 ∨ b = 1) with rfl | rfl
    · rw [if_neg (by omega), if_pos (by omega)]
    · rw [if_pos (by omega), if_neg (by omega)]
  · rw [if_neg (by omega), if_neg (by omega), if_neg c]
theorem joinJ4_at {lo hi ps hp out : List Nat} {j t b : Nat} (hl : out.length = 2 * lo.length) (hj : j < lo.length) (ht : t < lo.length) (hb : b < 2) :
    (joinJ lo hi ps hp out j 4).getD (2 * t + b) 0 = if t = (j + 1) % lo.length then jE lo hi ps hp j (b + 2) (if t = j then jE lo hi ps hp j b (out.getD (2 * t + b) 0) else out.getD (2 * t + b) 0) else if t = j then jE lo hi ps hp j b (out.getD (2 * t + b) 0) else out.getD (2 * t + b) 0 := by
  have e : joinJ lo hi ps hp out j 4 = joinK lo hi ps hp (joinK lo hi ps hp (joinJ lo hi ps hp out j 2) j 2) j 3 := rfl
  have hlen : (joinJ lo hi ps hp out j 2).length = out.length := joinJ_len _ _ _ _ _ _ _
  obtain ⟨n1, n2, n3⟩ := mod_next hj
  rw [e, joinK_at (by rw [joinK_len]; omega), joinK_at (by omega), n1, n2, joinJ2_at hl hj ht hb]
  by_cases c : t = (j + 1) % lo.length
  · rw [← c, if_pos rfl]
    rcases (by omega : b = 0 ∨ b = 1) with rfl | rfl
    · rw [if_neg (by omega), if_pos (by omega)]
    · rw [if_pos (by omega), if_neg (by omega)]
  · rw [if_neg (by omega), if_neg (by omega), if_neg c]
theorem joinN2_at {lo hi ps hp : List Nat} (hp2 : ps.length = 2) {t b : Nat} (ht : t < lo.length) (hb : b < 2) : ∀ J, J ≤ lo.length → (joinN lo hi ps hp J).getD (2 * t + b) 0 = if t < J then jE lo hi ps hp t b 0 else 0
  | 0, _ => by
    rw [if_neg (by omega)]
    simp [joinN, foldI_zero, List.getD_eq_getElem?_getD, List.getElem?_replicate]
    intros; split <;> rfl
  | J + 1, h => by
    rw [joinN_succ, hp2, joinJ2_at (joinN_len _ _ _ _ _) (by omega) ht hb, joinN2_at hp2 ht hb J (by omega)]
    by_cases c : t = J
    · subst c
      rw [if_pos rfl, if_neg (by omega), if_pos (by omega)]
    · rw [if_neg c]
      by_cases c2 : t < J
      · rw [if_pos c2, if_pos (by omega)]
      · rw [if_neg c2, if_neg (by omega)]
theorem joinN4_at {lo hi ps hp : List Nat} (hp4 : ps.length = 4) {t b : Nat} (ht : t < lo.length) (hb : b < 2) : ∀ J, J ≤ lo.length → (joinN lo hi ps hp J).getD (2 * t + b) 0 =
    if t = 0 then (if lo.length - 1 < J then jE lo hi ps hp (lo.length - 1) (b + 2) (if 0 < J then jE lo hi ps hp 0 b 0 else 0) else if 0 < J then jE lo hi ps hp 0 b 0 else 0)
    else (if t < J then jE lo hi ps hp t b (if t - 1 < J then jE lo hi ps hp (t - 1) (b + 2) 0 else 0) else if t - 1 < J then jE lo hi ps hp (t - 1) (b + 2) 0 else 0)
  | 0, _ => by
    have z : (joinN lo hi ps hp 0).getD (2 * t + b) 0 = 0 := by
      simp [joinN, foldI_zero, List.getD_eq_getElem?_getD, List.getElem?_replicate]
      intros; split <;> rfl
    rw [z]
    by_cases c : t = 0
    · rw [if_pos c, if_neg (by omega), if_neg (by omega)]
    · rw [if_neg c, if_neg (by omega), if_neg (by omega)]
  | J + 1, h => by
    have ih := joinN4_at (hi := hi) (hp := hp) hp4 ht hb J (by omega)
    rw [joinN_succ, hp4, joinJ4_at (joinN_len _ _ _ _ _) (by omega) ht hb, ih]
    have hJ : J < lo.length := by omega
    by_cases c : t = 0
    · subst c
      rw [if_pos rfl, if_pos rfl]
      by_cases c1 : J + 1 = lo.length
      · have e : lo.length - 1 = J := by omega
        rw [c1, Nat.mod_self, if_pos rfl, e, if_neg (show ¬ J < J by omega), if_pos (show J < lo.length by omega), if_pos (show 0 < lo.length by omega)]
        by_cases c2 : J = 0
        · subst c2
          rw [if_pos rfl, if_neg (by omega)]
        · rw [if_neg (by omega), if_pos (by omega)]
      · rw [Nat.mod_eq_of_lt (by omega), if_neg (by omega), if_neg (show ¬ lo.length - 1 < J by omega), if_neg (show ¬ lo.length - 1 < J + 1 by omega), if_pos (show 0 < J + 1 by omega)]
        by_cases c2 : J = 0
        · subst c2
          rw [if_pos rfl, if_neg (by omega)]
        · rw [if_neg (by omega), if_pos (by omega)]
    · rw [if_neg c, if_neg c]
      by_cases c1 : J + 1 = lo.length
      · rw [c1, Nat.mod_self, if_neg c, if_pos (show t < lo.length by omega), if_pos (show t - 1 < lo.length by omega)]
        by_cases c2 : t = J
        · subst c2
          rw [if_pos rfl, if_neg (show ¬ t < t by omega), if_pos (show t - 1 < t by omega)]
        · rw [if_neg c2, if_pos (show t < J by omega), if_pos (show t - 1 < J by omega)]
      · rw [Nat.mod_eq_of_lt (by omega)]
        by_cases c2 : t = J + 1
        · subst c2
          rw [if_pos rfl, if_neg (by omega), if_neg (by omega), if_neg (by omega), if_neg (by omega), if_pos (by omega)]
          simp
        · rw [if_neg c2]
          by_cases c3 : t = J
          · subst c3
            rw [if_pos rfl, if_neg (show ¬ t < t by omega), if_pos (show t - 1 < t by omega), if_pos (by omega), if_pos (by omega)]
          · rw [if_neg c3]
            by_cases c4 : t < J
            · rw [if_pos c4, if_pos (show t < J + 1 by omega), if_pos (show t - 1 < J by omega), if_pos (by omega)]
            · rw [if_neg c4, if_neg (show ¬ t < J + 1 by omega), if_neg (show ¬ t - 1 < J by omega), if_neg (by omega)]
/-- What a join gives. -/
theorem join_near (q : Bool) {lo hi : List Nat} {m : Nat} {M : Rat} (hM : okR M) (hl : lo.length = m) (hx : ∀ i, i < m → FinW .f32 (lo.getD i 0) ∧ Bd (vF lo i) (2 * M)) (hy : ∀ i, i < m → FinW .f32 (hi.getD i 0) ∧ Bd (vF hi i) (2 * M)) {t s : Nat} (ht : t < m) (hs : s = if t = 0 then m - 1 else t - 1) :
    Nr ((joinL lo hi (psQ q)).getD (2 * t) 0) (jeQ q (vF lo t) (vF hi t) (vF lo s) (vF hi s)) (5 * M / 1000000) ∧ Nr ((joinL lo hi (psQ q)).getD (2 * t + 1) 0) (joQ q (vF lo t) (vF hi t) (vF lo s) (vF hi s)) (5 * M / 1000000) := by
  obtain ⟨m0, m1⟩ := id hM
  have hsm : s < m := by rw [hs]; split <;> omega
  obtain ⟨a1, a2, a3⟩ := hx t ht
  obtain ⟨b1, b2, b3⟩ := hy t ht
  obtain ⟨c1, c2, c3⟩ := hx s hsm
  obtain ⟨d1, d2, d3⟩ := hy s hsm
  unfold vF at *
  cases q
  · have w : ∀ b, b < 2 → (joinL lo hi (psQ false)).getD (2 * t + b) 0 = jE lo hi haarP haarG t b 0 := fun b hb => by
      unfold joinL
      have e : highL (psQ false) = haarG := haarG_eq
      rw [e, joinN2_at (ps := psQ false) rfl (by omega) hb _ (Nat.le_refl _), if_pos (by omega)]
      rfl
    have w0 := w 0 (by omega)
    have w1 := w 1 (by omega)
    rw [Nat.add_zero] at w0
    rw [w0, w1]
    have s0 := join_step hM nr_zero h0v h0v a1 b1 ⟨by grind_linarith, by grind_linarith⟩ ⟨by grind_linarith, by grind_linarith⟩ ⟨by grind_linarith, by grind_linarith⟩ (by grind_linarith)
    have s1 := join_step hM nr_zero h0v h1v a1 b1 ⟨by grind_linarith, by grind_linarith⟩ ⟨by grind_linarith, by grind_linarith⟩ ⟨by grind_linarith, by grind_linarith⟩ (by grind_linarith)
    obtain ⟨t1, t2, t3⟩ := s0
    obtain ⟨u1, u2, u3⟩ := s1
    unfold jeQ joQ
    exact ⟨⟨t1, by change _ ≤ fval .f32 (fbin .add .f32 0 (fbin .add .f32 (fbin .mul .f32 1060439283 (lo.getD t 0)) (fbin .mul .f32 1060439283 (hi.getD t 0)))); grind_linarith, by change fval .f32 (fbin .add .f32 0 (fbin .add .f32 (fbin .mul .f32 1060439283 (lo.getD t 0)) (fbin .mul .f32 1060439283 (hi.getD t 0)))) ≤ _; grind_linarith⟩,
      ⟨u1, by change _ ≤ fval .f32 (fbin .add .f32 0 (fbin .add .f32 (fbin .mul .f32 1060439283 (lo.getD t 0)) (fbin .mul .f32 3207922931 (hi.getD t 0)))); grind_linarith, by change fval .f32 (fbin .add .f32 0 (fbin .add .f32 (fbin .mul .f32 1060439283 (lo.getD t 0)) (fbin .mul .f32 3207922931 (hi.getD t 0)))) ≤ _; grind_linarith⟩⟩
  · have w : ∀ b, b < 2 → (joinL lo hi (psQ true)).getD (2 * t + b) 0 = if t = 0 then jE lo hi fourP fourG s (b + 2) (jE lo hi fourP fourG t b 0) else jE lo hi fourP fourG t b (jE lo hi fourP fourG s (b + 2) 0) := fun b hb => by
      unfold joinL
      have e : highL (psQ true) = fourG := fourG_eq
      rw [e, joinN4_at (ps := psQ true) rfl (by omega) hb _ (Nat.le_refl _), if_pos (show lo.length - 1 < lo.length by omega), if_pos (show 0 < lo.length by omega), if_pos (show t < lo.length by omega), if_pos (show t - 1 < lo.length by omega)]
      by_cases c : t = 0
      · subst c
        rw [if_pos rfl, if_pos rfl, hs, if_pos rfl, hl]
        rfl
      · rw [if_neg c, if_neg c, hs, if_neg c]
        rfl
    have w0 := w 0 (by omega)
    have w1 := w 1 (by omega)
    rw [Nat.add_zero] at w0
    rw [w0, w1]
    have E0 : ∀ {w : Nat} {R e : Rat}, Nr w R e → Bd R (4 * M) → e ≤ M / 100 → Nr (jE lo hi fourP fourG t 0 w) (R + (8102773 / 16777216 * fval .f32 (lo.getD t 0) + -4342263 / 33554432 * fval .f32 (hi.getD t 0))) (e + 17 * M / 8000000) := fun {w R e} hw hR he =>
      join_step hM hw f0v f3v a1 b1 ⟨by grind_linarith, by grind_linarith⟩ ⟨by grind_linarith, by grind_linarith⟩ ⟨by have := hR.1; grind_linarith, by have := hR.2; grind_linarith⟩ he
    have E1 : ∀ {w : Nat} {R e : Rat}, Nr w R e → Bd R (4 * M) → e ≤ M / 100 → Nr (jE lo hi fourP fourG t 1 w) (R + (14034415 / 16777216 * fval .f32 (lo.getD t 0) + -1880255 / 8388608 * fval .f32 (hi.getD t 0))) (e + 17 * M / 8000000) := fun {w R e} hw hR he =>
      join_step hM hw f1v g1v a1 b1 ⟨by grind_linarith, by grind_linarith⟩ ⟨by grind_linarith, by grind_linarith⟩ ⟨by have := hR.1; grind_linarith, by have := hR.2; grind_linarith⟩ he
    have E2 : ∀ {w : Nat} {R e : Rat}, Nr w R e → Bd R (4 * M) → e ≤ M / 100 → Nr (jE lo hi fourP fourG s 2 w) (R + (1880255 / 8388608 * fval .f32 (lo.getD s 0) + 14034415 / 16777216 * fval .f32 (hi.getD s 0))) (e + 17 * M / 8000000) := fun {w R e} hw hR he =>
      join_step hM hw f2v f1v c1 d1 ⟨by grind_linarith, by grind_linarith⟩ ⟨by grind_linarith, by grind_linarith⟩ ⟨by have := hR.1; grind_linarith, by have := hR.2; grind_linarith⟩ he
    have E3 : ∀ {w : Nat} {R e : Rat}, Nr w R e → Bd R (4 * M) → e ≤ M / 100 → Nr (jE lo hi fourP fourG s 3 w) (R + (-4342263 / 33554432 * fval .f32 (lo.getD s 0) + -8102773 / 16777216 * fval .f32 (hi.getD s 0))) (e + 17 * M / 8000000) := fun {w R e} hw hR he =>
      join_step hM hw f3v g3v c1 d1 ⟨by grind_linarith, by grind_linarith⟩ ⟨by grind_linarith, by grind_linarith⟩ ⟨by have := hR.1; grind_linarith, by have := hR.2; grind_linarith⟩ he
    have z : Bd 0 (4 * M) := ⟨by grind_linarith, by grind_linarith⟩
    unfold jeQ joQ
    by_cases c : t = 0
    · rw [if_pos c, if_pos c]
      obtain ⟨t1, t2, t3⟩ := E2 (E0 nr_zero z (by grind_linarith)) ⟨by grind_linarith, by grind_linarith⟩ (by grind_linarith)
      obtain ⟨u1, u2, u3⟩ := E3 (E1 nr_zero z (by grind_linarith)) ⟨by grind_linarith, by grind_linarith⟩ (by grind_linarith)
      exact ⟨⟨t1, by grind_linarith, by grind_linarith⟩, ⟨u1, by grind_linarith, by grind_linarith⟩⟩
    · rw [if_neg c, if_neg c]
      obtain ⟨t1, t2, t3⟩ := E0 (E2 nr_zero z (by grind_linarith)) ⟨by grind_linarith, by grind_linarith⟩ (by grind_linarith)
      obtain ⟨u1, u2, u3⟩ := E1 (E3 nr_zero z (by grind_linarith)) ⟨by grind_linarith, by grind_linarith⟩ (by grind_linarith)
      exact ⟨⟨t1, by grind_linarith, by grind_linarith⟩, ⟨u1, by grind_linarith, by grind_linarith⟩⟩
end Go.Proofs.Ytddekdgggpifmaa

namespace Go.Proofs.Ytddekdgggpifmaa
open Go.Gx
set_option maxRecDepth 100000
set_option linter.unusedSimpArgs false
set_option linter.unusedVariables false

theorem lo_bd (q : Bool) {a b c d M : Rat} (h0 : Bd a M) (h1 : Bd b M) (h2 : Bd c M) (h3 : Bd d M) : Bd (loQ q a b c d) (17 / 10 * M) ∧ Bd (hiQ q a b c d) (17 / 10 * M) := by
  obtain ⟨a1, a2⟩ := h0
  obtain ⟨b1, b2⟩ := h1
  obtain ⟨c1, c2⟩ := h2
  obtain ⟨d1, d2⟩ := h3
  cases q <;> simp only [loQ, hiQ, loR, hiR, loH, hiH] <;> exact ⟨⟨by grind_linarith, by grind_linarith⟩, ⟨by grind_linarith, by grind_linarith⟩⟩
/-- What was split is joined again. -/
theorem back_alg (q : Bool) {x0 x1 x2 x3 y0 y1 L H L' H' eL eH M : Rat} (hx0 : Bd x0 M) (hx1 : Bd x1 M) (hx2 : Bd x2 M) (hx3 : Bd x3 M) (hy0 : Bd y0 M) (hy1 : Bd y1 M) (hL0 : 0 ≤ eL) (hH0 : 0 ≤ eH)
    (hL : Bd (L - loQ q x0 x1 x2 x3) eL) (hH : Bd (H - hiQ q x0 x1 x2 x3) eH) (hL' : Bd (L' - loQ q y0 y1 x0 x1) eL) (hH' : Bd (H' - hiQ q y0 y1 x0 x1) eH) :
    Bd (jeQ q L H L' H' - x0) (eL + eH + M / 1000000) ∧ Bd (joQ q L H L' H' - x1) (eL + eH + M / 1000000) := by
  obtain ⟨a1, a2⟩ := hx0
  obtain ⟨b1, b2⟩ := hx1
  obtain ⟨c1, c2⟩ := hx2
  obtain ⟨d1, d2⟩ := hx3
  obtain ⟨e1, e2⟩ := hy0
  obtain ⟨f1, f2⟩ := hy1
  obtain ⟨g1, g2⟩ := hL
  obtain ⟨h1, h2⟩ := hH
  obtain ⟨i1, i2⟩ := hL'
  obtain ⟨j1, j2⟩ := hH'
  cases q <;> simp only [loQ, hiQ, loR, hiR, loH, hiH, jeQ, joQ] at * <;> exact ⟨⟨by grind_linarith, by grind_linarith⟩, ⟨by grind_linarith, by grind_linarith⟩⟩
/-- The energy of a split: a form of two numbers, and one of the next two. -/
def enA : Bool → Rat → Rat → Rat
  | true, x, y => (8102773 / 16777216 * x + 14034415 / 16777216 * y) * (8102773 / 16777216 * x + 14034415 / 16777216 * y) + (-4342263 / 33554432 * x + -1880255 / 8388608 * y) * (-4342263 / 33554432 * x + -1880255 / 8388608 * y)
  | false, x, y => loH x y * loH x y + hiH x y * hiH x y
def enB : Bool → Rat → Rat → Rat
  | true, x, y => (1880255 / 8388608 * x + -4342263 / 33554432 * y) * (1880255 / 8388608 * x + -4342263 / 33554432 * y) + (14034415 / 16777216 * x + -8102773 / 16777216 * y) * (14034415 / 16777216 * x + -8102773 / 16777216 * y)
  | false, _, _ => 0
theorem en_split (q : Bool) {a b c d M : Rat} (h0 : Bd a M) (h1 : Bd b M) (h2 : Bd c M) (h3 : Bd d M) : Bd (loQ q a b c d * loQ q a b c d + hiQ q a b c d * hiQ q a b c d - (enA q a b + enB q c d)) (M * M / 1000000) := by
  obtain ⟨p1, p2⟩ := bd_mul h0 h2
  obtain ⟨p3, p4⟩ := bd_mul h0 h3
  obtain ⟨p5, p6⟩ := bd_mul h1 h2
  obtain ⟨p7, p8⟩ := bd_mul h1 h3
  have hm := sq_nonneg M
  cases q <;> simp only [loQ, hiQ, loR, hiR, loH, hiH, enA, enB] <;> exact ⟨by grind_linarith, by grind_linarith⟩
theorem en_both (q : Bool) {a b M : Rat} (h0 : Bd a M) (h1 : Bd b M) : Bd (enA q a b + enB q a b - (a * a + b * b)) (M * M / 1000000) := by
  obtain ⟨p1, p2⟩ := bd_mul h0 h0
  obtain ⟨p3, p4⟩ := bd_mul h0 h1
  obtain ⟨p5, p6⟩ := bd_mul h1 h1
  have hm := sq_nonneg M
  cases q <;> simp only [loH, hiH, enA, enB] <;> exact ⟨by grind_linarith, by grind_linarith⟩
theorem sq_diff {a b e M : Rat} (h : Bd (a - b) e) (hb : Bd b (17 / 10 * M)) (he : e ≤ M / 10) (h0 : 0 ≤ e) : Bd (a * a - b * b) (4 * (M * e)) := by
  obtain ⟨h1, h2⟩ := h
  have hs : Bd (a + b) (4 * M) := ⟨by have := hb.1; grind_linarith, by have := hb.2; grind_linarith⟩
  obtain ⟨p1, p2⟩ := bd_mul (x := a - b) (y := a + b) ⟨h1, h2⟩ hs
  exact ⟨by grind_linarith, by grind_linarith⟩
/-- The energy of what is split is that of the list. -/
theorem split_energy (q : Bool) {xs : List Nat} {m : Nat} {M : Rat} (hM : okR M) (hl : xs.length = 2 * m) (hx : ∀ i, i < 2 * m → FinW .f32 (xs.getD i 0) ∧ Bd (vF xs i) M) :
    Bd (sqR (tapL xs (psQ q)) m + sqR (tapL xs (highL (psQ q))) m - sqR xs (2 * m)) ((m : Rat) * (M * M / 30000)) := by
  have hm0 := sq_nonneg M
  obtain ⟨m0, m1⟩ := id hM
  obtain ⟨u, hu⟩ : ∃ u : Nat → Rat, u = fun j => enA q (vF xs (2 * j)) (vF xs (2 * j + 1)) := ⟨_, rfl⟩
  obtain ⟨w, hw⟩ : ∃ w : Nat → Rat, w = fun j => enB q (vF xs (2 * j)) (vF xs (2 * j + 1)) := ⟨_, rfl⟩
  have e1 : sqR (tapL xs (psQ q)) m + sqR (tapL xs (highL (psQ q))) m = sumR (fun j => vF (tapL xs (psQ q)) j * vF (tapL xs (psQ q)) j + vF (tapL xs (highL (psQ q))) j * vF (tapL xs (highL (psQ q))) j) m := (sumR_add _ _ _).symm
  have e2 : sumR (fun j => u j + w ((j + 1) % m)) m = sumR (fun j => u j + w j) m := by rw [sumR_add, sumR_add, sumR_ring]
  have e3 : sqR xs (2 * m) = sumR (fun j => vF xs (2 * j) * vF xs (2 * j) + vF xs (2 * j + 1) * vF xs (2 * j + 1)) m := sumR_two _ _
  obtain ⟨a1, a2⟩ := sumR_near (n := m) (f := fun j => vF (tapL xs (psQ q)) j * vF (tapL xs (psQ q)) j + vF (tapL xs (highL (psQ q))) j * vF (tapL xs (highL (psQ q))) j) (g := fun j => u j + w ((j + 1) % m)) (c := M * M / 50000) fun j hj => by
    obtain ⟨n1, n2, n3⟩ := mod_next hj
    obtain ⟨⟨_, s1, s2⟩, ⟨_, s3, s4⟩⟩ := split_near q hM hl hx hj
    obtain ⟨b1, b2⟩ := lo_bd q (hx (2 * j) (by omega)).2 (hx (2 * j + 1) (by omega)).2 (hx (2 * ((j + 1) % m)) (by omega)).2 (hx (2 * ((j + 1) % m) + 1) (by omega)).2
    have c0 := en_split q (hx (2 * j) (by omega)).2 (hx (2 * j + 1) (by omega)).2 (hx (2 * ((j + 1) % m)) (by omega)).2 (hx (2 * ((j + 1) % m) + 1) (by omega)).2
    rw [hu, hw]
    simp only
    change loQ q _ _ _ _ - _ ≤ vF (tapL xs (psQ q)) j at s1
    change vF (tapL xs (psQ q)) j ≤ _ at s2
    change hiQ q _ _ _ _ - _ ≤ vF (tapL xs (highL (psQ q))) j at s3
    change vF (tapL xs (highL (psQ q))) j ≤ _ at s4
    generalize loQ q (vF xs (2 * j)) (vF xs (2 * j + 1)) (vF xs (2 * ((j + 1) % m))) (vF xs (2 * ((j + 1) % m) + 1)) = lo at *
    generalize hiQ q (vF xs (2 * j)) (vF xs (2 * j + 1)) (vF xs (2 * ((j + 1) % m))) (vF xs (2 * ((j + 1) % m) + 1)) = hi at *
    generalize vF (tapL xs (psQ q)) j = L at *
    generalize vF (tapL xs (highL (psQ q))) j = G at *
    obtain ⟨d1, d2⟩ := sq_diff (a := L) (b := lo) (e := 2 * M / 1000000) (M := M) ⟨by grind_linarith, by grind_linarith⟩ b1 (by grind_linarith) (by grind_linarith)
    obtain ⟨d3, d4⟩ := sq_diff (a := G) (b := hi) (e := 2 * M / 1000000) (M := M) ⟨by grind_linarith, by grind_linarith⟩ b2 (by grind_linarith) (by grind_linarith)
    obtain ⟨c1, c2⟩ := c0
    generalize enA q (vF xs (2 * j)) (vF xs (2 * j + 1)) = A at *
    generalize enB q (vF xs (2 * ((j + 1) % m))) (vF xs (2 * ((j + 1) % m) + 1)) = B at *
    constructor <;> grind_linarith
  obtain ⟨a3, a4⟩ := sumR_near (n := m) (f := fun j => u j + w j) (g := fun j => vF xs (2 * j) * vF xs (2 * j) + vF xs (2 * j + 1) * vF xs (2 * j + 1)) (c := M * M / 100000) fun j hj => by
    obtain ⟨d1, d2⟩ := en_both q (hx (2 * j) (by omega)).2 (hx (2 * j + 1) (by omega)).2
    rw [hu, hw]
    simp only
    generalize enA q (vF xs (2 * j)) (vF xs (2 * j + 1)) = A at *
    generalize enB q (vF xs (2 * j)) (vF xs (2 * j + 1)) = B at *
    constructor <;> grind_linarith
  rw [e1, e3]
  rw [e2] at a1 a2
  have em : (m : Rat) * (M * M / 50000) + (m : Rat) * (M * M / 100000) = (m : Rat) * (M * M / 30000) - (m : Rat) * (M * M / 300000) := by grind_linarith
  have ep : 0 ≤ (m : Rat) * (M * M / 300000) := Rat.mul_nonneg Rat.natCast_nonneg (by grind_linarith)
  constructor <;> grind_linarith
end Go.Proofs.Ytddekdgggpifmaa

namespace Go.Proofs.Ytddekdgggpifmaa
open Go.Gx
set_option maxRecDepth 100000
set_option linter.unusedSimpArgs false
set_option linter.unusedVariables false

theorem qd_max {L : List Nat} (hQ : QdL L) : ∃ M : Rat, okR M ∧ M ≤ 8 ∧ (∀ i, i < L.length → Bd (vF L i) M) ∧ M * M ≤ sqR L L.length + 1 / 16 := by
  suffices h : ∀ n, n ≤ L.length → ∃ M : Rat, 1 / 4 ≤ M ∧ M ≤ 8 ∧ (∀ i, i < n → Bd (vF L i) M) ∧ M * M ≤ sqR L n + 1 / 16 by
    obtain ⟨M, h1, h2, h3, h4⟩ := h L.length (Nat.le_refl _)
    exact ⟨M, ⟨by grind_linarith, by grind_linarith⟩, h2, h3, h4⟩
  intro n
  induction n with
  | zero =>
    intro _
    refine ⟨1 / 4, by grind_linarith, by grind_linarith, fun i hi => by omega, ?_⟩
    have : sqR L 0 = 0 := rfl
    rw [this]
    decide +kernel
  | succ n ih =>
    intro hn
    obtain ⟨M, h1, h2, h3, h4⟩ := ih (by omega)
    obtain ⟨_, _, z, z1, z2, hz⟩ := (hQ n (by omega)).ok
    have hs : sqR L (n + 1) = sqR L n + vF L n * vF L n := rfl
    have hx : vF L n = (z : Rat) / 4 := hz
    have b1 : (z : Rat) ≤ 32 := by have := Rat.intCast_le_intCast.2 z2; simpa using this
    have b2 : -32 ≤ (z : Rat) := by have := Rat.intCast_le_intCast.2 z1; simpa using this
    have q0 := sq_nonneg (vF L n)
    have s0 : 0 ≤ sqR L n := sumR_nonneg fun j _ => sq_nonneg _
    by_cases c : Bd (vF L n) M
    · refine ⟨M, h1, h2, fun i hi => ?_, by rw [hs]; grind_linarith⟩
      by_cases ci : i = n
      · subst ci; exact c
      · exact h3 i (by omega)
    · rcases Rat.le_total (a := 0) (b := vF L n) with p | p
      · have hM : M ≤ vF L n := by
          rcases Rat.le_total (a := vF L n) (b := M) with r | r
          · exact absurd ⟨by grind_linarith, r⟩ c
          · exact r
        refine ⟨vF L n, by grind_linarith, by rw [hx]; grind_linarith, fun i hi => ?_, by rw [hs]; grind_linarith⟩
        by_cases ci : i = n
        · subst ci; exact ⟨by grind_linarith, by grind_linarith⟩
        · have := h3 i (by omega)
          exact ⟨by have := this.1; grind_linarith, by have := this.2; grind_linarith⟩
      · have hM : M ≤ -vF L n := by
          rcases Rat.le_total (a := -vF L n) (b := M) with r | r
          · exact absurd ⟨by grind_linarith, by grind_linarith⟩ c
          · exact r
        refine ⟨-vF L n, by grind_linarith, by rw [hx]; grind_linarith, fun i hi => ?_, by rw [hs]; grind_linarith⟩
        by_cases ci : i = n
        · subst ci; exact ⟨by grind_linarith, by grind_linarith⟩
        · have := h3 i (by omega)
          exact ⟨by have := this.1; grind_linarith, by have := this.2; grind_linarith⟩
theorem psQ_valid (q : Bool) : validPairF (psQ q) = true := by
  cases q
  · exact haar_valid
  · exact four_valid
theorem psQ_w (q : Bool) : W32 (psQ q) := fun j => by
  match q, j with
  | true, 0 => decide
  | true, 1 => decide
  | true, 2 => decide
  | true, 3 => decide
  | true, j + 4 => simp [psQ, fourP, List.getD_eq_getElem?_getD]
  | false, 0 => decide
  | false, 1 => decide
  | false, j + 2 => simp [psQ, haarP, List.getD_eq_getElem?_getD]
theorem psQ_len (q : Bool) : 2 ≤ (psQ q).length ∧ (psQ q).length ≤ 4 := by cases q <;> decide
theorem all_fin {xs : List Nat} (h : ∀ i, i < xs.length → FinW .f32 (xs.getD i 0)) : xs.all finF = true := (allD 0).2 fun i hi => (h i hi).fin
theorem split_ok (q : Bool) {xs : List Nat} {m : Nat} {M : Rat} (hM : okR M) (hl : xs.length = 2 * m) (h1 : 1 ≤ m) (h2 : m ≤ 64) (hx : ∀ i, i < 2 * m → FinW .f32 (xs.getD i 0) ∧ Bd (vF xs i) M) : splitOk xs (psQ q) = true := by
  unfold splitOk isLongF
  have f1 : xs.all finF = true := all_fin fun i hi => (hx i (by omega)).1
  have f2 : (tapL xs (psQ q)).all finF = true := all_fin fun i hi => (split_near q hM hl hx (by rw [tapL_len] at hi; omega)).1.1
  have f3 : (tapL xs (highL (psQ q))).all finF = true := all_fin fun i hi => (split_near q hM hl hx (by rw [tapL_len] at hi; omega)).2.1
  rw [f1, f2, f3, psQ_valid, within_true.2 (by omega), decide_eq_true (show xs.length % 2 = 0 by omega)]
  rfl
theorem pred_next {m t s : Nat} (ht : t < m) (hs : s = if t = 0 then m - 1 else t - 1) : s < m ∧ (s + 1) % m = t := by
  by_cases c : t = 0
  · rw [if_pos c] at hs
    refine ⟨by omega, ?_⟩
    rw [hs, show m - 1 + 1 = m by omega, Nat.mod_self, c]
  · rw [if_neg c] at hs
    refine ⟨by omega, ?_⟩
    rw [hs, show t - 1 + 1 = t by omega, Nat.mod_eq_of_lt ht]
/-- What is split is joined again, nearly. -/
theorem ring_back (q : Bool) {xs lo : List Nat} {m : Nat} {M η : Rat} (hM : okR M) (hl : xs.length = 2 * m) (hx : ∀ i, i < 2 * m → FinW .f32 (xs.getD i 0) ∧ Bd (vF xs i) M) (hlo : lo.length = m) (h0 : 0 ≤ η) (h1 : η ≤ M / 10)
    (hL : ∀ j, j < m → FinW .f32 (lo.getD j 0) ∧ Bd (vF lo j - vF (tapL xs (psQ q)) j) η) {i : Nat} (hi : i < 2 * m) :
    FinW .f32 ((joinL lo (tapL xs (highL (psQ q))) (psQ q)).getD i 0) ∧ Bd (vF (joinL lo (tapL xs (highL (psQ q))) (psQ q)) i - vF xs i) (η + M / 50000) := by
  obtain ⟨m0, m1⟩ := id hM
  have ht : i / 2 < m := by omega
  obtain ⟨s, hs⟩ : ∃ s, s = if i / 2 = 0 then m - 1 else i / 2 - 1 := ⟨_, rfl⟩
  obtain ⟨hsm, hsn⟩ := pred_next ht hs
  have bnd : ∀ j, j < m → Bd (loQ q (vF xs (2 * j)) (vF xs (2 * j + 1)) (vF xs (2 * ((j + 1) % m))) (vF xs (2 * ((j + 1) % m) + 1))) (17 / 10 * M) ∧ Bd (hiQ q (vF xs (2 * j)) (vF xs (2 * j + 1)) (vF xs (2 * ((j + 1) % m))) (vF xs (2 * ((j + 1) % m) + 1))) (17 / 10 * M) := fun j hj => by
    obtain ⟨n1, n2, n3⟩ := mod_next hj
    exact lo_bd q (hx (2 * j) (by omega)).2 (hx (2 * j + 1) (by omega)).2 (hx (2 * ((j + 1) % m)) (by omega)).2 (hx (2 * ((j + 1) % m) + 1) (by omega)).2
  have nl : ∀ j, j < m → Bd (vF lo j - loQ q (vF xs (2 * j)) (vF xs (2 * j + 1)) (vF xs (2 * ((j + 1) % m))) (vF xs (2 * ((j + 1) % m) + 1))) (η + 2 * M / 1000000) := fun j hj => by
    obtain ⟨a1, a2, a3⟩ := (split_near q hM hl hx hj).1
    obtain ⟨b1, b2⟩ := (hL j hj).2
    unfold vF at *
    exact ⟨by grind_linarith, by grind_linarith⟩
  have nh : ∀ j, j < m → Bd (vF (tapL xs (highL (psQ q))) j - hiQ q (vF xs (2 * j)) (vF xs (2 * j + 1)) (vF xs (2 * ((j + 1) % m))) (vF xs (2 * ((j + 1) % m) + 1))) (2 * M / 1000000) := fun j hj => by
    obtain ⟨a1, a2, a3⟩ := (split_near q hM hl hx hj).2
    unfold vF at *
    exact ⟨by grind_linarith, by grind_linarith⟩
  have bl : ∀ j, j < m → FinW .f32 (lo.getD j 0) ∧ Bd (vF lo j) (2 * M) := fun j hj => by
    obtain ⟨a1, a2⟩ := nl j hj
    obtain ⟨b1, b2⟩ := (bnd j hj).1
    exact ⟨(hL j hj).1, by grind_linarith, by grind_linarith⟩
  have bh : ∀ j, j < m → FinW .f32 ((tapL xs (highL (psQ q))).getD j 0) ∧ Bd (vF (tapL xs (highL (psQ q))) j) (2 * M) := fun j hj => by
    obtain ⟨a1, a2⟩ := nh j hj
    obtain ⟨b1, b2⟩ := (bnd j hj).2
    exact ⟨(split_near q hM hl hx hj).2.1, by grind_linarith, by grind_linarith⟩
  obtain ⟨j1, j2⟩ := join_near q hM hlo bl bh ht hs
  have n1 := (mod_next ht).2.2
  have ns := nl s hsm
  have hs' := nh s hsm
  rw [hsn] at ns hs'
  obtain ⟨c1, c2⟩ := back_alg q (hx (2 * (i / 2)) (by omega)).2 (hx (2 * (i / 2) + 1) (by omega)).2 (hx (2 * ((i / 2 + 1) % m)) (by omega)).2 (hx (2 * ((i / 2 + 1) % m) + 1) (by omega)).2 (hx (2 * s) (by omega)).2 (hx (2 * s + 1) (by omega)).2 (by grind_linarith) (by grind_linarith) (nl _ ht) (nh _ ht) ns hs'
  obtain ⟨p1, p2, p3⟩ := j1
  obtain ⟨r1, r2, r3⟩ := j2
  rcases (by omega : i = 2 * (i / 2) ∨ i = 2 * (i / 2) + 1) with e | e
  · rw [e]
    have e' : 2 * (i / 2) / 2 = i / 2 := by omega
    refine ⟨p1, ?_⟩
    obtain ⟨c3, c4⟩ := c1
    show Bd (fval .f32 _ - _) _
    exact ⟨by grind_linarith, by grind_linarith⟩
  · rw [e]
    refine ⟨r1, ?_⟩
    obtain ⟨c3, c4⟩ := c2
    show Bd (fval .f32 _ - _) _
    exact ⟨by grind_linarith, by grind_linarith⟩
theorem joinL_len (lo hi ps : List Nat) : (joinL lo hi ps).length = 2 * lo.length := joinN_len _ _ _ _ _
theorem join_ok (q : Bool) {lo hi : List Nat} {m : Nat} (hl : lo.length = m) (hh : hi.length = m) (h1 : 1 ≤ m) (h2 : m ≤ 64) (hx : ∀ i, i < m → FinW .f32 (lo.getD i 0)) (hy : ∀ i, i < m → FinW .f32 (hi.getD i 0)) (hz : ∀ i, i < 2 * m → FinW .f32 ((joinL lo hi (psQ q)).getD i 0)) : joinOk lo hi (psQ q) = true := by
  unfold joinOk
  rw [all_fin fun i hi => hx i (by omega), all_fin fun i hi => hy i (by omega), all_fin fun i hi => hz i (by rw [joinL_len] at hi; omega), psQ_valid, within_true.2 (by omega), decide_eq_true (show hi.length = lo.length by omega)]
  rfl
def finV64 (w : Nat) (v : Rat) : Bool := decide (FloatKind.f64.decode w = .number false (w % 4503599627370496 + 4503599627370496) ((w / 4503599627370496 : Nat) - 1075)) && decide (fval .f64 w = v)
theorem finV64_ok {w : Nat} {v : Rat} (h : finV64 w v = true) : FinW .f64 w ∧ fval .f64 w = v := by
  unfold finV64 at h
  rw [Bool.and_eq_true, decide_eq_true_eq, decide_eq_true_eq] at h
  exact ⟨⟨_, _, _, h.1⟩, h.2⟩
theorem c01_val : FinW .f64 4576918229304087675 ∧ fval .f64 4576918229304087675 = 5764607523034235 / 576460752303423488 := finV64_ok (by decide +kernel)
theorem c001_val : FinW .f64 4562254508917369340 ∧ fval .f64 4562254508917369340 = 1152921504606847 / 1152921504606846976 := finV64_ok (by decide +kernel)
theorem one_val : FinW .f64 4607182418800017408 ∧ fval .f64 4607182418800017408 = 1 := finV64_ok (by decide +kernel)
/-- Differences within a share. -/
theorem rel_gtr {a b : Nat} (ha : FinW .f64 a) (hb : FinW .f64 b) (h0 : 0 ≤ fval .f64 b) (h1 : fval .f64 b ≤ 1000000000) (hd : Bd (fval .f64 a - fval .f64 b) (9 / 1000 * (1 + fval .f64 b))) :
    fcB .gtr .f64 (gapW a b) (fbin .mul .f64 4576918229304087675 (fbin .add .f64 4607182418800017408 b)) = false := by
  obtain ⟨o1, o2⟩ := one_val
  obtain ⟨c1, c2⟩ := c01_val
  obtain ⟨s1, s2, s3⟩ := add_near (k := .f64) (M := 2000000000) o1 hb ⟨by grind_linarith, by grind_linarith⟩ (by rw [o2]; exact ⟨by grind_linarith, by grind_linarith⟩)
  rw [o2] at s2 s3
  simp only [epsK] at s2 s3
  obtain ⟨p1, p2, p3⟩ := mul_near (k := .f64) (M := 100000000) c1 s1 ⟨by grind_linarith, by grind_linarith⟩ (by rw [c2]; exact ⟨by grind_linarith, by grind_linarith⟩)
  rw [c2] at p2 p3
  simp only [epsK] at p2 p3
  obtain ⟨d1, d2⟩ := hd
  exact gap_gtr ha hb p1 (by grind_linarith) (by grind_linarith)
theorem leq_01 {a b : Nat} (ha : FinW .f32 a) (hb : FinW .f32 b) (hd : Bd (fval .f32 a - fval .f32 b) (9 / 1000)) : fcB .leq .f64 (gapW (f64 a) (f64 b)) 4576918229304087675 = true := by
  obtain ⟨a1, a2⟩ := f64_fin ha
  obtain ⟨b1, b2⟩ := f64_fin hb
  obtain ⟨c1, c2⟩ := c01_val
  obtain ⟨d1, d2⟩ := hd
  exact gap_leq a1 b1 c1 (by rw [a2, b2, c2]; grind_linarith) (by rw [a2, b2, c2]; grind_linarith)
/-- The energies, as the law compares them. -/
theorem rings_energy (q : Bool) {xs : List Nat} {m : Nat} {M : Rat} (hM : okR M) (hM8 : M ≤ 8) (hl : xs.length = 2 * m) (h2 : m ≤ 12) (hx : ∀ i, i < 2 * m → FinW .f32 (xs.getD i 0) ∧ Bd (vF xs i) M) (hs : M * M ≤ sqR xs (2 * m) + 1 / 16) :
    fcB .gtr .f64 (gapW (fbin .add .f64 (sqD (tapL xs (psQ q)) m) (sqD (tapL xs (highL (psQ q))) m)) (sqD xs (2 * m))) (fbin .mul .f64 4576918229304087675 (fbin .add .f64 4607182418800017408 (sqD xs (2 * m)))) = false := by
  obtain ⟨m0, m1⟩ := id hM
  obtain ⟨e1, e2⟩ := split_energy q hM hl hx
  have llo : (tapL xs (psQ q)).length = m := by rw [tapL_len]; omega
  have lhi : (tapL xs (highL (psQ q))).length = m := by rw [tapL_len]; omega
  have bnd : ∀ j, j < m → (FinW .f32 ((tapL xs (psQ q)).getD j 0) ∧ Bd (vF (tapL xs (psQ q)) j) 16) ∧ (FinW .f32 ((tapL xs (highL (psQ q))).getD j 0) ∧ Bd (vF (tapL xs (highL (psQ q))) j) 16) := fun j hj => by
    obtain ⟨n1, n2, n3⟩ := mod_next hj
    obtain ⟨⟨a1, a2, a3⟩, ⟨b1, b2, b3⟩⟩ := split_near q hM hl hx hj
    obtain ⟨⟨c1, c2⟩, ⟨d1, d2⟩⟩ := lo_bd q (hx (2 * j) (by omega)).2 (hx (2 * j + 1) (by omega)).2 (hx (2 * ((j + 1) % m)) (by omega)).2 (hx (2 * ((j + 1) % m) + 1) (by omega)).2
    unfold vF at *
    exact ⟨⟨a1, ⟨by grind_linarith, by grind_linarith⟩⟩, ⟨b1, ⟨by grind_linarith, by grind_linarith⟩⟩⟩
  obtain ⟨s1, s2, s3⟩ := sq_near (M := 16) (by grind_linarith) (by grind_linarith) (fun i hi => (bnd i (by omega)).1) m (by omega) (by omega)
  obtain ⟨t1, t2, t3⟩ := sq_near (M := 16) (by grind_linarith) (by grind_linarith) (fun i hi => (bnd i (by omega)).2) m (by omega) (by omega)
  obtain ⟨u1, u2, u3⟩ := sq_near (xs := xs) (M := 16) (by grind_linarith) (by grind_linarith) (fun i hi => ⟨(hx i (by omega)).1, by have := (hx i (by omega)).2; exact ⟨by have := this.1; grind_linarith, by have := this.2; grind_linarith⟩⟩) (2 * m) (by omega) (by omega)
  have hmr : (m : Rat) ≤ 12 := by have := natCast_le h2; simpa using this
  have hmr0 : (0 : Rat) ≤ m := Rat.natCast_nonneg
  have hm2 : ((2 * m : Nat) : Rat) = 2 * (m : Rat) := by rw [Rat.natCast_mul]; rfl
  rw [hm2] at u2 u3
  have S0 : 0 ≤ sqR xs (2 * m) := sumR_nonneg fun j _ => sq_nonneg _
  have MM0 := sq_nonneg M
  have hMM : M * M ≤ 64 := by
    have := sq_bd (x := M) (M := 8) ⟨by grind_linarith, hM8⟩
    grind_linarith
  have k1 : (m : Rat) * (M * M / 30000) ≤ 12 * (M * M / 30000) := Rat.mul_le_mul_of_nonneg_right hmr (by grind_linarith)
  have Sb : sqR xs (2 * m) ≤ 2000 := by
    have := (sumR_near (f := fun i => vF xs i * vF xs i) (g := fun _ => 0) (c := 64) (n := 2 * m) fun j hj => by
      have a := sq_bd (hx j hj).2
      have b := sq_nonneg (vF xs j)
      constructor <;> grind_linarith).1
    have z : ∀ n, sumR (fun _ => 0) n = 0 := fun n => by
      induction n with
      | zero => rfl
      | succ n ih => rw [sumR, ih]; grind_linarith
    rw [z, hm2] at this
    unfold sqR
    grind_linarith
  have L0 : 0 ≤ sqR (tapL xs (psQ q)) m := sumR_nonneg fun j _ => sq_nonneg _
  have H0 : 0 ≤ sqR (tapL xs (highL (psQ q))) m := sumR_nonneg fun j _ => sq_nonneg _
  obtain ⟨v1, v2, v3⟩ := add_near (k := .f64) (M := 10000) s1 t1 ⟨by grind_linarith, by grind_linarith⟩ ⟨by grind_linarith, by grind_linarith⟩
  simp only [epsK] at v2 v3
  have u0 : 0 ≤ fval .f64 (sqD xs (2 * m)) := sqD_nonneg (fun i hi => (hx i (by omega)).1) (fun i hi => (hx i (by omega)).2) hM8 _ (by omega) (by omega)
  exact rel_gtr v1 u1 u0 (by grind_linarith) ⟨by grind_linarith, by grind_linarith⟩
/-- An even list has nothing that is high. -/
def noneW : Bool → Nat
  | true => fbin .add .f32 (fbin .add .f32 (fbin .add .f32 (fbin .add .f32 0 (fbin .mul .f32 3187966958 1077936128)) (fbin .mul .f32 3194324472 1077936128)) (fbin .mul .f32 1062610415 1077936128)) (fbin .mul .f32 3203876586 1077936128)
  | false => fbin .add .f32 (fbin .add .f32 0 (fbin .mul .f32 1060439283 1077936128)) (fbin .mul .f32 3207922931 1077936128)
theorem none_ok (q : Bool) : fcB .gtr .f64 (gapW (f64 (noneW q)) 0) 4562254508917369340 = false := by cases q <;> decide +kernel
theorem three_val : FinW .f32 1077936128 ∧ fval .f32 1077936128 = 3 := finV_ok (by decide +kernel)
theorem rep_at {n i w : Nat} (h : i < n) : (List.replicate n w).getD i 0 = w := by simp [List.getD_eq_getElem?_getD, h]
theorem none_at (q : Bool) {m j : Nat} (hj : j < m) : (tapL (List.replicate (2 * m) 1077936128) (highL (psQ q))).getD j 0 = noneW q := by
  have hl : (List.replicate (2 * m) 1077936128).length = 2 * m := by simp
  have r : ∀ k, (List.replicate (2 * m) 1077936128).getD (k % (2 * m)) 0 = 1077936128 := fun k => rep_at (Nat.mod_lt _ (by omega))
  rw [tapL_at (by rw [hl]; omega)]
  cases q
  · have e : highL (psQ false) = haarG := haarG_eq
    rw [e]
    show tapF _ haarG j 2 = _
    rw [tapF_succ, tapF_succ, hl, r, r]
    rfl
  · have e : highL (psQ true) = fourG := fourG_eq
    rw [e]
    show tapF _ fourG j 4 = _
    rw [tapF_succ, tapF_succ, tapF_succ, tapF_succ, hl, r, r, r, r]
    rfl
def otD (q : Bool) : Nat → Nat := foldI (fun k s => fbin .add .f64 s (fbin .mul .f64 (f64 ((highL (psQ q)).getD k 0)) (f64 ((psQ q).getD k 0)))) 0
theorem ot_ok (q : Bool) : fcB .lss .f64 (gapW (otD q (psQ q).length) 0) 4562254508917369340 = true := by cases q <;> decide +kernel
end Go.Proofs.Ytddekdgggpifmaa
