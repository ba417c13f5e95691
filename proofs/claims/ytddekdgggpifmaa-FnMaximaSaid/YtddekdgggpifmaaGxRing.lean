/-
  Pairs of filters: what rounded sums of products are near to, in rational numbers.
-/
import Derived.Test.YtddekdgggpifmaaGxNear
namespace Go.Gx
set_option linter.unusedSimpArgs false
set_option linter.unusedVariables false

def fourP : List Nat := [1056392938, 1062610415, 1046840824, 3187966958]
def haarP : List Nat := [1060439283, 1060439283]
def fourG : List Nat := [3187966958, 3194324472, 1062610415, 3203876586]
def haarG : List Nat := [1060439283, 3207922931]
theorem fourG_eq : highL fourP = fourG := by decide +kernel
theorem haarG_eq : highL haarP = haarG := by decide +kernel
theorem four_valid : validPairF fourP = true := by decide +kernel
theorem haar_valid : validPairF haarP = true := by decide +kernel
def finV (w : Nat) (v : Rat) : Bool := finF w && decide (fval .f32 w = v)
theorem finV_ok {w : Nat} {v : Rat} (h : finV w v = true) : FinW .f32 w ∧ fval .f32 w = v := by
  unfold finV at h
  rw [Bool.and_eq_true, decide_eq_true_eq] at h
  exact ⟨finW_of h.1, h.2⟩
theorem f0v : FinW .f32 1056392938 ∧ fval .f32 1056392938 = 8102773 / 16777216 := finV_ok (by decide +kernel)
theorem f1v : FinW .f32 1062610415 ∧ fval .f32 1062610415 = 14034415 / 16777216 := finV_ok (by decide +kernel)
theorem f2v : FinW .f32 1046840824 ∧ fval .f32 1046840824 = 1880255 / 8388608 := finV_ok (by decide +kernel)
theorem f3v : FinW .f32 3187966958 ∧ fval .f32 3187966958 = -4342263 / 33554432 := finV_ok (by decide +kernel)
theorem g1v : FinW .f32 3194324472 ∧ fval .f32 3194324472 = -1880255 / 8388608 := finV_ok (by decide +kernel)
theorem g3v : FinW .f32 3203876586 ∧ fval .f32 3203876586 = -8102773 / 16777216 := finV_ok (by decide +kernel)
theorem h0v : FinW .f32 1060439283 ∧ fval .f32 1060439283 = 11863283 / 16777216 := finV_ok (by decide +kernel)
theorem h1v : FinW .f32 3207922931 ∧ fval .f32 3207922931 = -11863283 / 16777216 := finV_ok (by decide +kernel)

/-- A finite word within 'e' of 'r'. -/
def Nr (w : Nat) (r e : Rat) : Prop := FinW .f32 w ∧ r - e ≤ fval .f32 w ∧ fval .f32 w ≤ r + e
theorem Nr.mono {w : Nat} {r e e' : Rat} (h : Nr w r e) (he : e ≤ e') : Nr w r e' := ⟨h.1, by have := h.2.1; grind_linarith, by have := h.2.2; grind_linarith⟩
def okR (M : Rat) : Prop := 1 / 16 ≤ M ∧ M ≤ 1000000000
theorem tap_step {a p x : Nat} {R e M c : Rat} (hM : okR M) (ha : Nr a R e) (hp : FinW .f32 p ∧ fval .f32 p = c) (hx : FinW .f32 x) (h1 : Bd (c * fval .f32 x) M) (h2 : Bd (R + c * fval .f32 x) (17 / 10 * M)) (he : e ≤ M / 100) :
    Nr (fbin .add .f32 a (fbin .mul .f32 p x)) (R + c * fval .f32 x) (e + 3 * M / 8000000) := by
  obtain ⟨p1, p2⟩ := hp
  obtain ⟨m0, m1⟩ := hM
  obtain ⟨a1, a2, a3⟩ := ha
  obtain ⟨q1, q2, q3⟩ := mul_near (k := .f32) (M := M) p1 hx ⟨by grind_linarith, by grind_linarith⟩ (by rw [p2]; exact h1)
  rw [p2] at q2 q3
  simp only [epsK] at q2 q3
  obtain ⟨h3, h4⟩ := h2
  obtain ⟨s1, s2, s3⟩ := add_near (k := .f32) (M := 2 * M) a1 q1 ⟨by grind_linarith, by grind_linarith⟩ ⟨by grind_linarith, by grind_linarith⟩
  simp only [epsK] at s2 s3
  exact ⟨s1, by grind_linarith, by grind_linarith⟩
/-- One number of a joined ring: two products are added to what is there. -/
theorem join_step {a p l g h : Nat} {R e M c d : Rat} (hM : okR M) (ha : Nr a R e) (hp : FinW .f32 p ∧ fval .f32 p = c) (hg : FinW .f32 g ∧ fval .f32 g = d) (hl : FinW .f32 l) (hh : FinW .f32 h)
    (h1 : Bd (c * fval .f32 l) (2 * M)) (h2 : Bd (d * fval .f32 h) (2 * M)) (h3 : Bd (R + (c * fval .f32 l + d * fval .f32 h)) (7 * M)) (he : e ≤ M / 100) :
    Nr (fbin .add .f32 a (fbin .add .f32 (fbin .mul .f32 p l) (fbin .mul .f32 g h))) (R + (c * fval .f32 l + d * fval .f32 h)) (e + 17 * M / 8000000) := by
  obtain ⟨p1, p2⟩ := hp
  obtain ⟨g1, g2⟩ := hg
  obtain ⟨m0, m1⟩ := hM
  obtain ⟨a1, a2, a3⟩ := ha
  obtain ⟨q1, q2, q3⟩ := mul_near (k := .f32) (M := 2 * M) p1 hl ⟨by grind_linarith, by grind_linarith⟩ (by rw [p2]; exact h1)
  obtain ⟨r1, r2, r3⟩ := mul_near (k := .f32) (M := 2 * M) g1 hh ⟨by grind_linarith, by grind_linarith⟩ (by rw [g2]; exact h2)
  rw [p2] at q2 q3
  rw [g2] at r2 r3
  simp only [epsK] at q2 q3 r2 r3
  obtain ⟨b1, b2⟩ := h1
  obtain ⟨b3, b4⟩ := h2
  obtain ⟨b5, b6⟩ := h3
  obtain ⟨s1, s2, s3⟩ := add_near (k := .f32) (M := 5 * M) q1 r1 ⟨by grind_linarith, by grind_linarith⟩ ⟨by grind_linarith, by grind_linarith⟩
  simp only [epsK] at s2 s3
  obtain ⟨t1, t2, t3⟩ := add_near (k := .f32) (M := 8 * M) a1 s1 ⟨by grind_linarith, by grind_linarith⟩ ⟨by grind_linarith, by grind_linarith⟩
  simp only [epsK] at t2 t3
  exact ⟨t1, by grind_linarith, by grind_linarith⟩
theorem nr_zero : Nr 0 0 0 := ⟨finW_zero.1, by rw [finW_zero.2]; grind_linarith, by rw [finW_zero.2]; grind_linarith⟩

/-! ### the numbers of the pairs -/
def loR (x0 x1 x2 x3 : Rat) : Rat := 8102773 / 16777216 * x0 + 14034415 / 16777216 * x1 + 1880255 / 8388608 * x2 + -4342263 / 33554432 * x3
def hiR (x0 x1 x2 x3 : Rat) : Rat := -4342263 / 33554432 * x0 + -1880255 / 8388608 * x1 + 14034415 / 16777216 * x2 + -8102773 / 16777216 * x3
theorem four_lo {x0 x1 x2 x3 : Nat} {M : Rat} (hM : okR M) (h0 : FinW .f32 x0 ∧ Bd (fval .f32 x0) M) (h1 : FinW .f32 x1 ∧ Bd (fval .f32 x1) M) (h2 : FinW .f32 x2 ∧ Bd (fval .f32 x2) M) (h3 : FinW .f32 x3 ∧ Bd (fval .f32 x3) M) :
    Nr (fbin .add .f32 (fbin .add .f32 (fbin .add .f32 (fbin .add .f32 0 (fbin .mul .f32 1056392938 x0)) (fbin .mul .f32 1062610415 x1)) (fbin .mul .f32 1046840824 x2)) (fbin .mul .f32 3187966958 x3)) (loR (fval .f32 x0) (fval .f32 x1) (fval .f32 x2) (fval .f32 x3)) (2 * M / 1000000) := by
  obtain ⟨m0, m1⟩ := id hM
  obtain ⟨a0, b0, c0⟩ := h0
  obtain ⟨a1, b1, c1⟩ := h1
  obtain ⟨a2, b2, c2⟩ := h2
  obtain ⟨a3, b3, c3⟩ := h3
  have s0 := tap_step hM nr_zero f0v a0 ⟨by grind_linarith, by grind_linarith⟩ ⟨by grind_linarith, by grind_linarith⟩ (by grind_linarith)
  have s1 := tap_step hM s0 f1v a1 ⟨by grind_linarith, by grind_linarith⟩ ⟨by grind_linarith, by grind_linarith⟩ (by grind_linarith)
  have s2 := tap_step hM s1 f2v a2 ⟨by grind_linarith, by grind_linarith⟩ ⟨by grind_linarith, by grind_linarith⟩ (by grind_linarith)
  have s3 := tap_step hM s2 f3v a3 ⟨by grind_linarith, by grind_linarith⟩ ⟨by grind_linarith, by grind_linarith⟩ (by grind_linarith)
  obtain ⟨t1, t2, t3⟩ := s3
  unfold loR
  exact ⟨t1, by grind_linarith, by grind_linarith⟩
theorem four_hi {x0 x1 x2 x3 : Nat} {M : Rat} (hM : okR M) (h0 : FinW .f32 x0 ∧ Bd (fval .f32 x0) M) (h1 : FinW .f32 x1 ∧ Bd (fval .f32 x1) M) (h2 : FinW .f32 x2 ∧ Bd (fval .f32 x2) M) (h3 : FinW .f32 x3 ∧ Bd (fval .f32 x3) M) :
    Nr (fbin .add .f32 (fbin .add .f32 (fbin .add .f32 (fbin .add .f32 0 (fbin .mul .f32 3187966958 x0)) (fbin .mul .f32 3194324472 x1)) (fbin .mul .f32 1062610415 x2)) (fbin .mul .f32 3203876586 x3)) (hiR (fval .f32 x0) (fval .f32 x1) (fval .f32 x2) (fval .f32 x3)) (2 * M / 1000000) := by
  obtain ⟨m0, m1⟩ := id hM
  obtain ⟨a0, b0, c0⟩ := h0
  obtain ⟨a1, b1, c1⟩ := h1
  obtain ⟨a2, b2, c2⟩ := h2
  obtain ⟨a3, b3, c3⟩ := h3
  have s0 := tap_step hM nr_zero f3v a0 ⟨by grind_linarith, by grind_linarith⟩ ⟨by grind_linarith, by grind_linarith⟩ (by grind_linarith)
  have s1 := tap_step hM s0 g1v a1 ⟨by grind_linarith, by grind_linarith⟩ ⟨by grind_linarith, by grind_linarith⟩ (by grind_linarith)
  have s2 := tap_step hM s1 f1v a2 ⟨by grind_linarith, by grind_linarith⟩ ⟨by grind_linarith, by grind_linarith⟩ (by grind_linarith)
  have s3 := tap_step hM s2 g3v a3 ⟨by grind_linarith, by grind_linarith⟩ ⟨by grind_linarith, by grind_linarith⟩ (by grind_linarith)
  obtain ⟨t1, t2, t3⟩ := s3
  unfold hiR
  exact ⟨t1, by grind_linarith, by grind_linarith⟩
def loH (x0 x1 : Rat) : Rat := 11863283 / 16777216 * x0 + 11863283 / 16777216 * x1
def hiH (x0 x1 : Rat) : Rat := 11863283 / 16777216 * x0 + -11863283 / 16777216 * x1
theorem haar_lo {x0 x1 : Nat} {M : Rat} (hM : okR M) (h0 : FinW .f32 x0 ∧ Bd (fval .f32 x0) M) (h1 : FinW .f32 x1 ∧ Bd (fval .f32 x1) M) :
    Nr (fbin .add .f32 (fbin .add .f32 0 (fbin .mul .f32 1060439283 x0)) (fbin .mul .f32 1060439283 x1)) (loH (fval .f32 x0) (fval .f32 x1)) (2 * M / 1000000) := by
  obtain ⟨m0, m1⟩ := id hM
  obtain ⟨a0, b0, c0⟩ := h0
  obtain ⟨a1, b1, c1⟩ := h1
  have s0 := tap_step hM nr_zero h0v a0 ⟨by grind_linarith, by grind_linarith⟩ ⟨by grind_linarith, by grind_linarith⟩ (by grind_linarith)
  have s1 := tap_step hM s0 h0v a1 ⟨by grind_linarith, by grind_linarith⟩ ⟨by grind_linarith, by grind_linarith⟩ (by grind_linarith)
  obtain ⟨t1, t2, t3⟩ := s1
  unfold loH
  exact ⟨t1, by grind_linarith, by grind_linarith⟩
theorem haar_hi {x0 x1 : Nat} {M : Rat} (hM : okR M) (h0 : FinW .f32 x0 ∧ Bd (fval .f32 x0) M) (h1 : FinW .f32 x1 ∧ Bd (fval .f32 x1) M) :
    Nr (fbin .add .f32 (fbin .add .f32 0 (fbin .mul .f32 1060439283 x0)) (fbin .mul .f32 3207922931 x1)) (hiH (fval .f32 x0) (fval .f32 x1)) (2 * M / 1000000) := by
  obtain ⟨m0, m1⟩ := id hM
  obtain ⟨a0, b0, c0⟩ := h0
  obtain ⟨a1, b1, c1⟩ := h1
  have s0 := tap_step hM nr_zero h0v a0 ⟨by grind_linarith, by grind_linarith⟩ ⟨by grind_linarith, by grind_linarith⟩ (by grind_linarith)
  have s1 := tap_step hM s0 h1v a1 ⟨by grind_linarith, by grind_linarith⟩ ⟨by grind_linarith, by grind_linarith⟩ (by grind_linarith)
  obtain ⟨t1, t2, t3⟩ := s1
  unfold hiH
  exact ⟨t1, by grind_linarith, by grind_linarith⟩
end Go.Gx
