/-
  Lifts by nine numbers: bounds, and what rounded lifts are near to.
-/
import Derived.Test.YtddekdgggpifmaaGxGrid
namespace Go.Gx
set_option linter.unusedSimpArgs false
set_option linter.unusedVariables false
set_option maxRecDepth 10000
open Ieee
def nineW : List Nat := [3217753715, 3176726958, 1063388790, 1055069013]
theorem w0_v : FinW .f32 3217753715 ∧ fval .f32 3217753715 = -13305459 / 8388608 := finV_ok (by decide +kernel)
theorem w1_v : FinW .f32 3176726958 ∧ fval .f32 3176726958 = -7110871 / 134217728 := finV_ok (by decide +kernel)
theorem w2_v : FinW .f32 1063388790 ∧ fval .f32 1063388790 = 7406395 / 8388608 := finV_ok (by decide +kernel)
theorem w3_v : FinW .f32 1055069013 ∧ fval .f32 1055069013 = 14881621 / 33554432 := finV_ok (by decide +kernel)
theorem n0_v : FinW .f32 (fneg .f32 3217753715) ∧ fval .f32 (fneg .f32 3217753715) = 13305459 / 8388608 := finV_ok (by decide +kernel)
theorem n1_v : FinW .f32 (fneg .f32 3176726958) ∧ fval .f32 (fneg .f32 3176726958) = 7110871 / 134217728 := finV_ok (by decide +kernel)
theorem n2_v : FinW .f32 (fneg .f32 1063388790) ∧ fval .f32 (fneg .f32 1063388790) = -7406395 / 8388608 := finV_ok (by decide +kernel)
theorem n3_v : FinW .f32 (fneg .f32 1055069013) ∧ fval .f32 (fneg .f32 1055069013) = -14881621 / 33554432 := finV_ok (by decide +kernel)
theorem k_v : FinW .f32 1066608189 ∧ fval .f32 1066608189 = 9643581 / 8388608 := finV_ok (by decide +kernel)

/-! ### exactly -/
def rO (w : Rat) (ne : Nat) (E O : Nat → Rat) (j : Nat) : Rat := O j + w * (E j + E (min (j + 1) (ne - 1)))
def rE (w : Rat) (no : Nat) (E O : Nat → Rat) (j : Nat) : Rat := E j + w * (O (j - 1) + O (min j (no - 1)))
/-- An odd beside an even has it beside. -/
theorem odd_has {ne no j : Nat} (h0 : 1 ≤ no) (h1 : no ≤ ne) (h2 : ne ≤ no + 1) (hj : j < ne) : (j - 1 < no ∧ (j - 1 = j ∨ min (j - 1 + 1) (ne - 1) = j)) ∧ (min j (no - 1) < no ∧ (min j (no - 1) = j ∨ min (min j (no - 1) + 1) (ne - 1) = j)) := by omega
theorem even_has {ne no t : Nat} (h0 : 1 ≤ no) (h1 : no ≤ ne) (h2 : ne ≤ no + 1) (ht : t < no) : (t < ne ∧ (t - 1 = t ∨ min t (no - 1) = t)) ∧ (min (t + 1) (ne - 1) < ne ∧ (min (t + 1) (ne - 1) - 1 = t ∨ min (min (t + 1) (ne - 1)) (no - 1) = t)) := by omega
section
variable {ne no : Nat} (h0 : 1 ≤ no) (h1 : no ≤ ne) (h2 : ne ≤ no + 1) (E O : Nat → Rat) (w v : Rat)
include h0 h1 h2
/-- An odd, lifted, by an even beside it. -/
theorem rO_rep {t j : Nat} (ht : t < no) (hj : t = j ∨ min (t + 1) (ne - 1) = j) : ∃ x, x < ne ∧ rO w ne E O t = O t + w * (E j + E x) := by
  have _ := h0
  unfold rO
  rcases hj with rfl | rfl
  · exact ⟨_, by omega, rfl⟩
  · exact ⟨t, by omega, by grind_linarith⟩
/-- An even, lifted, by an odd beside it. -/
theorem rE_rep {j t : Nat} (hj : j < ne) (ht : j - 1 = t ∨ min j (no - 1) = t) : ∃ s, s < no ∧ (s = j ∨ min (s + 1) (ne - 1) = j) ∧ rE w no E O j = E j + w * (O t + O s) := by
  obtain ⟨⟨a1, a2⟩, ⟨b1, b2⟩⟩ := odd_has h0 h1 h2 hj
  unfold rE
  rcases ht with rfl | rfl
  · exact ⟨_, b1, b2, rfl⟩
  · exact ⟨_, a1, a2, by grind_linarith⟩
end
section
variable {ne no : Nat} (h0 : 1 ≤ no) (h1 : no ≤ ne) (h2 : ne ≤ no + 1) {E O : Nat → Rat} {M : Rat} (hE : ∀ j, j < ne → Bd (E j) M) (hO : ∀ t, t < no → Bd (O t) M)
include h0 h1 h2 hE hO
theorem nine_O1 {t : Nat} (ht : t < no) : Bd (rO (-13305459 / 8388608) ne E O t) (418 / 100 * M) := by
  have _ := h0
  obtain ⟨a1, a2⟩ := hE t (by omega)
  obtain ⟨b1, b2⟩ := hE (min (t + 1) (ne - 1)) (by omega)
  obtain ⟨c1, c2⟩ := hO t ht
  unfold rO
  exact ⟨by grind_linarith, by grind_linarith⟩
theorem nine_E1 {j : Nat} (hj : j < ne) : Bd (rE (-7110871 / 134217728) no E (rO (-13305459 / 8388608) ne E O) j) (145 / 100 * M) := by
  obtain ⟨⟨a1, a2⟩, ⟨b1, b2⟩⟩ := odd_has h0 h1 h2 hj
  obtain ⟨c1, c2⟩ := nine_O1 h0 h1 h2 hE hO a1
  obtain ⟨d1, d2⟩ := nine_O1 h0 h1 h2 hE hO b1
  obtain ⟨e1, e2⟩ := hE j hj
  unfold rE
  exact ⟨by grind_linarith, by grind_linarith⟩
theorem nine_O2 {t : Nat} (ht : t < no) : Bd (rO (7406395 / 8388608) ne (rE (-7110871 / 134217728) no E (rO (-13305459 / 8388608) ne E O)) (rO (-13305459 / 8388608) ne E O) t) (213 / 100 * M) := by
  obtain ⟨⟨a1, a2⟩, ⟨b1, b2⟩⟩ := even_has h0 h1 h2 ht
  obtain ⟨s1, c1, c2, c3⟩ := rE_rep h0 h1 h2 E (rO (-13305459 / 8388608) ne E O) (-7110871 / 134217728) a1 a2
  obtain ⟨s2, d1, d2, d3⟩ := rE_rep h0 h1 h2 E (rO (-13305459 / 8388608) ne E O) (-7110871 / 134217728) b1 b2
  obtain ⟨x1, e1, e2⟩ := rO_rep h0 h1 h2 E O (-13305459 / 8388608) c1 c2
  obtain ⟨x2, f1, f2⟩ := rO_rep h0 h1 h2 E O (-13305459 / 8388608) d1 d2
  have g : rO (-13305459 / 8388608) ne E O t = O t + -13305459 / 8388608 * (E t + E (min (t + 1) (ne - 1))) := rfl
  have k : rO (7406395 / 8388608) ne (rE (-7110871 / 134217728) no E (rO (-13305459 / 8388608) ne E O)) (rO (-13305459 / 8388608) ne E O) t = rO (-13305459 / 8388608) ne E O t + 7406395 / 8388608 * (rE (-7110871 / 134217728) no E (rO (-13305459 / 8388608) ne E O) t + rE (-7110871 / 134217728) no E (rO (-13305459 / 8388608) ne E O) (min (t + 1) (ne - 1))) := rfl
  rw [k, c3, d3, e2, f2, g]
  obtain ⟨m1, m2⟩ := hE t a1
  obtain ⟨m3, m4⟩ := hE (min (t + 1) (ne - 1)) b1
  obtain ⟨m5, m6⟩ := hE x1 e1
  obtain ⟨m7, m8⟩ := hE x2 f1
  obtain ⟨m9, m10⟩ := hO t ht
  obtain ⟨m11, m12⟩ := hO s1 c1
  obtain ⟨m13, m14⟩ := hO s2 d1
  exact ⟨by grind_linarith, by grind_linarith⟩
theorem nine_E2 {j : Nat} (hj : j < ne) : Bd (rE (14881621 / 33554432) no (rE (-7110871 / 134217728) no E (rO (-13305459 / 8388608) ne E O)) (rO (7406395 / 8388608) ne (rE (-7110871 / 134217728) no E (rO (-13305459 / 8388608) ne E O)) (rO (-13305459 / 8388608) ne E O)) j) (171 / 100 * M) := by
  -- an odd beside j: its two evens are j and another one
  have rep : ∀ s, s < no → (s = j ∨ min (s + 1) (ne - 1) = j) → ∃ x t y, x < ne ∧ t < no ∧ y < ne ∧ rO (-13305459 / 8388608) ne E O s = O s + -13305459 / 8388608 * (E j + E x) ∧
      rO (7406395 / 8388608) ne (rE (-7110871 / 134217728) no E (rO (-13305459 / 8388608) ne E O)) (rO (-13305459 / 8388608) ne E O) s = rO (-13305459 / 8388608) ne E O s + 7406395 / 8388608 * (rE (-7110871 / 134217728) no E (rO (-13305459 / 8388608) ne E O) j + (E x + -7110871 / 134217728 * (rO (-13305459 / 8388608) ne E O s + (O t + -13305459 / 8388608 * (E x + E y))))) := by
    intro s hs hsj
    obtain ⟨⟨a1, a2⟩, ⟨b1, b2⟩⟩ := even_has h0 h1 h2 hs
    rcases hsj with rfl | hb
    · obtain ⟨t, d1, d2, d3⟩ := rE_rep h0 h1 h2 E (rO (-13305459 / 8388608) ne E O) (-7110871 / 134217728) b1 b2
      obtain ⟨y, f1, f2⟩ := rO_rep h0 h1 h2 E O (-13305459 / 8388608) d1 d2
      refine ⟨_, t, y, b1, d1, f1, rfl, ?_⟩
      rw [← f2, ← d3]
      rfl
    · obtain ⟨t, d1, d2, d3⟩ := rE_rep h0 h1 h2 E (rO (-13305459 / 8388608) ne E O) (-7110871 / 134217728) a1 a2
      obtain ⟨y, f1, f2⟩ := rO_rep h0 h1 h2 E O (-13305459 / 8388608) d1 d2
      refine ⟨s, t, y, a1, d1, f1, ?_, ?_⟩
      · unfold rO
        rw [hb]
        grind_linarith
      · rw [← f2, ← d3]
        have k : rO (7406395 / 8388608) ne (rE (-7110871 / 134217728) no E (rO (-13305459 / 8388608) ne E O)) (rO (-13305459 / 8388608) ne E O) s = rO (-13305459 / 8388608) ne E O s + 7406395 / 8388608 * (rE (-7110871 / 134217728) no E (rO (-13305459 / 8388608) ne E O) s + rE (-7110871 / 134217728) no E (rO (-13305459 / 8388608) ne E O) (min (s + 1) (ne - 1))) := rfl
        rw [k, hb]
        grind_linarith
  obtain ⟨⟨a1, a2⟩, ⟨b1, b2⟩⟩ := odd_has h0 h1 h2 hj
  obtain ⟨x1, t1, y1, p1, p2, p3, p4, p5⟩ := rep _ a1 a2
  obtain ⟨x2, t2, y2, q1, q2, q3, q4, q5⟩ := rep _ b1 b2
  have k : rE (14881621 / 33554432) no (rE (-7110871 / 134217728) no E (rO (-13305459 / 8388608) ne E O)) (rO (7406395 / 8388608) ne (rE (-7110871 / 134217728) no E (rO (-13305459 / 8388608) ne E O)) (rO (-13305459 / 8388608) ne E O)) j = rE (-7110871 / 134217728) no E (rO (-13305459 / 8388608) ne E O) j + 14881621 / 33554432 * (rO (7406395 / 8388608) ne (rE (-7110871 / 134217728) no E (rO (-13305459 / 8388608) ne E O)) (rO (-13305459 / 8388608) ne E O) (j - 1) + rO (7406395 / 8388608) ne (rE (-7110871 / 134217728) no E (rO (-13305459 / 8388608) ne E O)) (rO (-13305459 / 8388608) ne E O) (min j (no - 1))) := rfl
  have g : rE (-7110871 / 134217728) no E (rO (-13305459 / 8388608) ne E O) j = E j + -7110871 / 134217728 * (rO (-13305459 / 8388608) ne E O (j - 1) + rO (-13305459 / 8388608) ne E O (min j (no - 1))) := rfl
  rw [k, p5, q5, g, p4, q4]
  obtain ⟨m1, m2⟩ := hE j hj
  obtain ⟨m3, m4⟩ := hE x1 p1
  obtain ⟨m5, m6⟩ := hE y1 p3
  obtain ⟨m7, m8⟩ := hE x2 q1
  obtain ⟨m9, m10⟩ := hE y2 q3
  obtain ⟨m11, m12⟩ := hO _ a1
  obtain ⟨m13, m14⟩ := hO _ b1
  obtain ⟨m15, m16⟩ := hO t1 p2
  obtain ⟨m17, m18⟩ := hO t2 q2
  exact ⟨by grind_linarith, by grind_linarith⟩
end
/-! ### deviations that are led back -/
section
variable {ne no : Nat} (h0 : 1 ≤ no) (h1 : no ≤ ne) (h2 : ne ≤ no + 1) {D : Nat → Rat} {η : Rat} (hD : ∀ j, j < ne → Bd (D j) η)
include h0 h1 h2 hD
theorem dev_O1 {t : Nat} (ht : t < no) : Bd (rO (-7406395 / 8388608) ne D (fun _ => 0) t) (177 / 100 * η) := by
  have _ := h0
  obtain ⟨a1, a2⟩ := hD t (by omega)
  obtain ⟨b1, b2⟩ := hD (min (t + 1) (ne - 1)) (by omega)
  unfold rO
  exact ⟨by grind_linarith, by grind_linarith⟩
theorem dev_E0 {j : Nat} (hj : j < ne) : Bd (rE (7110871 / 134217728) no D (rO (-7406395 / 8388608) ne D fun _ => 0) j) (101 / 100 * η) := by
  obtain ⟨⟨a1, a2⟩, ⟨b1, b2⟩⟩ := odd_has h0 h1 h2 hj
  obtain ⟨x1, p1, p2⟩ := rO_rep h0 h1 h2 D (fun _ => 0) (-7406395 / 8388608) a1 a2
  obtain ⟨x2, q1, q2⟩ := rO_rep h0 h1 h2 D (fun _ => 0) (-7406395 / 8388608) b1 b2
  have g : rE (7110871 / 134217728) no D (rO (-7406395 / 8388608) ne D fun _ => 0) j = D j + 7110871 / 134217728 * (rO (-7406395 / 8388608) ne D (fun _ => 0) (j - 1) + rO (-7406395 / 8388608) ne D (fun _ => 0) (min j (no - 1))) := rfl
  rw [g, p2, q2]
  obtain ⟨m1, m2⟩ := hD j hj
  obtain ⟨m3, m4⟩ := hD x1 p1
  obtain ⟨m5, m6⟩ := hD x2 q1
  exact ⟨by grind_linarith, by grind_linarith⟩
theorem dev_O0 {t : Nat} (ht : t < no) : Bd (rO (13305459 / 8388608) ne (rE (7110871 / 134217728) no D (rO (-7406395 / 8388608) ne D fun _ => 0)) (rO (-7406395 / 8388608) ne D fun _ => 0) t) (112 / 100 * η) := by
  obtain ⟨⟨a1, a2⟩, ⟨b1, b2⟩⟩ := even_has h0 h1 h2 ht
  obtain ⟨s1, c1, c2, c3⟩ := rE_rep h0 h1 h2 D (rO (-7406395 / 8388608) ne D fun _ => 0) (7110871 / 134217728) a1 a2
  obtain ⟨s2, d1, d2, d3⟩ := rE_rep h0 h1 h2 D (rO (-7406395 / 8388608) ne D fun _ => 0) (7110871 / 134217728) b1 b2
  obtain ⟨x1, e1, e2⟩ := rO_rep h0 h1 h2 D (fun _ => 0) (-7406395 / 8388608) c1 c2
  obtain ⟨x2, f1, f2⟩ := rO_rep h0 h1 h2 D (fun _ => 0) (-7406395 / 8388608) d1 d2
  have g : rO (-7406395 / 8388608) ne D (fun _ => 0) t = 0 + -7406395 / 8388608 * (D t + D (min (t + 1) (ne - 1))) := rfl
  have k : rO (13305459 / 8388608) ne (rE (7110871 / 134217728) no D (rO (-7406395 / 8388608) ne D fun _ => 0)) (rO (-7406395 / 8388608) ne D fun _ => 0) t = rO (-7406395 / 8388608) ne D (fun _ => 0) t + 13305459 / 8388608 * (rE (7110871 / 134217728) no D (rO (-7406395 / 8388608) ne D fun _ => 0) t + rE (7110871 / 134217728) no D (rO (-7406395 / 8388608) ne D fun _ => 0) (min (t + 1) (ne - 1))) := rfl
  rw [k, c3, d3, e2, f2, g]
  obtain ⟨m1, m2⟩ := hD t a1
  obtain ⟨m3, m4⟩ := hD (min (t + 1) (ne - 1)) b1
  obtain ⟨m5, m6⟩ := hD x1 e1
  obtain ⟨m7, m8⟩ := hD x2 f1
  exact ⟨by grind_linarith, by grind_linarith⟩
end


/-! ### one rounded step -/
theorem weigh_nr {x w a b : Nat} {W X A B M ex ea aw p q r : Rat} (hM : 1 / 16 ≤ M) (hM2 : M ≤ 1000000) (hx : Nr x X ex) (hw : FinW .f32 w ∧ fval .f32 w = W) (ha : Nr a A ea) (hb : Nr b B ea) (hW : Bd W aw) (haw : aw ≤ 2)
    (hP : Bd (A + B) p) (hQ : Bd (W * (A + B)) q) (hR : Bd (X + W * (A + B)) r) (e1 : 0 ≤ ea) (e2 : ea ≤ M / 100) (e3 : ex ≤ M / 100) (p1 : p ≤ 20 * M) (q1 : q ≤ 20 * M) (r1 : r ≤ 20 * M) (p0 : 0 ≤ p) (q0 : 0 ≤ q) (r0 : 0 ≤ r) :
    Nr (addF x (mulF w (addF a b))) (X + W * (A + B)) (ex + aw * (2 * ea + (p + M / 10) / 8000000) + (q + M / 10) / 8000000 + (r + M / 10) / 8000000) := by
  obtain ⟨x1, x2, x3⟩ := hx
  obtain ⟨a1, a2, a3⟩ := ha
  obtain ⟨b1, b2, b3⟩ := hb
  obtain ⟨hP1, hP2⟩ := hP
  obtain ⟨hQ1, hQ2⟩ := hQ
  obtain ⟨hR1, hR2⟩ := hR
  unfold addF mulF
  obtain ⟨s1, s2, s3⟩ := add_near (k := .f32) (M := p + M / 10) a1 b1 ⟨by grind_linarith, by grind_linarith⟩ ⟨by grind_linarith, by grind_linarith⟩
  simp only [epsK] at s2 s3
  obtain ⟨d, hd⟩ : ∃ d, d = fval .f32 (fbin .add .f32 a b) - (A + B) := ⟨_, rfl⟩
  have hd1 : Bd d (2 * ea + (p + M / 10) / 8000000) := ⟨by grind_linarith, by grind_linarith⟩
  obtain ⟨c, hc⟩ : ∃ c, c = 2 * ea + (p + M / 10) / 8000000 := ⟨_, rfl⟩
  rw [← hc] at hd1 ⊢
  obtain ⟨m1, m2⟩ := bd_mul hW hd1
  have hc0 : 0 ≤ c := by grind_linarith
  have hcM : c ≤ M / 49 := by grind_linarith
  have hac : aw * c ≤ 2 * c := Rat.mul_le_mul_of_nonneg_right haw hc0
  have e4 : W * fval .f32 (fbin .add .f32 a b) = W * (A + B) + W * d := by rw [hd]; grind_linarith
  obtain ⟨u1, u2, u3⟩ := mul_near (k := .f32) (M := q + M / 10) hw.1 s1 ⟨by grind_linarith, by grind_linarith⟩ (by rw [hw.2, e4]; exact ⟨by grind_linarith, by grind_linarith⟩)
  rw [hw.2, e4] at u2 u3
  simp only [epsK] at u2 u3
  obtain ⟨v1, v2, v3⟩ := add_near (k := .f32) (M := r + M / 10) x1 u1 ⟨by grind_linarith, by grind_linarith⟩ ⟨by grind_linarith, by grind_linarith⟩
  simp only [epsK] at v2 v3
  exact ⟨v1, by grind_linarith, by grind_linarith⟩
/-- A list of words near a list of numbers. -/
def NL (xs : List Nat) (n : Nat) (X : Nat → Rat) (e : Rat) : Prop := xs.length = n ∧ ∀ j, j < n → Nr (xs.getD j 0) (X j) e
theorem weigh_even {k w : Nat} (hk : k % 2 = 0) {ev od : List Nat} {j : Nat} (hj : j < od.length) : (weighF k w (ev, od)).2.getD j 0 = wO ev od w j ∧ (weighF k w (ev, od)).1 = ev := by
  unfold weighF
  rw [if_pos hk]
  exact ⟨getD_range_map hj, rfl⟩
theorem weigh_odd {k w : Nat} (hk : ¬ k % 2 = 0) {ev od : List Nat} {j : Nat} (hj : j < ev.length) : (weighF k w (ev, od)).1.getD j 0 = wE ev od w j ∧ (weighF k w (ev, od)).2 = od := by
  unfold weighF
  rw [if_neg hk]
  exact ⟨getD_range_map hj, rfl⟩
section
variable {ne no k w : Nat} {ev od : List Nat} {E O : Nat → Rat} {W M ee eo aw p q r c : Rat} (h0 : 1 ≤ no) (h1 : no ≤ ne) (h2 : ne ≤ no + 1) (hM : 1 / 16 ≤ M) (hM2 : M ≤ 1000000) (hw : FinW .f32 w ∧ fval .f32 w = W) (hW : Bd W aw) (haw : aw ≤ 2)
  (p1 : p ≤ 20 * M) (q1 : q ≤ 20 * M) (r1 : r ≤ 20 * M) (p0 : 0 ≤ p) (q0 : 0 ≤ q) (r0 : 0 ≤ r) (e0 : 0 ≤ ee) (e1 : ee ≤ M / 100) (e2 : 0 ≤ eo) (e3 : eo ≤ M / 100)
include h0 h1 h2 hM hM2 hw hW haw p1 q1 r1 p0 q0 r0 e0 e1 e2 e3
/-- Odds, weighed. -/
theorem nl_O (hk : k % 2 = 0) (he : NL ev ne E ee) (ho : NL od no O eo) (hp : ∀ t, t < no → Bd (E t + E (min (t + 1) (ne - 1))) p) (hq : ∀ t, t < no → Bd (W * (E t + E (min (t + 1) (ne - 1)))) q) (hr : ∀ t, t < no → Bd (rO W ne E O t) r)
    (hc : eo + aw * (2 * ee + (p + M / 10) / 8000000) + (q + M / 10) / 8000000 + (r + M / 10) / 8000000 ≤ c) : (weighF k w (ev, od)).1 = ev ∧ NL (weighF k w (ev, od)).2 no (rO W ne E O) c := by
  have _ := e2
  obtain ⟨l1, a1⟩ := he
  obtain ⟨l2, a2⟩ := ho
  refine ⟨by unfold weighF; rw [if_pos hk], by rw [weighF_len2]; exact l2, fun t ht => ?_⟩
  rw [(weigh_even hk (by omega)).1]
  unfold wO
  rw [l1]
  exact (weigh_nr hM hM2 (a2 t ht) hw (a1 t (by omega)) (a1 (min (t + 1) (ne - 1)) (by omega)) hW haw (hp t ht) (hq t ht) (hr t ht) e0 e1 e3 p1 q1 r1 p0 q0 r0).mono hc
/-- Evens, weighed. -/
theorem nl_E (hk : ¬ k % 2 = 0) (he : NL ev ne E ee) (ho : NL od no O eo) (hp : ∀ j, j < ne → Bd (O (j - 1) + O (min j (no - 1))) p) (hq : ∀ j, j < ne → Bd (W * (O (j - 1) + O (min j (no - 1)))) q) (hr : ∀ j, j < ne → Bd (rE W no E O j) r)
    (hc : ee + aw * (2 * eo + (p + M / 10) / 8000000) + (q + M / 10) / 8000000 + (r + M / 10) / 8000000 ≤ c) : (weighF k w (ev, od)).2 = od ∧ NL (weighF k w (ev, od)).1 ne (rE W no E O) c := by
  have _ := e0
  obtain ⟨l1, a1⟩ := he
  obtain ⟨l2, a2⟩ := ho
  refine ⟨by unfold weighF; rw [if_neg hk], by rw [weighF_len1]; exact l1, fun j hj => ?_⟩
  rw [(weigh_odd hk (by omega)).1]
  unfold wE
  rw [l2]
  exact (weigh_nr hM hM2 (a1 j hj) hw (a2 (j - 1) (by omega)) (a2 (min j (no - 1)) (by omega)) hW haw (hp j hj) (hq j hj) (hr j hj) e2 e3 e1 p1 q1 r1 p0 q0 r0).mono hc
end

def kW : Nat := 1066608189
theorem map_atN {f : Nat → Nat} {xs : List Nat} {j : Nat} (h : j < xs.length) : (xs.map f).getD j 0 = f (xs.getD j 0) := by simp [List.getD_eq_getElem?_getD, h]
theorem bdm {x A B : Rat} (h : Bd x A) (hab : A ≤ B) : Bd x B := ⟨by have := h.1; grind_linarith, by have := h.2; grind_linarith⟩
theorem nl_mulK {xs : List Nat} {n : Nat} {X : Nat → Rat} {M e b c : Rat} (hM : 1 / 16 ≤ M) (hM2 : M ≤ 1000000) (h : NL xs n X e) (e0 : 0 ≤ e) (e1 : e ≤ M / 100) (hb : ∀ j, j < n → Bd (X j * (9643581 / 8388608)) b) (b0 : 0 ≤ b) (b1 : b ≤ 10 * M) (hc : e * (115 / 100) + (b + M / 10) / 8000000 ≤ c) :
    NL (xs.map fun x => fbin .mul .f32 x 1066608189) n (fun j => X j * (9643581 / 8388608)) c := by
  obtain ⟨l, a⟩ := h
  refine ⟨by rw [List.length_map]; exact l, fun j hj => ?_⟩
  rw [map_atN (by omega)]
  obtain ⟨a1, a2, a3⟩ := a j hj
  obtain ⟨b2, b3⟩ := hb j hj
  obtain ⟨u1, u2, u3⟩ := mul_near (k := .f32) (M := b + M / 10) a1 k_v.1 ⟨by grind_linarith, by grind_linarith⟩ (by rw [k_v.2]; exact ⟨by grind_linarith, by grind_linarith⟩)
  rw [k_v.2] at u2 u3
  simp only [epsK] at u2 u3
  exact ⟨u1, by grind_linarith, by grind_linarith⟩
theorem nl_quoK {xs : List Nat} {n : Nat} {X : Nat → Rat} {M e b c : Rat} (hM : 1 / 16 ≤ M) (hM2 : M ≤ 1000000) (h : NL xs n X e) (e0 : 0 ≤ e) (e1 : e ≤ M / 100) (hb : ∀ j, j < n → Bd (X j * (8388608 / 9643581)) b) (b0 : 0 ≤ b) (b1 : b ≤ 10 * M) (hc : e * (87 / 100) + (b + M / 10) / 8000000 ≤ c) :
    NL (xs.map fun x => fbin .quo .f32 x 1066608189) n (fun j => X j * (8388608 / 9643581)) c := by
  obtain ⟨l, a⟩ := h
  refine ⟨by rw [List.length_map]; exact l, fun j hj => ?_⟩
  rw [map_atN (by omega)]
  obtain ⟨a1, a2, a3⟩ := a j hj
  obtain ⟨b2, b3⟩ := hb j hj
  obtain ⟨u1, u2, u3⟩ := quo_near (k := .f32) (q := fval .f32 (xs.getD j 0) * (8388608 / 9643581)) (M := b + M / 10) a1 k_v.1 (by rw [k_v.2]; decide +kernel) (by rw [k_v.2]; grind_linarith) ⟨by grind_linarith, by grind_linarith⟩ ⟨by grind_linarith, by grind_linarith⟩
  simp only [epsK] at u2 u3
  exact ⟨u1, by grind_linarith, by grind_linarith⟩
section
variable {xs : List Nat} {M : Rat}
/-- What nine numbers lift a list to. -/
theorem nine_lift (hM : 1 / 16 ≤ M) (hM2 : M ≤ 1000000) (hx : ∀ i, i < xs.length → FinW .f32 (xs.getD i 0) ∧ Bd (vF xs i) M) (h2 : 2 ≤ xs.length) :
    ∃ E0 O0 : Nat → Rat, (∀ j, j < (xs.length + 1) / 2 → E0 j = vF xs (2 * j)) ∧ (∀ t, t < xs.length / 2 → O0 t = vF xs (2 * t + 1)) ∧
      (∀ j, j < (xs.length + 1) / 2 → Bd (E0 j) M) ∧ (∀ t, t < xs.length / 2 → Bd (O0 t) M) ∧
      NL (liftF nineW kW xs).1 ((xs.length + 1) / 2) (fun j => rE (14881621 / 33554432) (xs.length / 2) (rE (-7110871 / 134217728) (xs.length / 2) E0 (rO (-13305459 / 8388608) ((xs.length + 1) / 2) E0 O0)) (rO (7406395 / 8388608) ((xs.length + 1) / 2) (rE (-7110871 / 134217728) (xs.length / 2) E0 (rO (-13305459 / 8388608) ((xs.length + 1) / 2) E0 O0)) (rO (-13305459 / 8388608) ((xs.length + 1) / 2) E0 O0)) j * (9643581 / 8388608)) (49 / 10000000 * M) ∧
      NL (liftF nineW kW xs).2 (xs.length / 2) (fun t => rO (7406395 / 8388608) ((xs.length + 1) / 2) (rE (-7110871 / 134217728) (xs.length / 2) E0 (rO (-13305459 / 8388608) ((xs.length + 1) / 2) E0 O0)) (rO (-13305459 / 8388608) ((xs.length + 1) / 2) E0 O0) t * (8388608 / 9643581)) (30 / 10000000 * M) := by
  obtain ⟨ne, hne⟩ : ∃ ne, ne = (xs.length + 1) / 2 := ⟨_, rfl⟩
  obtain ⟨no, hno⟩ : ∃ no, no = xs.length / 2 := ⟨_, rfl⟩
  have h0 : 1 ≤ no := by omega
  have h1 : no ≤ ne := by omega
  have h3 : ne ≤ no + 1 := by omega
  have lev : (evL 0 xs xs.length).length = ne := by rw [evL_length, hne]
  have lod : (odL 0 xs xs.length).length = no := by rw [odL_length, hno]
  obtain ⟨E0, hE0⟩ : ∃ E0, E0 = vF (evL 0 xs xs.length) := ⟨_, rfl⟩
  obtain ⟨O0, hO0⟩ : ∃ O0, O0 = vF (odL 0 xs xs.length) := ⟨_, rfl⟩
  have vE : ∀ j, j < ne → (evL 0 xs xs.length).getD j 0 = xs.getD (2 * j) 0 := fun j hj => evL_at (by omega)
  have vO : ∀ t, t < no → (odL 0 xs xs.length).getD t 0 = xs.getD (2 * t + 1) 0 := fun t ht => odL_at (by omega)
  have bE : ∀ j, j < ne → Bd (E0 j) M := fun j hj => by rw [hE0]; unfold vF; rw [vE j hj]; exact (hx _ (by omega)).2
  have bO : ∀ t, t < no → Bd (O0 t) M := fun t ht => by rw [hO0]; unfold vF; rw [vO t ht]; exact (hx _ (by omega)).2
  have nE : NL (evL 0 xs xs.length) ne E0 0 := ⟨lev, fun j hj => by rw [hE0]; exact ⟨by rw [vE j hj]; exact (hx _ (by omega)).1, by unfold vF; grind_linarith, by unfold vF; grind_linarith⟩⟩
  have nO : NL (odL 0 xs xs.length) no O0 0 := ⟨lod, fun t ht => by rw [hO0]; exact ⟨by rw [vO t ht]; exact (hx _ (by omega)).1, by unfold vF; grind_linarith, by unfold vF; grind_linarith⟩⟩
  refine ⟨E0, O0, fun j hj => by rw [hE0]; unfold vF; rw [vE j (by omega)], fun t ht => by rw [hO0]; unfold vF; rw [vO t (by omega)], by rw [← hne]; exact bE, by rw [← hno]; exact bO, ?_⟩
  rw [← hne, ← hno]
  have B1 := fun t (ht : t < no) => nine_O1 h0 h1 h3 bE bO ht
  have B2 := fun j (hj : j < ne) => nine_E1 h0 h1 h3 bE bO hj
  have B3 := fun t (ht : t < no) => nine_O2 h0 h1 h3 bE bO ht
  have B4 := fun j (hj : j < ne) => nine_E2 h0 h1 h3 bE bO hj
  obtain ⟨s1, n1⟩ := nl_O (k := 0) (p := 2 * M) (q := 32 / 10 * M) (r := 418 / 100 * M) (aw := 15862 / 10000) (c := 137 / 100000000 * M) h0 h1 h3 hM hM2 w0_v ⟨by grind_linarith, by grind_linarith⟩ (by grind_linarith) (by grind_linarith) (by grind_linarith) (by grind_linarith) (by grind_linarith) (by grind_linarith) (by grind_linarith) (by grind_linarith) (by grind_linarith) (by grind_linarith) (by grind_linarith) rfl nE nO
    (fun t ht => by obtain ⟨a1, a2⟩ := bE t (by omega); obtain ⟨b1, b2⟩ := bE (min (t + 1) (ne - 1)) (by omega); exact ⟨by grind_linarith, by grind_linarith⟩) (fun t ht => by obtain ⟨a1, a2⟩ := bE t (by omega); obtain ⟨b1, b2⟩ := bE (min (t + 1) (ne - 1)) (by omega); exact ⟨by grind_linarith, by grind_linarith⟩) B1 (by grind_linarith)
  generalize hO1 : rO (-13305459 / 8388608) ne E0 O0 = O1 at *
  obtain ⟨s2, n2⟩ := nl_E (k := 1) (p := 836 / 100 * M) (q := 45 / 100 * M) (r := 145 / 100 * M) (aw := 53 / 1000) (c := 47 / 100000000 * M) h0 h1 h3 hM hM2 w1_v ⟨by grind_linarith, by grind_linarith⟩ (by grind_linarith) (by grind_linarith) (by grind_linarith) (by grind_linarith) (by grind_linarith) (by grind_linarith) (by grind_linarith) (by grind_linarith) (by grind_linarith) (by grind_linarith) (by grind_linarith) (by decide) nE n1
    (fun j hj => by obtain ⟨a1, a2⟩ := B1 (j - 1) (by omega); obtain ⟨b1, b2⟩ := B1 (min j (no - 1)) (by omega); exact ⟨by grind_linarith, by grind_linarith⟩) (fun j hj => by obtain ⟨a1, a2⟩ := B1 (j - 1) (by omega); obtain ⟨b1, b2⟩ := B1 (min j (no - 1)) (by omega); exact ⟨by grind_linarith, by grind_linarith⟩) B2 (by grind_linarith)
  generalize hE1 : rE (-7110871 / 134217728) no E0 O1 = E1 at *
  obtain ⟨s3, n3⟩ := nl_O (k := 2) (p := 29 / 10 * M) (q := 257 / 100 * M) (r := 213 / 100 * M) (aw := 883 / 1000) (c := 316 / 100000000 * M) h0 h1 h3 hM hM2 w2_v ⟨by grind_linarith, by grind_linarith⟩ (by grind_linarith) (by grind_linarith) (by grind_linarith) (by grind_linarith) (by grind_linarith) (by grind_linarith) (by grind_linarith) (by grind_linarith) (by grind_linarith) (by grind_linarith) (by grind_linarith) rfl n2 n1
    (fun t ht => by obtain ⟨a1, a2⟩ := B2 t (by omega); obtain ⟨b1, b2⟩ := B2 (min (t + 1) (ne - 1)) (by omega); exact ⟨by grind_linarith, by grind_linarith⟩) (fun t ht => by obtain ⟨a1, a2⟩ := B2 t (by omega); obtain ⟨b1, b2⟩ := B2 (min (t + 1) (ne - 1)) (by omega); exact ⟨by grind_linarith, by grind_linarith⟩) B3 (by grind_linarith)
  generalize hO2 : rO (7406395 / 8388608) ne E1 O1 = O2 at *
  obtain ⟨s4, n4⟩ := nl_E (k := 3) (p := 426 / 100 * M) (q := 19 / 10 * M) (r := 171 / 100 * M) (aw := 4436 / 10000) (c := 40 / 10000000 * M) h0 h1 h3 hM hM2 w3_v ⟨by grind_linarith, by grind_linarith⟩ (by grind_linarith) (by grind_linarith) (by grind_linarith) (by grind_linarith) (by grind_linarith) (by grind_linarith) (by grind_linarith) (by grind_linarith) (by grind_linarith) (by grind_linarith) (by grind_linarith) (by decide) n2 n3
    (fun j hj => by obtain ⟨a1, a2⟩ := B3 (j - 1) (by omega); obtain ⟨b1, b2⟩ := B3 (min j (no - 1)) (by omega); exact ⟨by grind_linarith, by grind_linarith⟩) (fun j hj => by obtain ⟨a1, a2⟩ := B3 (j - 1) (by omega); obtain ⟨b1, b2⟩ := B3 (min j (no - 1)) (by omega); exact ⟨by grind_linarith, by grind_linarith⟩) B4 (by grind_linarith)
  have hup : weighUp nineW (evL 0 xs xs.length, odL 0 xs xs.length) nineW.length = ((weighF 3 1055069013 ((weighF 1 3176726958 (evL 0 xs xs.length, (weighF 0 3217753715 (evL 0 xs xs.length, odL 0 xs xs.length)).2)).1, (weighF 2 1063388790 ((weighF 1 3176726958 (evL 0 xs xs.length, (weighF 0 3217753715 (evL 0 xs xs.length, odL 0 xs xs.length)).2)).1, (weighF 0 3217753715 (evL 0 xs xs.length, odL 0 xs xs.length)).2)).2)).1, (weighF 2 1063388790 ((weighF 1 3176726958 (evL 0 xs xs.length, (weighF 0 3217753715 (evL 0 xs xs.length, odL 0 xs xs.length)).2)).1, (weighF 0 3217753715 (evL 0 xs xs.length, odL 0 xs xs.length)).2)).2) := rfl
  have e : liftF nineW kW xs = (((weighF 3 1055069013 ((weighF 1 3176726958 (evL 0 xs xs.length, (weighF 0 3217753715 (evL 0 xs xs.length, odL 0 xs xs.length)).2)).1, (weighF 2 1063388790 ((weighF 1 3176726958 (evL 0 xs xs.length, (weighF 0 3217753715 (evL 0 xs xs.length, odL 0 xs xs.length)).2)).1, (weighF 0 3217753715 (evL 0 xs xs.length, odL 0 xs xs.length)).2)).2)).1).map (fun x => fbin .mul .f32 x 1066608189), ((weighF 2 1063388790 ((weighF 1 3176726958 (evL 0 xs xs.length, (weighF 0 3217753715 (evL 0 xs xs.length, odL 0 xs xs.length)).2)).1, (weighF 0 3217753715 (evL 0 xs xs.length, odL 0 xs xs.length)).2)).2).map fun x => fbin .quo .f32 x 1066608189) := by
    unfold liftF
    rw [if_neg (by omega)]
    simp only [hup]
    rfl
  rw [e]
  exact ⟨nl_mulK hM hM2 n4 (b := 198 / 100 * M) (by grind_linarith) (by grind_linarith) (fun j hj => by obtain ⟨a1, a2⟩ := B4 j hj; exact ⟨by grind_linarith, by grind_linarith⟩) (by grind_linarith) (by grind_linarith) (by grind_linarith),
    nl_quoK hM hM2 n3 (b := 186 / 100 * M) (by grind_linarith) (by grind_linarith) (fun t ht => by obtain ⟨a1, a2⟩ := B3 t ht; exact ⟨by grind_linarith, by grind_linarith⟩) (by grind_linarith) (by grind_linarith) (by grind_linarith)⟩
end

section
variable {ne no : Nat} {E O D : Nat → Rat}
theorem rE_back (w v : Rat) (hv : v = -w) (j : Nat) : rE v no (fun j => rE w no E O j + D j) O j = E j + D j := by
  unfold rE
  rw [hv]
  grind_linarith
theorem rO_back (w v : Rat) (hv : v = -w) (j : Nat) : rO v ne (fun j => E j + D j) (rO w ne E O) j = O j + rO v ne D (fun _ => 0) j := by
  unfold rO
  rw [hv]
  grind_linarith
theorem rE_back2 (w v : Rat) (hv : v = -w) {F : Nat → Rat} (j : Nat) : rE v no (fun j => rE w no E O j + D j) (fun t => O t + F t) j = E j + rE v no D F j := by
  unfold rE
  rw [hv]
  grind_linarith
theorem rO_back2 (w v : Rat) (hv : v = -w) {F : Nat → Rat} (t : Nat) : rO v ne (fun j => E j + F j) (fun t => rO w ne E O t + D t) t = O t + rO v ne F D t := by
  unfold rO
  rw [hv]
  grind_linarith
end
theorem nl_congr {xs : List Nat} {n : Nat} {X Y : Nat → Rat} {e : Rat} (h : NL xs n X e) (he : ∀ j, j < n → X j = Y j) : NL xs n Y e := ⟨h.1, fun j hj => by rw [← he j hj]; exact h.2 j hj⟩
section
variable {xs lo : List Nat} {M η : Rat}
/-- What nine numbers lead back to. -/
theorem nine_drop (hM : 1 / 16 ≤ M) (hM2 : M ≤ 1000000) (hx : ∀ i, i < xs.length → FinW .f32 (xs.getD i 0) ∧ Bd (vF xs i) M) (h2 : 2 ≤ xs.length) (hl : lo.length = (xs.length + 1) / 2) (hη : 0 ≤ η) (hη2 : η ≤ M / 100)
    (hv : ∀ j, j < lo.length → FinW .f32 (lo.getD j 0) ∧ Bd (vF lo j - vF (liftF nineW kW xs).1 j) η) :
    (dropF nineW kW lo (liftF nineW kW xs).2).length = xs.length ∧ ∀ i, i < xs.length → FinW .f32 ((dropF nineW kW lo (liftF nineW kW xs).2).getD i 0) ∧ Bd (vF (dropF nineW kW lo (liftF nineW kW xs).2) i - vF xs i) (η + 40 / 1000000 * M) := by
  obtain ⟨E0, O0, hE0, hO0, bE, bO, nlo, nhi⟩ := nine_lift hM hM2 hx h2
  obtain ⟨ne, hne⟩ : ∃ ne, ne = (xs.length + 1) / 2 := ⟨_, rfl⟩
  obtain ⟨no, hno⟩ : ∃ no, no = xs.length / 2 := ⟨_, rfl⟩
  have h0 : 1 ≤ no := by omega
  have h1 : no ≤ ne := by omega
  have h3 : ne ≤ no + 1 := by omega
  rw [← hne] at hE0 bE nlo nhi hl
  rw [← hno] at hO0 bO nlo nhi
  have B1 := fun t (ht : t < no) => nine_O1 h0 h1 h3 bE bO ht
  have B2 := fun j (hj : j < ne) => nine_E1 h0 h1 h3 bE bO hj
  have B3 := fun t (ht : t < no) => nine_O2 h0 h1 h3 bE bO ht
  have B4 := fun j (hj : j < ne) => nine_E2 h0 h1 h3 bE bO hj
  have R1 : ∀ (D : Nat → Rat) (t : Nat), rO (13305459 / 8388608) ne (fun j => E0 j + rE (7110871 / 134217728) no D (rO (-7406395 / 8388608) ne D fun _ => 0) j) (fun t => rO (-13305459 / 8388608) ne E0 O0 t + rO (-7406395 / 8388608) ne D (fun _ => 0) t) t = O0 t + rO (13305459 / 8388608) ne (rE (7110871 / 134217728) no D (rO (-7406395 / 8388608) ne D fun _ => 0)) (rO (-7406395 / 8388608) ne D fun _ => 0) t := fun D t => rO_back2 _ _ (by grind_linarith) t
  have R2 : ∀ (D : Nat → Rat) (j : Nat), rE (7110871 / 134217728) no (fun j => rE (-7110871 / 134217728) no E0 (rO (-13305459 / 8388608) ne E0 O0) j + D j) (fun t => rO (-13305459 / 8388608) ne E0 O0 t + rO (-7406395 / 8388608) ne D (fun _ => 0) t) j = E0 j + rE (7110871 / 134217728) no D (rO (-7406395 / 8388608) ne D fun _ => 0) j := fun D j => rE_back2 _ _ (by grind_linarith) j
  generalize hO1 : rO (-13305459 / 8388608) ne E0 O0 = O1 at *
  generalize hE1 : rE (-7110871 / 134217728) no E0 O1 = E1 at *
  have R3 : ∀ (D : Nat → Rat) (t : Nat), rO (-7406395 / 8388608) ne (fun j => E1 j + D j) (rO (7406395 / 8388608) ne E1 O1) t = O1 t + rO (-7406395 / 8388608) ne D (fun _ => 0) t := fun D t => rO_back _ _ (by grind_linarith) t
  generalize hO2 : rO (7406395 / 8388608) ne E1 O1 = O2 at *
  have R4 : ∀ (D : Nat → Rat) (j : Nat), rE (-14881621 / 33554432) no (fun j => rE (14881621 / 33554432) no E1 O2 j + D j) O2 j = E1 j + D j := fun D j => rE_back _ _ (by grind_linarith) j
  generalize hE2 : rE (14881621 / 33554432) no E1 O2 = E2 at *
  generalize (liftF nineW kW xs).1 = low at *
  generalize (liftF nineW kW xs).2 = hi at *
  obtain ⟨D, hD⟩ : ∃ D : Nat → Rat, D = fun j => vF lo j * (8388608 / 9643581) - E2 j := ⟨_, rfl⟩
  have bD : ∀ j, j < ne → Bd (D j) ((η + 49 / 10000000 * M) * (87 / 100)) := fun j hj => by
    obtain ⟨a1, a2⟩ := (hv j (by omega)).2
    obtain ⟨b1, b2, b3⟩ := nlo.2 j hj
    rw [hD]
    unfold vF at *
    simp only
    exact ⟨by grind_linarith, by grind_linarith⟩
  have bD2 : ∀ j, j < ne → Bd (D j) (M / 100) := fun j hj => bdm (bD j hj) (by grind_linarith)
  -- scaled
  have na : NL (lo.map fun x => fbin .quo .f32 x 1066608189) ne (fun j => E2 j + D j) (24 / 100000000 * M) := by
    refine nl_congr (nl_quoK (X := vF lo) (e := 0) (b := 173 / 100 * M) hM hM2 ⟨hl, fun j hj => ⟨(hv j (by omega)).1, by unfold vF; grind_linarith, by unfold vF; grind_linarith⟩⟩ (by grind_linarith) (by grind_linarith) (fun j hj => ?_) (by grind_linarith) (by grind_linarith) (by grind_linarith)) fun j hj => by rw [hD]; grind_linarith
    obtain ⟨a1, a2⟩ := bD2 j hj
    obtain ⟨b1, b2⟩ := B4 j hj
    rw [hD] at a1 a2
    simp only at a1 a2
    exact ⟨by grind_linarith, by grind_linarith⟩
  have nb : NL (hi.map fun x => fbin .mul .f32 x 1066608189) no O2 (38 / 10000000 * M) := by
    refine nl_congr (nl_mulK (X := fun t => O2 t * (8388608 / 9643581)) (b := 214 / 100 * M) hM hM2 nhi (by grind_linarith) (by grind_linarith) (fun j hj => ?_) (by grind_linarith) (by grind_linarith) (by grind_linarith)) fun j hj => by
      show O2 j * (8388608 / 9643581) * (9643581 / 8388608) = O2 j
      rw [Rat.mul_assoc, show (8388608 / 9643581 : Rat) * (9643581 / 8388608) = 1 by decide +kernel, Rat.mul_one]
    obtain ⟨b1, b2⟩ := B3 j hj
    exact ⟨by grind_linarith, by grind_linarith⟩
  have lhi := nhi.1
  obtain ⟨a, ha⟩ : ∃ a, a = lo.map fun x => fbin .quo .f32 x 1066608189 := ⟨_, rfl⟩
  obtain ⟨b, hb⟩ : ∃ b, b = hi.map fun x => fbin .mul .f32 x 1066608189 := ⟨_, rfl⟩
  rw [← ha] at na
  rw [← hb] at nb
  obtain ⟨s1, n1⟩ := nl_E (k := 3) (w := fneg .f32 1055069013) (p := 426 / 100 * M) (q := 19 / 10 * M) (r := 155 / 100 * M) (aw := 4436 / 10000) (c := 44 / 10000000 * M) h0 h1 h3 hM hM2 n3_v ⟨by grind_linarith, by grind_linarith⟩ (by grind_linarith) (by grind_linarith) (by grind_linarith) (by grind_linarith) (by grind_linarith) (by grind_linarith) (by grind_linarith) (by grind_linarith) (by grind_linarith) (by grind_linarith) (by grind_linarith) (by decide) na nb
    (fun j hj => by obtain ⟨a1, a2⟩ := B3 (j - 1) (by omega); obtain ⟨b1, b2⟩ := B3 (min j (no - 1)) (by omega); exact ⟨by grind_linarith, by grind_linarith⟩) (fun j hj => by obtain ⟨a1, a2⟩ := B3 (j - 1) (by omega); obtain ⟨b1, b2⟩ := B3 (min j (no - 1)) (by omega); exact ⟨by grind_linarith, by grind_linarith⟩) (fun j hj => by
      have key : Bd (E1 j + D j) (155 / 100 * M) := by obtain ⟨a1, a2⟩ := B2 j hj; obtain ⟨b1, b2⟩ := bD2 j hj; exact ⟨by grind_linarith, by grind_linarith⟩
      rw [← R4 D j] at key
      exact key) (by grind_linarith)
  have n1' := nl_congr n1 (Y := fun j => E1 j + D j) fun j _ => by
    exact R4 D j
  obtain ⟨F, hF⟩ : ∃ F : Nat → Rat, F = rO (-7406395 / 8388608) ne D fun _ => 0 := ⟨_, rfl⟩
  have bF : ∀ t, t < no → Bd (F t) (2 / 100 * M) := fun t ht => by rw [hF]; exact bdm (dev_O1 h0 h1 h3 bD2 ht) (by grind_linarith)
  obtain ⟨s2, n2⟩ := nl_O (k := 2) (w := fneg .f32 1063388790) (p := 31 / 10 * M) (q := 275 / 100 * M) (r := 425 / 100 * M) (aw := 883 / 1000) (c := 129 / 10000000 * M) h0 h1 h3 hM hM2 n2_v ⟨by grind_linarith, by grind_linarith⟩ (by grind_linarith) (by grind_linarith) (by grind_linarith) (by grind_linarith) (by grind_linarith) (by grind_linarith) (by grind_linarith) (by grind_linarith) (by grind_linarith) (by grind_linarith) (by grind_linarith) (by decide) n1' nb
    (fun t ht => by obtain ⟨a1, a2⟩ := B2 t (by omega); obtain ⟨b1, b2⟩ := B2 (min (t + 1) (ne - 1)) (by omega); obtain ⟨c1, c2⟩ := bD2 t (by omega); obtain ⟨d1, d2⟩ := bD2 (min (t + 1) (ne - 1)) (by omega); exact ⟨by grind_linarith, by grind_linarith⟩)
    (fun t ht => by obtain ⟨a1, a2⟩ := B2 t (by omega); obtain ⟨b1, b2⟩ := B2 (min (t + 1) (ne - 1)) (by omega); obtain ⟨c1, c2⟩ := bD2 t (by omega); obtain ⟨d1, d2⟩ := bD2 (min (t + 1) (ne - 1)) (by omega); exact ⟨by grind_linarith, by grind_linarith⟩) (fun t ht => by
      rw [R3 D t, ← hF]
      obtain ⟨a1, a2⟩ := B1 t ht; obtain ⟨b1, b2⟩ := bF t ht; exact ⟨by grind_linarith, by grind_linarith⟩) (by grind_linarith)
  have n2' := nl_congr n2 (Y := fun t => O1 t + F t) fun t _ => by rw [R3 D t, ← hF]
  obtain ⟨P, hP⟩ : ∃ P : Nat → Rat, P = rE (7110871 / 134217728) no D F := ⟨_, rfl⟩
  have bP0 : ∀ j, j < ne → Bd (P j) (101 / 100 * ((η + 49 / 10000000 * M) * (87 / 100))) := fun j hj => by rw [hP, hF]; exact dev_E0 h0 h1 h3 bD hj
  have bP : ∀ j, j < ne → Bd (P j) (2 / 100 * M) := fun j hj => bdm (bP0 j hj) (by grind_linarith)
  obtain ⟨s3, n3⟩ := nl_E (k := 1) (w := fneg .f32 3176726958) (p := 841 / 100 * M) (q := 45 / 100 * M) (r := 103 / 100 * M) (aw := 53 / 1000) (c := 61 / 10000000 * M) h0 h1 h3 hM hM2 n1_v ⟨by grind_linarith, by grind_linarith⟩ (by grind_linarith) (by grind_linarith) (by grind_linarith) (by grind_linarith) (by grind_linarith) (by grind_linarith) (by grind_linarith) (by grind_linarith) (by grind_linarith) (by grind_linarith) (by grind_linarith) (by decide) n1' n2'
    (fun j hj => by obtain ⟨a1, a2⟩ := B1 (j - 1) (by omega); obtain ⟨b1, b2⟩ := B1 (min j (no - 1)) (by omega); obtain ⟨c1, c2⟩ := bF (j - 1) (by omega); obtain ⟨d1, d2⟩ := bF (min j (no - 1)) (by omega); exact ⟨by grind_linarith, by grind_linarith⟩)
    (fun j hj => by obtain ⟨a1, a2⟩ := B1 (j - 1) (by omega); obtain ⟨b1, b2⟩ := B1 (min j (no - 1)) (by omega); obtain ⟨c1, c2⟩ := bF (j - 1) (by omega); obtain ⟨d1, d2⟩ := bF (min j (no - 1)) (by omega); exact ⟨by grind_linarith, by grind_linarith⟩) (fun j hj => by
      have key : Bd (E0 j + P j) (103 / 100 * M) := by obtain ⟨a1, a2⟩ := bE j hj; obtain ⟨b1, b2⟩ := bP j hj; exact ⟨by grind_linarith, by grind_linarith⟩
      have r2 := R2 D j
      rw [← hF, ← hP] at r2
      rw [← r2] at key
      exact key) (by grind_linarith)
  have n3' := nl_congr n3 (Y := fun j => E0 j + P j) fun j _ => by
    have r2 := R2 D j
    rw [← hF, ← hP] at r2
    exact r2
  have bQ : ∀ t, t < no → Bd (rO (13305459 / 8388608) ne P F t) (112 / 100 * ((η + 49 / 10000000 * M) * (87 / 100))) := fun t ht => by rw [hP, hF]; exact dev_O0 h0 h1 h3 bD ht
  have r1 : ∀ t, rO (13305459 / 8388608) ne (fun j => E0 j + P j) (fun t => O1 t + F t) t = O0 t + rO (13305459 / 8388608) ne P F t := fun t => by
    have := R1 D t
    rw [← hF, ← hP] at this
    exact this
  obtain ⟨s4, n4⟩ := nl_O (k := 0) (w := fneg .f32 3217753715) (p := 205 / 100 * M) (q := 33 / 10 * M) (r := 103 / 100 * M) (aw := 15862 / 10000) (c := 334 / 10000000 * M) h0 h1 h3 hM hM2 n0_v ⟨by grind_linarith, by grind_linarith⟩ (by grind_linarith) (by grind_linarith) (by grind_linarith) (by grind_linarith) (by grind_linarith) (by grind_linarith) (by grind_linarith) (by grind_linarith) (by grind_linarith) (by grind_linarith) (by grind_linarith) rfl n3' n2'
    (fun t ht => by obtain ⟨a1, a2⟩ := bE t (by omega); obtain ⟨b1, b2⟩ := bE (min (t + 1) (ne - 1)) (by omega); obtain ⟨c1, c2⟩ := bP t (by omega); obtain ⟨d1, d2⟩ := bP (min (t + 1) (ne - 1)) (by omega); exact ⟨by grind_linarith, by grind_linarith⟩)
    (fun t ht => by obtain ⟨a1, a2⟩ := bE t (by omega); obtain ⟨b1, b2⟩ := bE (min (t + 1) (ne - 1)) (by omega); obtain ⟨c1, c2⟩ := bP t (by omega); obtain ⟨d1, d2⟩ := bP (min (t + 1) (ne - 1)) (by omega); exact ⟨by grind_linarith, by grind_linarith⟩) (fun t ht => by
      rw [r1 t]
      obtain ⟨a1, a2⟩ := bO t ht; obtain ⟨b1, b2⟩ := bQ t ht; exact ⟨by grind_linarith, by grind_linarith⟩) (by grind_linarith)
  obtain ⟨e1, he1⟩ : ∃ e1, e1 = (weighF 3 (fneg .f32 1055069013) (a, b)).1 := ⟨_, rfl⟩
  rw [← he1] at n1 n1' n2 n2' n3 n3' n4
  obtain ⟨o1, ho1⟩ : ∃ o1, o1 = (weighF 2 (fneg .f32 1063388790) (e1, b)).2 := ⟨_, rfl⟩
  rw [← ho1] at n2 n2' n3 n3' n4
  obtain ⟨e2, he2⟩ : ∃ e2, e2 = (weighF 1 (fneg .f32 3176726958) (e1, o1)).1 := ⟨_, rfl⟩
  rw [← he2] at n3 n3' n4
  obtain ⟨o2, ho2⟩ : ∃ o2, o2 = (weighF 0 (fneg .f32 3217753715) (e2, o1)).2 := ⟨_, rfl⟩
  rw [← ho2] at n4
  have w1 : weighF 3 (fneg .f32 1055069013) (a, b) = (e1, b) := by rw [he1]; rfl
  have w2 : weighF 2 (fneg .f32 1063388790) (e1, b) = (e1, o1) := by rw [ho1]; rfl
  have w3 : weighF 1 (fneg .f32 3176726958) (e1, o1) = (e2, o1) := by rw [he2]; rfl
  have w4 : weighF 0 (fneg .f32 3217753715) (e2, o1) = (e2, o2) := by rw [ho2]; rfl
  have w5 : weighDown nineW (a, b) nineW.length = (e2, o2) := by
    show weighF 0 (fneg .f32 3217753715) (weighF 1 (fneg .f32 3176726958) (weighF 2 (fneg .f32 1063388790) (weighF 3 (fneg .f32 1055069013) (a, b)))) = _
    rw [w1, w2, w3, w4]
  have e : dropF nineW kW lo hi = wovL 0 e2 o2 e2.length := by
    unfold dropF
    rw [if_neg (by omega)]
    show (let p := weighDown nineW (lo.map fun x => fbin .quo .f32 x 1066608189, hi.map fun x => fbin .mul .f32 x 1066608189) nineW.length; wovL 0 p.1 p.2 p.1.length) = _
    rw [← ha, ← hb]
    simp only [w5]
  have le2 := n3'.1
  have lo2 := n4.1
  rw [e]
  have hlen : (wovL 0 e2 o2 e2.length).length = xs.length := by rw [wovL_lens]; omega
  refine ⟨hlen, fun i hi' => ?_⟩
  have hat := wovL_at (d := 0) (ev := e2) (od := o2) e2.length (by omega) i (by omega)
  unfold vF
  rw [hat]
  by_cases c : i % 2 = 0
  · rw [if_pos c]
    obtain ⟨f1, f2, f3⟩ := n3'.2 (i / 2) (by omega)
    obtain ⟨g1, g2⟩ := bP0 (i / 2) (by omega)
    have hx0 := hE0 (i / 2) (by omega)
    rw [show 2 * (i / 2) = i by omega] at hx0
    unfold vF at hx0
    refine ⟨f1, ?_⟩
    rw [← hx0]
    exact ⟨by grind_linarith, by grind_linarith⟩
  · rw [if_neg c]
    obtain ⟨f1, f2, f3⟩ := n4.2 (i / 2) (by omega)
    rw [r1] at f2 f3
    obtain ⟨g1, g2⟩ := bQ (i / 2) (by omega)
    have hx0 := hO0 (i / 2) (by omega)
    rw [show 2 * (i / 2) + 1 = i by omega] at hx0
    unfold vF at hx0
    refine ⟨f1, ?_⟩
    rw [← hx0]
    exact ⟨by grind_linarith, by grind_linarith⟩
end
end Go.Gx
