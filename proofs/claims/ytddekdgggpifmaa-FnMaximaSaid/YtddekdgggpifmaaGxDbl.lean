/-
  Rounding and doubling: what is twice as great rounds to twice as much.
-/
import Derived.Test.YtddekdgggpifmaaGxGrid
namespace Go.Gx
set_option linter.unusedSimpArgs false
set_option linter.unusedVariables false
open Ieee

theorem cut_two (neg : Bool) {n : Nat} (hn : n ≠ 0) (d : Nat) : Toward.even.cut neg (2 * n) (d + 1) = Toward.even.cut neg n d := by
  have hl : (2 * n).log2 = n.log2 + 1 := Nat.log2_two_mul hn
  have hg : 1 <<< min (d + 1) ((2 * n).log2 + 2) = 2 * (1 <<< min d (n.log2 + 2)) := by
    rw [hl, show min (d + 1) (n.log2 + 1 + 2) = min d (n.log2 + 2) + 1 by omega, Nat.shiftLeft_eq, Nat.shiftLeft_eq, Nat.pow_succ]
    omega
  simp only [Toward.cut, hg]
  generalize 1 <<< min d (n.log2 + 2) = g
  have e1 : 2 * n / (2 * g) = n / g := Nat.mul_div_mul_left n g (by omega)
  have e2 : 2 * n % (2 * g) = 2 * (n % g) := Nat.mul_mod_mul_left 2 n g
  rw [e1, e2]
  have e3 : decide (2 * g < 2 * (2 * (n % g))) = decide (g < 2 * (n % g)) := by
    by_cases h : g < 2 * (n % g)
    · rw [decide_eq_true h, decide_eq_true (by omega)]
    · rw [decide_eq_false h, decide_eq_false (by omega)]
  have e4 : (2 * g == 2 * (2 * (n % g))) = (g == 2 * (n % g)) := by
    by_cases h : g = 2 * (n % g)
    · rw [beq_iff_eq.2 h, beq_iff_eq.2 (by omega)]
    · rw [beq_eq_false_iff_ne.2 h, beq_eq_false_iff_ne.2 (by omega)]
  rw [e3, e4]
theorem near_two (f : Format) (neg : Bool) {m : Nat} (hm : m ≠ 0) (e : Int) : f.nearest neg (2 * m) e = f.nearest neg m (e + 1) := by
  have hl : (2 * m).log2 = m.log2 + 1 := Nat.log2_two_mul hm
  unfold Format.nearest
  rw [if_neg (by omega), if_neg hm, hl]
  have e1 : e + ((m.log2 + 1 : Nat) : Int) - (f.fractionBits : Int) = e + 1 + (m.log2 : Int) - (f.fractionBits : Int) := by omega
  rw [e1]
  generalize max (e + 1 + (m.log2 : Int) - (f.fractionBits : Int)) f.leastPlace = last
  have key : Toward.even.cut neg ((2 * m) <<< (e - last).toNat) (last - e).toNat = Toward.even.cut neg (m <<< (e + 1 - last).toNat) (last - (e + 1)).toNat := by
    rcases ilg e last with h | h
    · rw [show (e - last).toNat = 0 by omega, show (e + 1 - last).toNat = 0 by omega, show (last - e).toNat = (last - (e + 1)).toNat + 1 by omega]
      simp only [Nat.shiftLeft_zero]
      exact cut_two neg hm _
    · rw [show (last - e).toNat = 0 by omega, show (last - (e + 1)).toNat = 0 by omega, show (e + 1 - last).toNat = (e - last).toNat + 1 by omega]
      congr 1
  simp only [key]
theorem near_pow (f : Format) (neg : Bool) {m : Nat} (hm : m ≠ 0) : ∀ (k : Nat) (e : Int), f.nearest neg (2 ^ k * m) e = f.nearest neg m (e + k)
  | 0, e => by simp
  | k + 1, e => by
    have h2 : 2 ^ k * m ≠ 0 := by
      have := Nat.two_pow_pos k
      exact Nat.mul_ne_zero (by omega) hm
    rw [Nat.pow_succ, show 2 ^ k * 2 * m = 2 * (2 ^ k * m) by rw [Nat.mul_comm (2 ^ k) 2, Nat.mul_assoc], near_two f neg h2, near_pow f neg hm k]
    congr 1
    omega
/-- The nearest word rests on the number alone. -/
theorem near_same (f : Format) (neg : Bool) {m m' : Nat} {e e' : Int} (hm : m ≠ 0) (hm' : m' ≠ 0) (h : (m : Rat) * p2 e = (m' : Rat) * p2 e') : f.nearest neg m e = f.nearest neg m' e' := by
  have one : ∀ {m m' : Nat} {e e' : Int}, m' ≠ 0 → e ≤ e' → (m : Rat) * p2 e = (m' : Rat) * p2 e' → f.nearest neg m e = f.nearest neg m' e' := by
    intro m m' e e' hm' hle h
    have h2 := p2_shift hle
    rw [h2, ← Rat.mul_assoc, ← Rat.natCast_mul] at h
    have h3 : (m : Rat) = ((m' * 2 ^ (e' - e).toNat : Nat) : Rat) := by
      refine Rat.le_antisymm (p2_cancel (e := e) (by rw [h]; exact Rat.le_refl)) (p2_cancel (e := e) (by rw [h]; exact Rat.le_refl))
    have h4 : m = 2 ^ (e' - e).toNat * m' := by
      rw [Nat.mul_comm]
      exact Rat.natCast_inj.1 h3
    rw [h4, near_pow f neg hm']
    congr 1
    omega
  rcases Int.le_total e e' with c | c
  · exact one hm' c h
  · exact (one hm c h.symm).symm
theorem inf_read (neg : Bool) : single.read (single.word neg single.infRung) = .infinity neg := by cases neg <;> decide +kernel
/-- Twice as great: one place up. -/
theorem near_up (neg : Bool) {m : Nat} {e : Int} (hm : m ≠ 0) (hlo : single.leastPlace ≤ e + (m.log2 : Int) - (single.fractionBits : Int)) (hb : (m : Rat) * p2 (e + 1) ≤ topV single 127) :
    ∃ m1 e1 m2 e2, single.read (single.nearest neg m e) = .number neg m1 e1 ∧ single.read (single.nearest neg m (e + 1)) = .number neg m2 e2 ∧ (m2 : Rat) * p2 e2 = 2 * ((m1 : Rat) * p2 e1) := by
  have hself : 2 ^ m.log2 ≤ m := Nat.log2_self_le hm
  have hlt : m < 2 ^ (m.log2 + 1) := (Nat.log2_lt hm).1 (Nat.lt_succ_self _)
  have hv1 : p2 (e + m.log2) ≤ (m : Rat) * p2 e := by
    rw [Int.add_comm, p2_add, p2_nat]
    exact p2_mul e (natCast_le hself)
  have hv2 : (m : Rat) * p2 e ≤ p2 (e + m.log2 + 1) := by
    have : e + (m.log2 : Int) + 1 = ((m.log2 + 1 : Nat) : Int) + e := by omega
    rw [this, p2_add, p2_nat]
    exact p2_mul e (natCast_le (Nat.le_of_lt hlt))
  have hBp := binade_p2 single
  have hB : 0 < single.binade := Nat.two_pow_pos _
  obtain ⟨last, hl⟩ : ∃ last : Int, last = e + (m.log2 : Int) - (single.fractionBits : Int) := ⟨_, rfl⟩
  obtain ⟨k, hk⟩ : ∃ k, k = Toward.even.cut neg (m <<< (e - last).toNat) (last - e).toNat := ⟨_, rfl⟩
  obtain ⟨q, hq⟩ : ∃ q, q = (last - single.leastPlace).toNat := ⟨_, rfl⟩
  have h1 : single.nearest neg m e = single.word neg (min (q * single.binade + k) single.infRung) := by
    unfold Format.nearest
    rw [if_neg hm, show max (e + (m.log2 : Int) - (single.fractionBits : Int)) single.leastPlace = last by omega]
    dsimp only
    rw [← hk, ← hq]
  have h2 : single.nearest neg m (e + 1) = single.word neg (min ((q + 1) * single.binade + k) single.infRung) := by
    unfold Format.nearest
    rw [if_neg hm, show max (e + 1 + (m.log2 : Int) - (single.fractionBits : Int)) single.leastPlace = last + 1 by omega]
    dsimp only
    rw [show e + 1 - (last + 1) = e - last by omega, show last + 1 - (e + 1) = last - e by omega, ← hk, show (last + 1 - single.leastPlace).toNat = q + 1 by omega]
  have nc := near_cut single neg m e last
  rw [← hk] at nc
  have k1 : single.binade ≤ k := by
    refine nc.lo _ ?_
    rw [hBp, ← p2_add, show (single.fractionBits : Int) + last = e + m.log2 by omega]
    exact hv1
  have k2 : k ≤ 2 * single.binade := by
    refine nc.hi _ ?_
    have : ((2 * single.binade : Nat) : Rat) = p2 (1 + single.fractionBits) := by
      rw [Rat.natCast_mul, hBp, p2_add, p2_one]
      rfl
    rw [this, ← p2_add, show (1 : Int) + (single.fractionBits : Int) + last = e + m.log2 + 1 by omega]
    exact hv2
  have hlt2 : (q + 1) * single.binade + k < single.infRung := by
    rcases Nat.lt_or_ge ((q + 1) * single.binade + k) single.infRung with c | c
    · exact c
    · exfalso
      obtain ⟨a, b, r1, _⟩ := near_val single 127 fok_single neg m (e + 1) hb
      rw [h2, Nat.min_eq_right c, inf_read] at r1
      cases r1
  have hlt1 : q * single.binade + k < single.infRung := by
    rw [Nat.add_mul] at hlt2
    omega
  rw [h1, h2, Nat.min_eq_left (Nat.le_of_lt hlt1), Nat.min_eq_left (Nat.le_of_lt hlt2)]
  obtain ⟨m1, e1, r1, v1⟩ := read_rung single neg (q := q) k2 (.inr k1) hlt1
  obtain ⟨m2, e2, r2, v2⟩ := read_rung single neg (q := q + 1) k2 (.inr k1) hlt2
  refine ⟨m1, e1, m2, e2, r1, r2, ?_⟩
  rw [v1, v2, show single.leastPlace + ((q + 1 : Nat) : Int) = 1 + (single.leastPlace + (q : Int)) by omega, p2_add 1, p2_one]
  grind_linarith
/-- Written: twice as great gives twice as much. -/
theorem write_dbl {s s' : Bool} {m m' : Nat} {e e' : Int} (hm : m ≠ 0) (hv : dval (.number s' m' e') = 2 * dval (.number s m e)) (hlo : p2 (-126) ≤ (m : Rat) * p2 e) (hb : (m : Rat) * p2 e ≤ p2 120) :
    fval .f32 (single.write (.number s' m' e')) = 2 * fval .f32 (single.write (.number s m e)) := by
  have hp : 0 < (m : Rat) * p2 e := by
    have := p2_pos (-126)
    grind_linarith
  rw [dval_number, dval_number] at hv
  have hp' := val_nonneg m' e'
  have hs : s' = s ∧ (m' : Rat) * p2 e' = 2 * ((m : Rat) * p2 e) := by
    generalize (m : Rat) * p2 e = a at *
    generalize (m' : Rat) * p2 e' = b at *
    cases s <;> cases s' <;> simp only [sg_true, sg_false] at hv
    · exact ⟨rfl, by grind_linarith⟩
    · exfalso; grind_linarith
    · exfalso; grind_linarith
    · exact ⟨rfl, by grind_linarith⟩
  obtain ⟨rfl, hm2⟩ := hs
  have hm0 : m' ≠ 0 := fun h => by
    rw [h] at hm2
    have : ((0 : Nat) : Rat) = 0 := rfl
    rw [this] at hm2
    grind_linarith
  have hup : (m : Rat) * p2 (e + 1) = 2 * ((m : Rat) * p2 e) := by
    rw [p2_add, p2_one]
    grind_linarith
  have hw : single.nearest s' m' e' = single.nearest s' m (e + 1) := near_same single s' hm0 hm (hm2.trans hup.symm)
  have hlt : m < 2 ^ (m.log2 + 1) := (Nat.log2_lt hm).1 (Nat.lt_succ_self _)
  have hv2 : (m : Rat) * p2 e ≤ p2 (e + m.log2 + 1) := by
    have : e + (m.log2 : Int) + 1 = ((m.log2 + 1 : Nat) : Int) + e := by omega
    rw [this, p2_add, p2_nat]
    exact p2_mul e (natCast_le (Nat.le_of_lt hlt))
  have hv3 : (m : Rat) * p2 e < p2 (e + m.log2 + 1) := by
    have : e + (m.log2 : Int) + 1 = ((m.log2 + 1 : Nat) : Int) + e := by omega
    rw [this, p2_add, p2_nat]
    exact Rat.mul_lt_mul_of_pos_right (Rat.natCast_lt_natCast.2 hlt) (p2_pos e)
  have hl : (-126 : Int) < e + m.log2 + 1 := p2_lt_lt (by grind_linarith)
  have h120 : 2 * p2 120 ≤ topV single 127 := by unfold topV p2; decide +kernel
  have e1 : single.leastPlace = -149 := by decide
  have e2 : (single.fractionBits : Int) = 23 := by decide
  obtain ⟨m1, x1, m2, x2, r1, r2, v⟩ := near_up s' (m := m) (e := e) hm (by omega) (by rw [hup]; grind_linarith)
  have f1 : fval .f32 (single.write (.number s' m e)) = sg s' * ((m1 : Rat) * p2 x1) := by
    show dval (single.read (single.nearest s' m e)) = _
    rw [r1, dval_number]
  have f2 : fval .f32 (single.write (.number s' m' e')) = sg s' * ((m2 : Rat) * p2 x2) := by
    show dval (single.read (single.nearest s' m' e')) = _
    rw [hw, r2, dval_number]
  rw [f1, f2, v]
  grind_linarith
/-! ### the operations -/
/-- What is on a grid of two-powers or is not small. -/
def Big (v : Rat) : Prop := Gr 100 (2 ^ 24) v ∨ p2 (-126) ≤ v ∨ p2 (-126) ≤ -v
theorem gives_dbl {s s' : Bool} {m m' : Nat} {e e' : Int} {v : Rat} (h1 : dval (.number s m e) = v) (h2 : dval (.number s' m' e') = 2 * v) (hB : Big v) (hb : Bd v (p2 120)) :
    fval .f32 (single.write (.number s' m' e')) = 2 * fval .f32 (single.write (.number s m e)) := by
  have h120 : 2 * p2 120 ≤ topK .f32 := by unfold topK topV p2; decide +kernel
  have hp := p2_pos 120
  have small : Gr 100 (2 ^ 24) v → fval .f32 (single.write (.number s' m' e')) = 2 * fval .f32 (single.write (.number s m e)) := fun g => by
    have g1 := (gives_write .f32 h1 ⟨by have := hb.1; grind_linarith, by have := hb.2; grind_linarith⟩).exact (g.rep (by decide) (by decide))
    have g2 : Rep FloatKind.f32.format (2 * v) := by
      obtain ⟨z, z1, z2⟩ := g
      refine ⟨z, -99, ?_, by have : 2 * FloatKind.f32.format.binade = 2 ^ 24 := by decide
                             omega, by decide⟩
      have : p2 (-99) = 2 * p2 (-((100 : Nat) : Int)) := p2_half (-99)
      rw [z1, this]
      grind_linarith
    have g3 := (gives_write .f32 h2 ⟨by have := hb.1; grind_linarith, by have := hb.2; grind_linarith⟩).exact g2
    show fval .f32 (FloatKind.f32.format.write _) = 2 * fval .f32 (FloatKind.f32.format.write _)
    rw [g1, g3]
  rcases hB with hB | hB
  · exact small hB
  · have hx : sg s * ((m : Rat) * p2 e) = v := by rw [← dval_number]; exact h1
    have hn := val_nonneg m e
    have hq := p2_pos (-126)
    have ha : p2 (-126) ≤ (m : Rat) * p2 e ∧ (m : Rat) * p2 e ≤ p2 120 := by
      obtain ⟨b1, b2⟩ := hb
      generalize (m : Rat) * p2 e = a at *
      cases s <;> simp only [sg_true, sg_false] at hx <;> rcases hB with c | c <;> exact ⟨by grind_linarith, by grind_linarith⟩
    have hm : m ≠ 0 := fun h => by
      have a := ha.1
      rw [h] at a
      have : ((0 : Nat) : Rat) = 0 := rfl
      rw [this] at a
      grind_linarith
    exact write_dbl hm (by rw [h1, h2]) ha.1 ha.2
theorem mul_dbl {x y y' : Nat} (hx : FinW .f32 x) (hy : FinW .f32 y) (hy' : FinW .f32 y') (h : fval .f32 y' = 2 * fval .f32 y) (hB : Big (fval .f32 x * fval .f32 y)) (hb : Bd (fval .f32 x * fval .f32 y) (p2 120)) :
    fval .f32 (fbin .mul .f32 x y') = 2 * fval .f32 (fbin .mul .f32 x y) := by
  obtain ⟨s, m, i, hx⟩ := hx
  obtain ⟨t, n, j, hy⟩ := hy
  obtain ⟨t', n', j', hy'⟩ := hy'
  have e1 : fbin .mul .f32 x y = single.write (.number (s ^^ t) (m * n) (i + j)) := by
    unfold fbin floatBits
    show ((((FloatKind.f32.decode x).product (FloatKind.f32.decode y)).map single.write).getD _) = _
    rw [hx, hy]
    rfl
  have e2 : fbin .mul .f32 x y' = single.write (.number (s ^^ t') (m * n') (i + j')) := by
    unfold fbin floatBits
    show ((((FloatKind.f32.decode x).product (FloatKind.f32.decode y')).map single.write).getD _) = _
    rw [hx, hy']
    rfl
  unfold fval at h hB hb
  rw [hx, hy] at hB hb
  rw [hy, hy'] at h
  rw [e1, e2]
  refine gives_dbl (v := dval (.number s m i) * dval (.number t n j)) ?_ ?_ hB hb
  · simp only [dval_number]
    rw [sg_xor, Rat.natCast_mul, p2_add]
    grind_linarith
  · rw [show 2 * (dval (.number s m i) * dval (.number t n j)) = dval (.number s m i) * (2 * dval (.number t n j)) by grind_linarith, ← h]
    simp only [dval_number]
    rw [sg_xor, Rat.natCast_mul, p2_add]
    grind_linarith
theorem add_dbl {x y x' y' : Nat} (hx : FinW .f32 x) (hy : FinW .f32 y) (hx' : FinW .f32 x') (hy' : FinW .f32 y') (h : fval .f32 x' = 2 * fval .f32 x) (g : fval .f32 y' = 2 * fval .f32 y) (hB : Big (fval .f32 x + fval .f32 y)) (hb : Bd (fval .f32 x + fval .f32 y) (p2 120)) :
    fval .f32 (fbin .add .f32 x' y') = 2 * fval .f32 (fbin .add .f32 x y) := by
  have sum : ∀ {x y : Nat}, FinW .f32 x → FinW .f32 y → ∃ s m e, fbin .add .f32 x y = single.write (.number s m e) ∧ dval (.number s m e) = fval .f32 x + fval .f32 y := by
    intro x y hx hy
    obtain ⟨s, m, i, hx⟩ := hx
    obtain ⟨t, n, j, hy⟩ := hy
    have key : ∃ a b c, Datum.sum (.number s m i) (.number t n j) = some (.number a b c) ∧ dval (.number a b c) = dval (.number s m i) + dval (.number t n j) := by
      refine ⟨_, _, _, rfl, ?_⟩
      rw [← total_val]
      exact natAbs_val _ _ (fun h => by rw [if_neg h]) _
    obtain ⟨a, b, c, k1, k2⟩ := key
    refine ⟨a, b, c, ?_, ?_⟩
    · unfold fbin floatBits
      show ((((FloatKind.f32.decode x).sum (FloatKind.f32.decode y)).map single.write).getD _) = _
      rw [hx, hy, k1]
      rfl
    · unfold fval
      rw [hx, hy]
      exact k2
  obtain ⟨s, m, e, h1, h2⟩ := sum hx hy
  obtain ⟨s', m', e', h3, h4⟩ := sum hx' hy'
  rw [h1, h3]
  refine gives_dbl h2 ?_ hB hb
  rw [h4, h, g]
  grind_linarith
/-! ### grids without a bound -/
def Gz (s : Nat) (v : Rat) : Prop := ∃ z : Int, v = (z : Rat) * p2 (-(s : Int))
theorem Gz.add {s : Nat} {x y : Rat} (h : Gz s x) (g : Gz s y) : Gz s (x + y) := by
  obtain ⟨z, h1⟩ := h
  obtain ⟨w, g1⟩ := g
  exact ⟨z + w, by rw [h1, g1, Rat.intCast_add]; grind_linarith⟩
theorem Gz.mul {s t : Nat} {x y : Rat} (h : Gz s x) (g : Gz t y) : Gz (s + t) (x * y) := by
  obtain ⟨z, h1⟩ := h
  obtain ⟨w, g1⟩ := g
  refine ⟨z * w, ?_⟩
  have e : p2 (-((s + t : Nat) : Int)) = p2 (-(s : Int)) * p2 (-(t : Int)) := by rw [← p2_add]; congr 1; omega
  rw [h1, g1, Rat.intCast_mul, e]
  grind_linarith
theorem Gz.zero (s : Nat) : Gz s 0 := ⟨0, by simp⟩
theorem Gz.big {s : Nat} {v : Rat} (h : Gz s v) (hs : s ≤ 126) : Big v := by
  obtain ⟨z, h1⟩ := h
  have hp := p2_pos (-(s : Int))
  have hle : p2 (-126) ≤ p2 (-(s : Int)) := p2_le (by omega)
  rcases Int.lt_trichotomy z 0 with c | c | c
  · refine .inr (.inr ?_)
    have a : (z : Rat) ≤ ((-1 : Int) : Rat) := Rat.intCast_le_intCast.2 (by omega)
    have b := Rat.mul_le_mul_of_nonneg_right a (Rat.le_of_lt hp)
    have e : ((-1 : Int) : Rat) = -1 := rfl
    rw [e] at b
    rw [h1]
    grind_linarith
  · subst c
    rw [h1]
    exact .inl ⟨0, by simp, by simp⟩
  · refine .inr (.inl ?_)
    have a : ((1 : Int) : Rat) ≤ (z : Rat) := Rat.intCast_le_intCast.2 (by omega)
    have b := Rat.mul_le_mul_of_nonneg_right a (Rat.le_of_lt hp)
    have e : ((1 : Int) : Rat) = 1 := rfl
    rw [e] at b
    rw [h1]
    grind_linarith
theorem Gz.shift {s : Nat} {m : Nat} {e : Int} (h : -(s : Int) ≤ e) (b : Bool) : Gz s (sg b * ((m : Rat) * p2 e)) := by
  rw [p2_shift h]
  generalize (e - -(s : Int)).toNat = k
  cases b
  · refine ⟨((m * 2 ^ k : Nat) : Int), ?_⟩
    rw [sg_false, Rat.intCast_natCast, Rat.natCast_mul]
    grind_linarith
  · refine ⟨-((m * 2 ^ k : Nat) : Int), ?_⟩
    rw [sg_true, Rat.intCast_neg, Rat.intCast_natCast, Rat.natCast_mul]
    grind_linarith
/-- What is rounded stays on its grid. -/
theorem Gz.gives {s : Nat} {v : Rat} {r : Nat} (g : Gz s v) (h : Gives .f32 v r) (hs : s ≤ 126) : Gz s (fval .f32 r) := by
  obtain ⟨z, hz⟩ := g
  have hB : 2 * FloatKind.f32.format.binade = 16777216 := by decide
  have hL : FloatKind.f32.format.leastPlace = -149 := by decide
  by_cases c : z.natAbs ≤ 16777216
  · rw [h.exact ⟨z, -(s : Int), hz, by omega, by omega⟩]
    exact ⟨z, hz⟩
  · obtain ⟨b, m, e, hd⟩ := h.1
    have hv : fval .f32 r = sg b * ((m : Rat) * p2 e) := by
      unfold fval
      rw [hd, dval_number]
    rcases ilg e (-(s : Int)) with he | he
    · exfalso
      obtain ⟨m1, _, _⟩ := read_num fok_single (w := r) (s := b) (m := m) (e := e) hd
      have hm : m ≤ 16777215 := by
        have : 2 * single.binade = 16777216 := by decide
        omega
      have hc : Rep FloatKind.f32.format (((16777216 : Int) : Rat) * p2 (-(s : Int))) := ⟨16777216, -(s : Int), rfl, by omega, by omega⟩
      have hp := p2_pos (-(s : Int))
      have hp2 : p2 e ≤ p2 (-(s : Int)) := p2_le (by omega)
      have a1 : (m : Rat) ≤ ((16777215 : Nat) : Rat) := natCast_le hm
      have a2 : (m : Rat) * p2 e ≤ (m : Rat) * p2 (-(s : Int)) := Rat.mul_le_mul_of_nonneg_left hp2 Rat.natCast_nonneg
      have a3 := Rat.mul_le_mul_of_nonneg_right a1 (Rat.le_of_lt hp)
      have a0 := val_nonneg m e
      have e1 : ((16777215 : Nat) : Rat) = 16777215 := rfl
      have e2 : ((16777216 : Int) : Rat) = 16777216 := rfl
      rw [e1] at a3
      rcases ilg z 0 with z0 | z0
      · have b1 : (z : Rat) ≤ ((-16777216 : Int) : Rat) := Rat.intCast_le_intCast.2 (by omega)
        have b2 := Rat.mul_le_mul_of_nonneg_right b1 (Rat.le_of_lt hp)
        have e3 : ((-16777216 : Int) : Rat) = -16777216 := rfl
        rw [e3] at b2
        have b3 := h.le hc.neg (by rw [hz, e2]; grind_linarith)
        rw [hv, e2] at b3
        generalize (m : Rat) * p2 e = t at *
        cases b <;> simp only [sg_true, sg_false] at b3 <;> grind_linarith
      · have b1 : ((16777216 : Int) : Rat) ≤ (z : Rat) := Rat.intCast_le_intCast.2 (by omega)
        have b2 := Rat.mul_le_mul_of_nonneg_right b1 (Rat.le_of_lt hp)
        rw [e2] at b2
        have b3 := h.ge hc (by rw [hz, e2]; grind_linarith)
        rw [hv, e2] at b3
        generalize (m : Rat) * p2 e = t at *
        cases b <;> simp only [sg_true, sg_false] at b3 <;> grind_linarith
    · rw [hv]
      exact Gz.shift he b
/-! ### numbers and their doubles -/
/-- A word on a grid, with a bound, and a word of twice as much. -/
structure Dbl (s : Nat) (B : Rat) (x y : Nat) : Prop where
  fx : FinW .f32 x
  fy : FinW .f32 y
  g : Gz s (fval .f32 x)
  b : Bd (fval .f32 x) B
  two : fval .f32 y = 2 * fval .f32 x
theorem Dbl.zero (s : Nat) {B : Rat} (hB : 0 ≤ B) : Dbl s B 0 0 := by
  obtain ⟨z1, z2⟩ := finW_zero
  exact ⟨z1, z1, by rw [z2]; exact Gz.zero s, by rw [z2]; constructor <;> grind_linarith, by rw [z2]; grind_linarith⟩
theorem Dbl.add {s : Nat} {B C M : Rat} {x y x' y' : Nat} (h : Dbl s B x x') (k : Dbl s C y y') (hs : s ≤ 126) (hM : Rep FloatKind.f32.format M) (hb : B + C ≤ M) (hT : M ≤ p2 120) : Dbl s M (fbin .add .f32 x y) (fbin .add .f32 x' y') := by
  have h120 : 2 * p2 120 ≤ topK .f32 := by unfold topK topV p2; decide +kernel
  have hp := p2_pos 120
  obtain ⟨h1, h2⟩ := h.b
  obtain ⟨k1, k2⟩ := k.b
  have t1 := h.two
  have t2 := k.two
  have b1 : Bd (fval .f32 x + fval .f32 y) M := ⟨by grind_linarith, by grind_linarith⟩
  have g1 := fadd_val h.fx k.fx (show Bd (fval .f32 x + fval .f32 y) (topK .f32) from ⟨by grind_linarith, by grind_linarith⟩)
  have g2 := fadd_val h.fy k.fy (show Bd (fval .f32 x' + fval .f32 y') (topK .f32) from ⟨by grind_linarith, by grind_linarith⟩)
  have gz := h.g.add k.g
  exact ⟨g1.1, g2.1, gz.gives g1 hs, g1.bd hM b1, add_dbl h.fx k.fx h.fy k.fy t1 t2 (gz.big hs) ⟨by grind_linarith, by grind_linarith⟩⟩
theorem Dbl.mul {s t : Nat} {B M : Rat} {c x y : Nat} (hc : FinW .f32 c) (hg : Gz t (fval .f32 c)) (h : Dbl s B x y) (hs : s + t ≤ 126) (hM : Rep FloatKind.f32.format M) (hb : Bd (fval .f32 c * fval .f32 x) M) (hT : M ≤ p2 120) : Dbl (s + t) M (fbin .mul .f32 c x) (fbin .mul .f32 c y) := by
  have h120 : 2 * p2 120 ≤ topK .f32 := by unfold topK topV p2; decide +kernel
  have hp := p2_pos 120
  obtain ⟨b1, b2⟩ := hb
  have t2 := h.two
  have e : fval .f32 c * fval .f32 y = 2 * (fval .f32 c * fval .f32 x) := by rw [t2]; grind_linarith
  have g1 := fmul_val hc h.fx (show Bd (fval .f32 c * fval .f32 x) (topK .f32) from ⟨by grind_linarith, by grind_linarith⟩)
  have g2 := fmul_val hc h.fy (show Bd (fval .f32 c * fval .f32 y) (topK .f32) from by rw [e]; exact ⟨by grind_linarith, by grind_linarith⟩)
  have gz : Gz (s + t) (fval .f32 c * fval .f32 x) := by rw [Nat.add_comm]; exact hg.mul h.g
  exact ⟨g1.1, g2.1, gz.gives g1 hs, g1.bd hM ⟨b1, b2⟩, mul_dbl hc h.fx h.fy t2 (gz.big hs) ⟨by grind_linarith, by grind_linarith⟩⟩
/-! ### four times as much -/
theorem Gz.two {s : Nat} {v : Rat} (h : Gz s v) : Gz s (2 * v) := by
  have e : 2 * v = v + v := by grind_linarith
  rw [e]
  exact h.add h
theorem mul_datum {x y : Nat} (hx : FinW .f32 x) (hy : FinW .f32 y) : ∃ s m e, fbin .mul .f32 x y = single.write (.number s m e) ∧ dval (.number s m e) = fval .f32 x * fval .f32 y := by
  obtain ⟨s, m, i, hx⟩ := hx
  obtain ⟨t, n, j, hy⟩ := hy
  refine ⟨s ^^ t, m * n, i + j, ?_, ?_⟩
  · unfold fbin floatBits
    show ((((FloatKind.f32.decode x).product (FloatKind.f32.decode y)).map single.write).getD _) = _
    rw [hx, hy]
    rfl
  · unfold fval
    rw [hx, hy]
    simp only [dval_number]
    rw [sg_xor, Rat.natCast_mul, p2_add]
    grind_linarith
theorem add_datum {x y : Nat} (hx : FinW .f32 x) (hy : FinW .f32 y) : ∃ s m e, fbin .add .f32 x y = single.write (.number s m e) ∧ dval (.number s m e) = fval .f32 x + fval .f32 y := by
  obtain ⟨s, m, i, hx⟩ := hx
  obtain ⟨t, n, j, hy⟩ := hy
  have key : ∃ a b c, Datum.sum (.number s m i) (.number t n j) = some (.number a b c) ∧ dval (.number a b c) = dval (.number s m i) + dval (.number t n j) := by
    refine ⟨_, _, _, rfl, ?_⟩
    rw [← total_val]
    exact natAbs_val _ _ (fun h => by rw [if_neg h]) _
  obtain ⟨a, b, c, k1, k2⟩ := key
  refine ⟨a, b, c, ?_, ?_⟩
  · unfold fbin floatBits
    show ((((FloatKind.f32.decode x).sum (FloatKind.f32.decode y)).map single.write).getD _) = _
    rw [hx, hy, k1]
    rfl
  · unfold fval
    rw [hx, hy]
    exact k2
theorem gives_quad {s s' : Bool} {m m' : Nat} {e e' : Int} {v : Rat} {g : Nat} (h1 : dval (.number s m e) = v) (h2 : dval (.number s' m' e') = 4 * v) (hG : Gz g v) (hg : g ≤ 126) (hb : Bd v (p2 119)) :
    fval .f32 (single.write (.number s' m' e')) = 4 * fval .f32 (single.write (.number s m e)) := by
  have h119 : p2 120 = 2 * p2 119 := p2_half 120
  have hp := p2_pos 119
  have hd : dval (.number s m (e + 1)) = 2 * v := by
    rw [← h1, dval_number, dval_number, p2_add, p2_one]
    grind_linarith
  have a := gives_dbl h1 hd (hG.big hg) ⟨by have := hb.1; grind_linarith, by have := hb.2; grind_linarith⟩
  have b := gives_dbl hd (s' := s') (m' := m') (e' := e') (by rw [h2]; grind_linarith) (hG.two.big hg) ⟨by have := hb.1; grind_linarith, by have := hb.2; grind_linarith⟩
  rw [b, a]
  grind_linarith
/-- A word on a grid, not negative, with a bound, and a word of four times as much. -/
structure Quad (s : Nat) (B : Rat) (x y : Nat) : Prop where
  fx : FinW .f32 x
  fy : FinW .f32 y
  g : Gz s (fval .f32 x)
  b : 0 ≤ fval .f32 x ∧ fval .f32 x ≤ B
  four : fval .f32 y = 4 * fval .f32 x
theorem Quad.zero (s : Nat) {B : Rat} (hB : 0 ≤ B) : Quad s B 0 0 := by
  obtain ⟨z1, z2⟩ := finW_zero
  exact ⟨z1, z1, by rw [z2]; exact Gz.zero s, by rw [z2]; exact ⟨Rat.le_refl, hB⟩, by rw [z2]; grind_linarith⟩
theorem Dbl.sq {s : Nat} {B M : Rat} {x y : Nat} (h : Dbl s B x y) (hs : s + s ≤ 126) (hM : Rep FloatKind.f32.format M) (hb : B * B ≤ M) (hT : M ≤ p2 119) : Quad (s + s) M (fbin .mul .f32 x x) (fbin .mul .f32 y y) := by
  have h120 : 16 * p2 119 ≤ topK .f32 := by unfold topK topV p2; decide +kernel
  have hp := p2_pos 119
  have q0 := sq_nonneg (fval .f32 x)
  have q1 := sq_bd h.b
  have e : fval .f32 y * fval .f32 y = 4 * (fval .f32 x * fval .f32 x) := by rw [h.two]; grind_linarith
  have g1 := fmul_val h.fx h.fx (show Bd (fval .f32 x * fval .f32 x) (topK .f32) from ⟨by grind_linarith, by grind_linarith⟩)
  have g2 := fmul_val h.fy h.fy (show Bd (fval .f32 y * fval .f32 y) (topK .f32) from by rw [e]; exact ⟨by grind_linarith, by grind_linarith⟩)
  have gz := h.g.mul h.g
  have z0 : ((0 : Int) : Rat) = 0 := rfl
  have m0 := g1.ge (Rep.int (by decide) 0 (by decide)) (by rw [z0]; exact q0)
  rw [z0] at m0
  refine ⟨g1.1, g2.1, gz.gives g1 hs, ⟨m0, g1.le hM (by grind_linarith)⟩, ?_⟩
  obtain ⟨s1, m1, e1, w1, v1⟩ := mul_datum h.fx h.fx
  obtain ⟨s2, m2, e2, w2, v2⟩ := mul_datum h.fy h.fy
  rw [w1, w2]
  exact gives_quad v1 (by rw [v2, e]) gz hs ⟨by grind_linarith, by grind_linarith⟩
theorem Quad.add {s : Nat} {B C M : Rat} {x y x' y' : Nat} (h : Quad s B x x') (k : Quad s C y y') (hs : s ≤ 126) (hM : Rep FloatKind.f32.format M) (hb : B + C ≤ M) (hT : M ≤ p2 119) : Quad s M (fbin .add .f32 x y) (fbin .add .f32 x' y') := by
  have h120 : 16 * p2 119 ≤ topK .f32 := by unfold topK topV p2; decide +kernel
  have hp := p2_pos 119
  obtain ⟨h1, h2⟩ := h.b
  obtain ⟨k1, k2⟩ := k.b
  have t1 := h.four
  have t2 := k.four
  have g1 := fadd_val h.fx k.fx (show Bd (fval .f32 x + fval .f32 y) (topK .f32) from ⟨by grind_linarith, by grind_linarith⟩)
  have g2 := fadd_val h.fy k.fy (show Bd (fval .f32 x' + fval .f32 y') (topK .f32) from ⟨by grind_linarith, by grind_linarith⟩)
  have gz := h.g.add k.g
  have z0 : ((0 : Int) : Rat) = 0 := rfl
  have m0 := g1.ge (Rep.int (by decide) 0 (by decide)) (by rw [z0]; grind_linarith)
  rw [z0] at m0
  refine ⟨g1.1, g2.1, gz.gives g1 hs, ⟨m0, g1.le hM (by grind_linarith)⟩, ?_⟩
  obtain ⟨s1, m1, e1, w1, v1⟩ := add_datum h.fx k.fx
  obtain ⟨s2, m2, e2, w2, v2⟩ := add_datum h.fy k.fy
  rw [w1, w2]
  exact gives_quad v1 (by rw [v2, t1, t2]; grind_linarith) gz hs ⟨by grind_linarith, by grind_linarith⟩
end Go.Gx
