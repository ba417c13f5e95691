/-
  What finite words stand for, in rational numbers; how the operations round.
-/
import Derived.Test.YtddekdgggpifmaaGxBands
namespace Go.Gx
set_option linter.unusedSimpArgs false
set_option linter.unusedVariables false
open Ieee

theorem ilg (a b : Int) : a < b ∨ b ≤ a := by omega
/-! ### powers of two -/
def p2 (e : Int) : Rat := (2 : Rat) ^ e
theorem p2_pos (e : Int) : 0 < p2 e := Rat.zpow_pos (by decide)
theorem p2_add (a b : Int) : p2 (a + b) = p2 a * p2 b := Rat.zpow_add (by decide) a b
theorem p2_nat (n : Nat) : p2 (n : Int) = ((2 ^ n : Nat) : Rat) := by
  unfold p2
  rw [Rat.zpow_natCast, Rat.natCast_pow]
  rfl
theorem p2_zero : p2 0 = 1 := Rat.zpow_zero _
theorem p2_one : p2 1 = 2 := Rat.zpow_one _
theorem p2_shift {a b : Int} (h : a ≤ b) : p2 b = ((2 ^ (b - a).toNat : Nat) : Rat) * p2 a := by
  have : b = ((b - a).toNat : Int) + a := by omega
  conv => lhs; rw [this]
  rw [p2_add, p2_nat]
theorem p2_le {a b : Int} (h : a ≤ b) : p2 a ≤ p2 b := by
  rw [p2_shift h]
  have h1 : ((1 : Nat) : Rat) ≤ ((2 ^ (b - a).toNat : Nat) : Rat) := Rat.natCast_le_natCast.2 Nat.one_le_two_pow
  have := Rat.mul_le_mul_of_nonneg_right h1 (Rat.le_of_lt (p2_pos a))
  simpa using this
theorem p2_half (e : Int) : p2 e = 2 * p2 (e - 1) := by
  have : e = 1 + (e - 1) := by omega
  conv => lhs; rw [this]
  rw [p2_add, p2_one]

/-! ### rounding whole numbers -/
structure CutOk (n d k : Nat) : Prop where
  up : 2 * n ≤ (2 * k + 1) * 2 ^ d
  dn : 2 * k * 2 ^ d ≤ 2 * n + 2 ^ d
  hi : ∀ c, n ≤ c * 2 ^ d → k ≤ c
  lo : ∀ c, c * 2 ^ d ≤ n → c ≤ k
theorem cut_gap (g n : Nat) (hg : 0 < g) (more : Bool) (h1 : more = true → g ≤ 2 * (n % g)) (h2 : more = false → 2 * (n % g) ≤ g) :
    2 * n ≤ (2 * (n / g + more.toNat) + 1) * g ∧ 2 * (n / g + more.toNat) * g ≤ 2 * n + g ∧ (∀ c, n ≤ c * g → n / g + more.toNat ≤ c) ∧ ∀ c, c * g ≤ n → c ≤ n / g + more.toNat := by
  have hn : g * (n / g) + n % g = n := Nat.div_add_mod n g
  have hr : n % g < g := Nat.mod_lt _ hg
  have e1 : (2 * (n / g + more.toNat) + 1) * g = 2 * (g * (n / g)) + (2 * more.toNat + 1) * g := by
    rw [Nat.mul_add, Nat.add_assoc, Nat.add_mul, Nat.mul_assoc, Nat.mul_comm (n / g) g]
  have e2 : 2 * (n / g + more.toNat) * g = 2 * (g * (n / g)) + 2 * more.toNat * g := by
    rw [Nat.mul_add, Nat.add_mul, Nat.mul_assoc, Nat.mul_comm (n / g) g]
  generalize g * (n / g) = q at *
  refine ⟨?_, ?_, fun c hc => ?_, fun c hc => ?_⟩
  · rw [e1]
    cases more
    · have := h2 rfl; simp only [Bool.toNat_false]; omega
    · simp only [Bool.toNat_true]; omega
  · rw [e2]
    cases more
    · simp only [Bool.toNat_false]; omega
    · have := h1 rfl; simp only [Bool.toNat_true]; omega
  · have h3 : n / g ≤ c := Nat.div_le_of_le_mul (by rw [Nat.mul_comm]; exact hc)
    cases more
    · simpa using h3
    · simp only [Bool.toNat_true]
      rcases Nat.lt_or_ge (n / g) c with h | h
      · omega
      · exfalso
        have hc' : n / g = c := by omega
        have h0 : n ≤ g * (n / g) := by rw [hc', Nat.mul_comm]; exact hc
        have := h1 rfl
        have hq : g * (n / g) + n % g = n := Nat.div_add_mod n g
        omega
  · have : c ≤ n / g := (Nat.le_div_iff_mul_le hg).2 hc
    omega
theorem cut_even (neg : Bool) (n d : Nat) : CutOk n d (Toward.even.cut neg n d) := by
  have hcut : ∀ g, 0 < g → 1 <<< min d (n.log2 + 2) = g → Toward.even.cut neg n d = n / g + (decide (g < 2 * (n % g)) || (g == 2 * (n % g) && n / g % 2 == 1)).toNat := by
    intro g _ hg
    simp only [Toward.cut, hg]
  have hlog : n < 2 ^ (n.log2 + 1) := by
    by_cases h : n = 0
    · subst h; decide
    · exact (Nat.log2_lt h).1 (Nat.lt_succ_self _)
  by_cases hd : d ≤ n.log2 + 2
  · have hg : 1 <<< min d (n.log2 + 2) = 2 ^ d := by rw [Nat.min_eq_left hd, Nat.one_shiftLeft]
    rw [hcut _ (Nat.two_pow_pos d) hg]
    generalize hm : (decide (2 ^ d < 2 * (n % 2 ^ d)) || (2 ^ d == 2 * (n % 2 ^ d) && n / 2 ^ d % 2 == 1)) = more
    obtain ⟨a, b, c, e⟩ := cut_gap (2 ^ d) n (Nat.two_pow_pos d) more (fun h => by
      rw [h] at hm
      simp only [Bool.or_eq_true, decide_eq_true_eq, Bool.and_eq_true, beq_iff_eq] at hm
      omega) (fun h => by
      rw [h] at hm
      simp only [Bool.or_eq_false_iff, decide_eq_false_iff_not] at hm
      omega)
    exact ⟨a, b, c, e⟩
  · have hg : 1 <<< min d (n.log2 + 2) = 2 ^ (n.log2 + 2) := by rw [Nat.min_eq_right (by omega), Nat.one_shiftLeft]
    have h4 : 2 ^ (n.log2 + 2) = 2 * 2 ^ (n.log2 + 1) := by rw [Nat.pow_succ, Nat.mul_comm]
    have hbig : 2 ^ (n.log2 + 2) ≤ 2 ^ d := Nat.pow_le_pow_right (by omega) (by omega)
    have h0 : Toward.even.cut neg n d = 0 := by
      rw [hcut _ (Nat.two_pow_pos _) hg, Nat.div_eq_of_lt (by omega), Nat.mod_eq_of_lt (by omega)]
      have a1 : decide (2 ^ (n.log2 + 2) < 2 * n) = false := by rw [decide_eq_false_iff_not]; omega
      have a2 : (2 ^ (n.log2 + 2) == 2 * n) = false := by rw [beq_eq_false_iff_ne]; omega
      rw [a1, a2]
      rfl
    rw [h0]
    refine ⟨by omega, by omega, fun c _ => by omega, fun c hc => ?_⟩
    rcases Nat.eq_zero_or_pos c with h | h
    · omega
    · have := Nat.mul_le_mul_right (2 ^ d) h
      omega

/-! ### a format -/
/-- A format's numbers: 'T' the power of two up to which nothing overflows. -/
structure FOk (f : Format) (T : Int) : Prop where
  low : f.leastPlace + f.fractionBits + 2 ≤ T
  inf : f.infRung = (T - f.fractionBits - f.leastPlace + 2).toNat * f.binade
theorem fok_single : FOk single 127 := ⟨by decide, by decide⟩
theorem fok_double : FOk double 1023 := ⟨by decide, by decide⟩

theorem read_word' (f : Format) (neg : Bool) {r : Nat} (h : r < f.infRung) :
    f.read (f.word neg r) = if r < f.binade then .number neg r f.leastPlace else .number neg (f.binade + r % f.binade) (f.leastPlace + (r / f.binade - 1 : Nat)) := by
  have hlt := f.infRung_lt
  have hs : f.signWeight ≠ 0 := by omega
  unfold Format.read Format.word
  cases neg
  · have e1 : r % f.signWeight = r := Nat.mod_eq_of_lt (by omega)
    have e2 : r / f.signWeight = 0 := Nat.div_eq_of_lt (by omega)
    simp only [Bool.false_eq_true, if_false, e1, e2]
    by_cases c1 : r < f.binade
    · simp [c1]
    · simp [c1, h]
  · have e1 : (f.signWeight + r) % f.signWeight = r := by rw [Nat.add_mod_left, Nat.mod_eq_of_lt (by omega)]
    have e2 : (f.signWeight + r) / f.signWeight = 1 := by
      rw [Nat.add_div_left _ (by omega), Nat.div_eq_of_lt (by omega)]
    simp only [if_true, e1, e2]
    by_cases c1 : r < f.binade
    · simp [c1]
    · simp [c1, h]

theorem read_rung (f : Format) (neg : Bool) {q k : Nat} (hk : k ≤ 2 * f.binade) (hq : q = 0 ∨ f.binade ≤ k) (h : q * f.binade + k < f.infRung) :
    ∃ m e, f.read (f.word neg (q * f.binade + k)) = .number neg m e ∧ (m : Rat) * p2 e = (k : Rat) * p2 (f.leastPlace + q) := by
  have hB : 0 < f.binade := Nat.two_pow_pos _
  rw [read_word' f neg h]
  by_cases c1 : q * f.binade + k < f.binade
  · rw [if_pos c1]
    have : q = 0 := by
      rcases hq with hq | hq
      · exact hq
      · omega
    subst this
    exact ⟨_, _, rfl, by simp⟩
  · rw [if_neg c1]
    rcases Nat.lt_or_ge k (2 * f.binade) with h2 | h2
    · have hk1 : f.binade ≤ k := by
        rcases hq with rfl | hq
        · omega
        · exact hq
      have e : q * f.binade + k = (q + 1) * f.binade + (k - f.binade) := by rw [Nat.add_mul]; omega
      have e1 : (q * f.binade + k) % f.binade = k - f.binade := by rw [e, Nat.add_comm, Nat.add_mul_mod_self_right, Nat.mod_eq_of_lt (by omega)]
      have e2 : (q * f.binade + k) / f.binade = q + 1 := by rw [e, Nat.add_comm, Nat.add_mul_div_right _ _ hB, Nat.div_eq_of_lt (by omega), Nat.zero_add]
      rw [e1, e2]
      refine ⟨_, _, rfl, ?_⟩
      rw [show f.binade + (k - f.binade) = k by omega, show q + 1 - 1 = q by omega]
    · have hk2 : k = 2 * f.binade := by omega
      subst hk2
      have e : q * f.binade + 2 * f.binade = (q + 2) * f.binade := by rw [Nat.add_mul]
      have e1 : (q * f.binade + 2 * f.binade) % f.binade = 0 := by rw [e, Nat.mul_mod_left]
      have e2 : (q * f.binade + 2 * f.binade) / f.binade = q + 2 := by rw [e, Nat.mul_div_left _ hB]
      rw [e1, e2]
      refine ⟨_, _, rfl, ?_⟩
      have : f.leastPlace + ((q + 2 - 1 : Nat) : Int) = 1 + (f.leastPlace + q) := by omega
      rw [this, p2_add, p2_one, Nat.add_zero, Rat.natCast_mul]
      grind_linarith

/-- Numbers that a format has. -/
def Rep (f : Format) (c : Rat) : Prop := ∃ (n : Int) (j : Int), c = (n : Rat) * p2 j ∧ n.natAbs ≤ 2 * f.binade ∧ f.leastPlace ≤ j
/-- 'r' is 'v', rounded. -/
structure Rnd (f : Format) (v r : Rat) : Prop where
  err : ∀ M, -M ≤ v → v ≤ M → r ≤ v + (M * p2 (-f.fractionBits) + p2 f.leastPlace) ∧ v ≤ r + (M * p2 (-f.fractionBits) + p2 f.leastPlace)
  hi : ∀ c, Rep f c → v ≤ c → r ≤ c
  lo : ∀ c, Rep f c → c ≤ v → c ≤ r

theorem natCast_le {a b : Nat} (h : a ≤ b) : (a : Rat) ≤ (b : Rat) := Rat.natCast_le_natCast.2 h
theorem of_natCast_le {a b : Nat} (h : (a : Rat) ≤ (b : Rat)) : a ≤ b := Rat.natCast_le_natCast.1 h
theorem p2_cancel {a b : Rat} {e : Int} (h : a * p2 e ≤ b * p2 e) : a ≤ b := Rat.le_of_mul_le_mul_right h (p2_pos e)
theorem p2_mul {a b : Rat} (e : Int) (h : a ≤ b) : a * p2 e ≤ b * p2 e := Rat.mul_le_mul_of_nonneg_right h (Rat.le_of_lt (p2_pos e))

/-- What 'nearest' gives, for numbers that aren't negative. -/
structure NearOk (f : Format) (v : Rat) (k : Nat) (last : Int) : Prop where
  err1 : 2 * v ≤ (2 * k + 1) * p2 last
  err2 : 2 * k * p2 last ≤ 2 * v + p2 last
  hi : ∀ c : Nat, v ≤ c * p2 last → k ≤ c
  lo : ∀ c : Nat, c * p2 last ≤ v → c ≤ k
theorem near_cut (f : Format) (neg : Bool) (m : Nat) (e last : Int) : NearOk f (m * p2 e) (Toward.even.cut neg (m <<< (e - last).toNat) (last - e).toNat) last := by
  obtain ⟨h1, h2, h3, h4⟩ := cut_even neg (m <<< (e - last).toNat) (last - e).toNat
  generalize hk : Toward.even.cut neg (m <<< (e - last).toNat) (last - e).toNat = k at *
  generalize hn : m <<< (e - last).toNat = n at *
  -- (n : Rat) * p2 last = m * p2 e * 2 ^ drop
  have key : (n : Rat) * p2 last = (m : Rat) * p2 e * ((2 ^ (last - e).toNat : Nat) : Rat) := by
    rw [← hn, Nat.shiftLeft_eq]
    rcases Int.le_total e last with h | h
    · have e1 : (e - last).toNat = 0 := by omega
      rw [e1, p2_shift h]
      simp only [Nat.pow_zero, Nat.mul_one]
      grind_linarith
    · have e1 : (last - e).toNat = 0 := by omega
      rw [e1, p2_shift h, Rat.natCast_mul]
      simp only [Nat.pow_zero]
      grind_linarith
  have hD : (0 : Rat) < ((2 ^ (last - e).toNat : Nat) : Rat) := Rat.natCast_pos.2 (Nat.two_pow_pos _)
  generalize ((2 ^ (last - e).toNat : Nat)) = D at *
  have hP := p2_pos last
  generalize hV : (m : Rat) * p2 e = v at *
  generalize hPl : p2 last = P at *
  have c1 : ((2 * n : Nat) : Rat) ≤ (((2 * k + 1) * D : Nat) : Rat) := natCast_le h1
  have c2 : ((2 * k * D : Nat) : Rat) ≤ ((2 * n + D : Nat) : Rat) := natCast_le h2
  simp only [Rat.natCast_mul, Rat.natCast_add, Rat.natCast_ofNat] at c1 c2
  have t1 : ((1 : Nat) : Rat) = 1 := rfl
  have t2 : ((2 : Nat) : Rat) = 2 := rfl
  clear h1 h2 hn hk
  refine ⟨?_, ?_, fun c hc => ?_, fun c hc => ?_⟩ <;> rw [hPl] at * <;> clear hPl hV
  · refine Rat.le_of_mul_le_mul_right (c := (D : Rat)) ?_ hD
    have := Rat.mul_le_mul_of_nonneg_right c1 (Rat.le_of_lt hP)
    grind_linarith
  · refine Rat.le_of_mul_le_mul_right (c := (D : Rat)) ?_ hD
    have := Rat.mul_le_mul_of_nonneg_right c2 (Rat.le_of_lt hP)
    grind_linarith
  · refine h3 c (of_natCast_le ?_)
    rw [Rat.natCast_mul]
    have := Rat.mul_le_mul_of_nonneg_right hc (Rat.le_of_lt hD)
    refine Rat.le_of_mul_le_mul_right (c := P) ?_ hP
    grind_linarith
  · refine h4 c (of_natCast_le ?_)
    rw [Rat.natCast_mul]
    have := Rat.mul_le_mul_of_nonneg_right hc (Rat.le_of_lt hD)
    refine Rat.le_of_mul_le_mul_right (c := P) ?_ hP
    grind_linarith

/-- Rounded, for numbers that aren't negative. -/
structure RndN (f : Format) (v r : Rat) : Prop where
  err1 : 2 * r ≤ 2 * v + (v * p2 (-f.fractionBits) + p2 f.leastPlace)
  err2 : 2 * v ≤ 2 * r + (v * p2 (-f.fractionBits) + p2 f.leastPlace)
  hi : ∀ (n : Nat) (j : Int), n ≤ 2 * f.binade → f.leastPlace ≤ j → v ≤ n * p2 j → r ≤ n * p2 j
  lo : ∀ (n : Nat) (j : Int), n ≤ 2 * f.binade → f.leastPlace ≤ j → n * p2 j ≤ v → n * p2 j ≤ r
theorem p2_lt_of {a b : Int} (h : p2 a ≤ p2 b) : a ≤ b := by
  rcases ilg b a with hlt | hge
  · exfalso
    have h1 : p2 (b + 1) ≤ p2 a := p2_le (by omega)
    have h2 := p2_half (b + 1)
    rw [show b + 1 - 1 = b by omega] at h2
    have h3 := p2_pos b
    grind_linarith
  · exact hge
theorem binade_p2 (f : Format) : ((f.binade : Nat) : Rat) = p2 f.fractionBits := by
  unfold Format.binade
  rw [p2_nat]
theorem val_nonneg (m : Nat) (e : Int) : 0 ≤ (m : Rat) * p2 e := Rat.mul_nonneg Rat.natCast_nonneg (Rat.le_of_lt (p2_pos e))
theorem p2_lt_lt {a b : Int} (h : p2 a < p2 b) : a < b := by
  rcases ilg a b with hlt | hge
  · exact hlt
  · have := p2_le hge
    exfalso
    grind_linarith
/-- The greatest number. -/
def topV (f : Format) (T : Int) : Rat := ((2 * f.binade - 1 : Nat) : Rat) * p2 (T - f.fractionBits)
theorem near_val (f : Format) (T : Int) (hf : FOk f T) (neg : Bool) (m : Nat) (e : Int) (hb : (m : Rat) * p2 e ≤ topV f T) :
    ∃ m' e', f.read (f.nearest neg m e) = .number neg m' e' ∧ RndN f (m * p2 e) (m' * p2 e') := by
  have hB : 0 < f.binade := Nat.two_pow_pos _
  have hBp := binade_p2 f
  have hlow := hf.low
  have hinf := hf.inf
  have hN : 2 ≤ (T - f.fractionBits - f.leastPlace + 2).toNat := by omega
  have hlp := p2_pos f.leastPlace
  have hfb := p2_pos (-f.fractionBits)
  have zero : ∀ x : Rat, 0 ≤ x → ∀ (n : Nat) (j : Int), ((0 : Nat) : Rat) * x ≤ n * p2 j := fun x _ n j => by
    have := val_nonneg n j
    have e0 : ((0 : Nat) : Rat) = 0 := rfl
    grind_linarith
  by_cases hm : m = 0
  · subst hm
    have h1 : f.nearest neg 0 e = f.word neg 0 := by simp [Format.nearest]
    have h2 : 0 < f.infRung := by
      rw [hinf]
      exact Nat.mul_pos (by omega) hB
    refine ⟨0, f.leastPlace, ?_, ?_⟩
    · rw [h1, read_word' f neg h2, if_pos hB]
    · have e0 : ((0 : Nat) : Rat) = 0 := rfl
      refine ⟨by grind_linarith, by grind_linarith, fun n j _ _ h => ?_, fun n j _ _ h => ?_⟩
      · exact zero _ (Rat.le_of_lt hlp) n j
      · grind_linarith
  have hself : 2 ^ m.log2 ≤ m := Nat.log2_self_le hm
  have hlt : m < 2 ^ (m.log2 + 1) := (Nat.log2_lt hm).1 (Nat.lt_succ_self _)
  have hv1 : p2 (e + m.log2) ≤ (m : Rat) * p2 e := by
    rw [Int.add_comm, p2_add, p2_nat]
    exact p2_mul e (natCast_le hself)
  have hv2 : (m : Rat) * p2 e ≤ p2 (e + m.log2 + 1) := by
    have : e + (m.log2 : Int) + 1 = ((m.log2 + 1 : Nat) : Int) + e := by omega
    rw [this, p2_add, p2_nat]
    exact p2_mul e (natCast_le (Nat.le_of_lt hlt))
  have hnear : f.nearest neg m e = f.word neg (min ((max (e + m.log2 - f.fractionBits) f.leastPlace - f.leastPlace).toNat * f.binade + Toward.even.cut neg (m <<< (e - max (e + m.log2 - f.fractionBits) f.leastPlace).toNat) (max (e + m.log2 - f.fractionBits) f.leastPlace - e).toNat) f.infRung) := by
    unfold Format.nearest
    rw [if_neg hm]
  generalize hl : max (e + (m.log2 : Int) - (f.fractionBits : Int)) f.leastPlace = last at hnear
  have hlast1 : e + m.log2 - f.fractionBits ≤ last := by omega
  have hlast2 : f.leastPlace ≤ last := by omega
  have hlast3 : last = f.leastPlace ∨ (f.leastPlace < last ∧ last = e + m.log2 - f.fractionBits) := by omega
  have near := near_cut f neg m e last
  generalize hk : Toward.even.cut neg (m <<< (e - last).toNat) (last - e).toNat = k at hnear near
  generalize hV : (m : Rat) * p2 e = v at *
  have hP := p2_pos last
  have hv0 : 0 ≤ v := by rw [← hV]; exact val_nonneg _ _
  have hk2 : k ≤ 2 * f.binade := near.hi _ (by
    have h1 := p2_le (show e + (m.log2 : Int) + 1 ≤ 1 + ((f.fractionBits : Int) + last) by omega)
    rw [p2_add 1 _, p2_one, p2_add (f.fractionBits : Int) last] at h1
    rw [Rat.natCast_mul, hBp]
    have t2 : ((2 : Nat) : Rat) = 2 := rfl
    grind_linarith)
  have hBP : f.leastPlace < last → (f.binade : Rat) * p2 last ≤ v := fun h => by
    have : e + (m.log2 : Int) = f.fractionBits + last := by omega
    rw [this, p2_add] at hv1
    rw [hBp]; exact hv1
  have hkB : f.leastPlace < last → f.binade ≤ k := fun h => near.lo _ (hBP h)
  have hT : e + m.log2 ≤ T := by
    have hP2 := p2_pos (T - f.fractionBits)
    have g1 : ((2 * f.binade - 1 : Nat) : Rat) < ((2 * f.binade : Nat) : Rat) := Rat.natCast_lt_natCast.2 (by omega)
    have g2 := Rat.mul_lt_mul_of_pos_right g1 hP2
    have g3 : ((2 * f.binade : Nat) : Rat) * p2 (T - f.fractionBits) = p2 (T + 1) := by
      rw [Rat.natCast_mul, hBp, show T + 1 = 1 + ((f.fractionBits : Int) + (T - f.fractionBits)) by omega, p2_add 1 _, p2_one, p2_add (f.fractionBits : Int) (T - f.fractionBits)]
      have t2 : ((2 : Nat) : Rat) = 2 := rfl
      grind_linarith
    have g4 : p2 (e + m.log2) < p2 (T + 1) := by
      unfold topV at hb
      rw [g3] at g2
      grind_linarith
    have := p2_lt_lt g4
    omega
  have hlT : last ≤ T - f.fractionBits := by omega
  have hrung : (last - f.leastPlace).toNat * f.binade + k < f.infRung := by
    rw [hinf]
    by_cases hq : last = T - f.fractionBits
    · have hkB2 : k ≤ 2 * f.binade - 1 := near.hi _ (by
        rw [hq]
        exact hb)
      have h1 : (last - f.leastPlace).toNat + 2 = (T - f.fractionBits - f.leastPlace + 2).toNat := by omega
      rw [← h1, Nat.add_mul]
      omega
    · have h1 : (last - f.leastPlace).toNat + 3 ≤ (T - f.fractionBits - f.leastPlace + 2).toNat := by omega
      have h2 := Nat.mul_le_mul_right f.binade h1
      rw [Nat.add_mul] at h2
      omega
  rw [Nat.min_eq_left (Nat.le_of_lt hrung)] at hnear
  obtain ⟨m', e', hr, hval⟩ := read_rung f neg (q := (last - f.leastPlace).toNat) (k := k) hk2 (by
    rcases hlast3 with h | ⟨h, _⟩
    · left; omega
    · right; exact hkB h) hrung
  rw [show f.leastPlace + ((last - f.leastPlace).toNat : Int) = last by omega] at hval
  have hPle : p2 last ≤ v * p2 (-f.fractionBits) + p2 f.leastPlace := by
    rcases hlast3 with h | ⟨_, h⟩
    · rw [h]
      have := Rat.mul_nonneg hv0 (Rat.le_of_lt hfb)
      grind_linarith
    · rw [h, show e + (m.log2 : Int) - f.fractionBits = (e + m.log2) + (-f.fractionBits) by omega, p2_add]
      have := p2_mul (-f.fractionBits) hv1
      grind_linarith
  refine ⟨m', e', by rw [hnear]; exact hr, ?_⟩
  rw [hval]
  have n1 := near.err1
  have n2 := near.err2
  have small : ∀ (n : Nat) (j : Int), n ≤ 2 * f.binade → j < last → (n : Rat) * p2 j ≤ f.binade * p2 last := fun n j hn hj => by
    have h1 := p2_mul j (natCast_le hn)
    have h2 := p2_le (show j ≤ last - 1 by omega)
    rw [p2_half last]
    rw [Rat.natCast_mul] at h1
    have t2 : ((2 : Nat) : Rat) = 2 := rfl
    have h4 := Rat.mul_le_mul_of_nonneg_left h2 (show (0 : Rat) ≤ ((f.binade : Nat) : Rat) from Rat.natCast_nonneg)
    grind_linarith
  refine ⟨by grind_linarith, by grind_linarith, fun n j hn hj hc => ?_, fun n j hn hj hc => ?_⟩
  · rcases ilg j last with h | h
    · have h1 := small n j hn h
      have h2 := hBP (by omega)
      have h3 : k ≤ f.binade := near.hi _ (Rat.le_trans hc h1)
      exact Rat.le_trans (p2_mul last (natCast_le h3)) (Rat.le_trans h2 hc)
    · rw [p2_shift h] at hc ⊢
      rw [← Rat.mul_assoc, ← Rat.natCast_mul] at hc ⊢
      exact p2_mul last (natCast_le (near.hi _ hc))
  · rcases ilg j last with h | h
    · exact Rat.le_trans (small n j hn h) (p2_mul last (natCast_le (hkB (by omega))))
    · rw [p2_shift h] at hc ⊢
      rw [← Rat.mul_assoc, ← Rat.natCast_mul] at hc ⊢
      exact p2_mul last (natCast_le (near.lo _ hc))

/-! ### with signs -/
def sg (s : Bool) : Rat := if s = true then -1 else 1
def dval : Datum → Rat
  | .number s m e => sg s * ((m : Rat) * p2 e)
  | _ => 0
theorem dval_number (s : Bool) (m : Nat) (e : Int) : dval (.number s m e) = sg s * ((m : Rat) * p2 e) := rfl
theorem sg_true : sg true = -1 := rfl
theorem sg_false : sg false = 1 := rfl
theorem rnd_of {f : Format} {v r : Rat} (neg : Bool) (h : RndN f v r) (h0 : 0 ≤ v) (hr : 0 ≤ r) : Rnd f (sg neg * v) (sg neg * r) := by
  have e1 := h.err1
  have e2 := h.err2
  have hlp := p2_pos f.leastPlace
  have hfb := p2_pos (-f.fractionBits)
  have tiny := Rat.mul_nonneg h0 (Rat.le_of_lt hfb)
  have rep : ∀ (n : Int) (j : Int), 0 ≤ n → ((n.toNat : Nat) : Rat) * p2 j = (n : Rat) * p2 j := fun n j hn => by
    rw [← Rat.intCast_natCast, Int.toNat_of_nonneg hn]
  have neg0 : ∀ (n : Int) (j : Int), n ≤ 0 → (n : Rat) * p2 j ≤ 0 := fun n j hn => by
    have h1 := Rat.mul_le_mul_of_nonneg_right (Rat.intCast_nonpos.2 hn) (Rat.le_of_lt (p2_pos j))
    grind_linarith
  cases neg
  · rw [sg_false]
    refine ⟨fun M _ hM => ?_, fun c hc hv => ?_, fun c hc hv => ?_⟩
    · have h1 := Rat.mul_le_mul_of_nonneg_right (show v ≤ M by grind_linarith) (Rat.le_of_lt hfb)
      constructor <;> grind_linarith
    · obtain ⟨n, j, rfl, hn, hj⟩ := hc
      rcases ilg n 0 with hn0 | hn0
      · have h1 := neg0 n j (by omega)
        have h2 : (n : Rat) * p2 j < 0 := by
          have := Rat.mul_lt_mul_of_pos_right (Rat.intCast_neg_iff.2 hn0) (p2_pos j)
          grind_linarith
        grind_linarith
      · rw [← rep n j hn0] at hv ⊢
        have := h.hi n.toNat j (by omega) hj (by grind_linarith)
        grind_linarith
    · obtain ⟨n, j, rfl, hn, hj⟩ := hc
      rcases ilg n 0 with hn0 | hn0
      · have h1 := neg0 n j (by omega)
        grind_linarith
      · rw [← rep n j hn0] at hv ⊢
        have := h.lo n.toNat j (by omega) hj (by grind_linarith)
        grind_linarith
  · rw [sg_true]
    have flip : ∀ (n : Int) (j : Int), n ≤ 0 → (((-n).toNat : Nat) : Rat) * p2 j = -((n : Rat) * p2 j) := fun n j hn => by
      rw [rep (-n) j (by omega), Rat.intCast_neg, Rat.neg_mul]
    refine ⟨fun M hM _ => ?_, fun c hc hv => ?_, fun c hc hv => ?_⟩
    · have h1 := Rat.mul_le_mul_of_nonneg_right (show v ≤ M by grind_linarith) (Rat.le_of_lt hfb)
      constructor <;> grind_linarith
    · obtain ⟨n, j, rfl, hn, hj⟩ := hc
      rcases ilg 0 n with hn0 | hn0
      · have h1 := Rat.mul_nonneg (Rat.intCast_nonneg.2 (show 0 ≤ n by omega)) (Rat.le_of_lt (p2_pos j))
        grind_linarith
      · have h1 := flip n j hn0
        have := h.lo (-n).toNat j (by omega) hj (by rw [h1]; grind_linarith)
        rw [h1] at this
        grind_linarith
    · obtain ⟨n, j, rfl, hn, hj⟩ := hc
      rcases ilg 0 n with hn0 | hn0
      · have h1 := Rat.mul_lt_mul_of_pos_right (Rat.intCast_pos.2 hn0) (p2_pos j)
        grind_linarith
      · have h1 := flip n j hn0
        have := h.hi (-n).toNat j (by omega) hj (by rw [h1]; grind_linarith)
        rw [h1] at this
        grind_linarith
/-- Between two bounds. -/
def Bd (v M : Rat) : Prop := -M ≤ v ∧ v ≤ M
theorem write_val {f : Format} {T : Int} (hf : FOk f T) (neg : Bool) (m : Nat) (e : Int) (hb : Bd (dval (.number neg m e)) (topV f T)) :
    ∃ m' e', f.read (f.write (.number neg m e)) = .number neg m' e' ∧ Rnd f (dval (.number neg m e)) (dval (.number neg m' e')) := by
  have hle : (m : Rat) * p2 e ≤ topV f T := by
    unfold Bd at hb
    rw [dval_number] at hb
    cases neg
    · rw [sg_false] at hb; grind_linarith
    · rw [sg_true] at hb; grind_linarith
  obtain ⟨m', e', h1, h2⟩ := near_val f T hf neg m e hle
  exact ⟨m', e', h1, rnd_of neg h2 (val_nonneg _ _) (val_nonneg _ _)⟩

/-! ### the operations -/
def fval (k : FloatKind) (x : Nat) : Rat := dval (k.decode x)
def FinW (k : FloatKind) (x : Nat) : Prop := ∃ s m e, k.decode x = .number s m e
def tmax : FloatKind → Int
  | .f32 => 127
  | .f64 => 1023
theorem fok (k : FloatKind) : FOk k.format (tmax k) := by
  cases k
  · exact fok_single
  · exact fok_double
/-- What an operation gives: a finite word, the exact result rounded. -/
def Gives (k : FloatKind) (v : Rat) (r : Nat) : Prop := FinW k r ∧ Rnd k.format v (fval k r)
def topK (k : FloatKind) : Rat := topV k.format (tmax k)
theorem gives_write (k : FloatKind) {s : Bool} {m : Nat} {e : Int} {v : Rat} (hv : dval (.number s m e) = v) (hb : Bd v (topK k)) : Gives k v (k.format.write (.number s m e)) := by
  subst hv
  obtain ⟨m', e', h1, h2⟩ := write_val (fok k) s m e hb
  refine ⟨⟨s, m', e', h1⟩, ?_⟩
  have : fval k (k.format.write (.number s m e)) = dval (.number s m' e') := by
    unfold fval FloatKind.decode
    rw [h1]
  rw [this]
  exact h2

theorem signed_val (s : Bool) (m u : Nat) : ((signed s m u : Int) : Rat) = sg s * ((m : Rat) * ((2 ^ u : Nat) : Rat)) := by
  unfold signed
  rw [Nat.shiftLeft_eq]
  cases s
  · simp only [Bool.false_eq_true, if_false, sg_false, Rat.one_mul]
    rw [Rat.intCast_natCast, Rat.natCast_mul]
  · simp only [if_true, sg_true]
    rw [Rat.intCast_neg, Rat.intCast_natCast, Rat.natCast_mul]
    grind_linarith
theorem scaled (m : Nat) {a b : Int} (h : a ≤ b) : (m : Rat) * ((2 ^ (b - a).toNat : Nat) : Rat) * p2 a = (m : Rat) * p2 b := by
  rw [p2_shift h, Rat.mul_assoc]
theorem total_val (s t : Bool) (m n : Nat) (i j : Int) : ((signed s m (i - min i j).toNat + signed t n (j - min i j).toNat : Int) : Rat) * p2 (min i j) = dval (.number s m i) + dval (.number t n j) := by
  have h1 := scaled m (show min i j ≤ i by omega)
  have h2 := scaled n (show min i j ≤ j by omega)
  rw [Rat.intCast_add, signed_val, signed_val]
  simp only [dval_number]
  rw [← h1, ← h2]
  generalize ((2 ^ (i - min i j).toNat : Nat) : Rat) = A
  generalize ((2 ^ (j - min i j).toNat : Nat) : Rat) = B
  grind_linarith
theorem natAbs_val (c : Bool) (z : Int) (h : z ≠ 0 → c = decide (z < 0)) (e : Int) : dval (.number c z.natAbs e) = (z : Rat) * p2 e := by
  simp only [dval_number]
  by_cases hz : z = 0
  · subst hz
    have : ((0 : Int).natAbs : Rat) = 0 := rfl
    have h0 : ((0 : Int) : Rat) = 0 := rfl
    rw [this, h0]
    grind_linarith
  · rw [h hz]
    by_cases hn : z < 0
    · have h1 : ((z.natAbs : Nat) : Int) = -z := by omega
      have h2 : ((z.natAbs : Nat) : Rat) = -(z : Rat) := by rw [← Rat.intCast_natCast, h1, Rat.intCast_neg]
      rw [decide_eq_true hn, sg_true, h2]
      grind_linarith
    · have h1 : ((z.natAbs : Nat) : Int) = z := by omega
      have h2 : ((z.natAbs : Nat) : Rat) = (z : Rat) := by rw [← Rat.intCast_natCast, h1]
      rw [decide_eq_false hn, sg_false, h2]
      grind_linarith
theorem dval_opp (d : Datum) : dval d.opposite = - dval d := by
  cases d with
  | number s m e =>
    show sg (!s) * _ = -(sg s * _)
    cases s
    · show sg true * _ = -(sg false * _)
      rw [sg_true, sg_false]; grind_linarith
    · show sg false * _ = -(sg true * _)
      rw [sg_true, sg_false]; grind_linarith
  | _ => simp [dval, Datum.opposite]
theorem sum_gives {k : FloatKind} {s t : Bool} {m n : Nat} {i j : Int} (hb : Bd (dval (.number s m i) + dval (.number t n j)) (topK k)) :
    ∃ d, Datum.sum (.number s m i) (.number t n j) = some d ∧ Gives k (dval (.number s m i) + dval (.number t n j)) (k.format.write d) := by
  refine ⟨_, rfl, gives_write k ?_ hb⟩
  rw [← total_val]
  exact natAbs_val _ _ (fun h => by rw [if_neg h]) _
theorem fadd_val {k : FloatKind} {x y : Nat} (hx : FinW k x) (hy : FinW k y) (hb : Bd (fval k x + fval k y) (topK k)) : Gives k (fval k x + fval k y) (fbin .add k x y) := by
  obtain ⟨s, m, i, hx⟩ := hx
  obtain ⟨t, n, j, hy⟩ := hy
  unfold fval at hb ⊢
  rw [hx, hy] at hb ⊢
  obtain ⟨d, hd, hg⟩ := sum_gives hb
  have : fbin .add k x y = k.format.write d := by
    unfold fbin floatBits
    show ((((k.decode x).sum (k.decode y)).map k.format.write).getD _) = _
    rw [hx, hy, hd]
    rfl
  rw [this]
  exact hg
theorem fsub_val {k : FloatKind} {x y : Nat} (hx : FinW k x) (hy : FinW k y) (hb : Bd (fval k x - fval k y) (topK k)) : Gives k (fval k x - fval k y) (fbin .sub k x y) := by
  obtain ⟨s, m, i, hx⟩ := hx
  obtain ⟨t, n, j, hy⟩ := hy
  unfold fval at hb ⊢
  rw [hx, hy] at hb ⊢
  have ho := dval_opp (.number t n j)
  have e : dval (.number s m i) - dval (.number t n j) = dval (.number s m i) + dval (.number (!t) n j) := by
    show _ = _ + dval (Datum.opposite (.number t n j))
    rw [ho, Rat.sub_eq_add_neg]
  rw [e] at hb ⊢
  obtain ⟨d, hd, hg⟩ := sum_gives hb
  have : fbin .sub k x y = k.format.write d := by
    unfold fbin floatBits
    show ((((k.decode x).sum (k.decode y).opposite).map k.format.write).getD _) = _
    rw [hx, hy]
    show ((((Datum.number s m i).sum (.number (!t) n j)).map k.format.write).getD _) = _
    rw [hd]
    rfl
  rw [this]
  exact hg
theorem sg_xor (s t : Bool) : sg (s ^^ t) = sg s * sg t := by cases s <;> cases t <;> decide +kernel
theorem fmul_val {k : FloatKind} {x y : Nat} (hx : FinW k x) (hy : FinW k y) (hb : Bd (fval k x * fval k y) (topK k)) : Gives k (fval k x * fval k y) (fbin .mul k x y) := by
  obtain ⟨s, m, i, hx⟩ := hx
  obtain ⟨t, n, j, hy⟩ := hy
  unfold fval at hb ⊢
  rw [hx, hy] at hb ⊢
  have this : fbin .mul k x y = k.format.write (.number (s ^^ t) (m * n) (i + j)) := by
    unfold fbin floatBits
    show ((((k.decode x).product (k.decode y)).map k.format.write).getD _) = _
    rw [hx, hy]
    rfl
  rw [this]
  refine gives_write k ?_ hb
  simp only [dval_number]
  rw [sg_xor, Rat.natCast_mul, p2_add]
  grind_linarith

/-! ### quotients -/
structure Quo (f : Format) (v P : Rat) (A : Nat) : Prop where
  le : v ≤ A * P + P
  ge : (A : Rat) * P ≤ v + P
  small : v = A * P ∨ 4 * (f.binade : Rat) * P ≤ v
  hi : ∀ (c : Nat) (j : Int), c ≤ 2 * f.binade → v ≤ c * p2 j → (A : Rat) * P ≤ c * p2 j
  lo : ∀ (c : Nat) (j : Int), c ≤ 2 * f.binade → c * p2 j ≤ v → c * p2 j ≤ (A : Rat) * P
theorem quo_grid (f : Format) {D n : Nat} {v : Rat} {place : Int} (hn : 0 < n) (hv : v * (n : Rat) = 2 * (D : Rat) * p2 place) (hbig : D = 0 ∨ 2 * f.binade ≤ D / n) :
    Quo f v (p2 place) (2 * (D / n) + (D % n != 0).toNat) := by
  have hD : n * (D / n) + D % n = D := Nat.div_add_mod D n
  have hr : D % n < n := Nat.mod_lt _ hn
  have hB : 0 < f.binade := Nat.two_pow_pos _
  have hP := p2_pos place
  have hn' : (0 : Rat) < (n : Rat) := Rat.natCast_pos.2 hn
  generalize hPP : p2 place = P at *
  generalize ha : D / n = a at *
  have t2 : ((2 : Nat) : Rat) = 2 := rfl
  have t1 : ((1 : Nat) : Rat) = 1 := rfl
  by_cases h0 : D % n = 0
  · have hA : 2 * a + (D % n != 0).toNat = 2 * a := by rw [h0]; rfl
    rw [hA]
    have hv' : v = ((2 * a : Nat) : Rat) * P := by
      have e1 : (D : Rat) = (n : Rat) * (a : Rat) := by rw [← Rat.natCast_mul]; congr 1; omega
      rw [e1] at hv
      have e2 : v * (n : Rat) = (((2 * a : Nat) : Rat) * P) * (n : Rat) := by
        rw [hv, Rat.natCast_mul, t2]; grind_linarith
      have g1 : v ≤ ((2 * a : Nat) : Rat) * P := Rat.le_of_mul_le_mul_right (c := (n : Rat)) (by rw [e2]; exact Rat.le_refl) hn'
      have g2 : ((2 * a : Nat) : Rat) * P ≤ v := Rat.le_of_mul_le_mul_right (c := (n : Rat)) (by rw [e2]; exact Rat.le_refl) hn'
      exact Rat.le_antisymm g1 g2
    exact ⟨by grind_linarith, by grind_linarith, .inl hv', fun c j _ h => by rw [← hv']; exact h, fun c j _ h => by rw [← hv']; exact h⟩
  · have hA : 2 * a + (D % n != 0).toNat = 2 * a + 1 := by
      have : (D % n != 0) = true := by rw [bne_iff_ne]; exact h0
      rw [this]; rfl
    rw [hA]
    have hD0 : D ≠ 0 := fun e => by rw [e] at h0; simp at h0
    have hb : 2 * f.binade ≤ a := hbig.resolve_left hD0
    have h1 : n * a + 1 ≤ D := by omega
    have h2 : D + 1 ≤ n * (a + 1) := by rw [Nat.mul_add]; omega
    have lo1 : ((2 * a : Nat) : Rat) * P < v := by
      have : ((n * a : Nat) : Rat) < (D : Rat) := Rat.natCast_lt_natCast.2 (by omega)
      rw [Rat.natCast_mul] at this
      refine Rat.lt_of_mul_lt_mul_right (c := (n : Rat)) ?_ (Rat.le_of_lt hn')
      rw [hv, Rat.natCast_mul, t2]
      have := Rat.mul_lt_mul_of_pos_right this hP
      grind_linarith
    have hi1 : v < ((2 * a + 2 : Nat) : Rat) * P := by
      have : (D : Rat) < ((n * (a + 1) : Nat) : Rat) := Rat.natCast_lt_natCast.2 (by omega)
      rw [Rat.natCast_mul, Rat.natCast_add, t1] at this
      refine Rat.lt_of_mul_lt_mul_right (c := (n : Rat)) ?_ (Rat.le_of_lt hn')
      rw [hv, Rat.natCast_add, Rat.natCast_mul, t2]
      have := Rat.mul_lt_mul_of_pos_right this hP
      grind_linarith
    have e1 : ((2 * a + 1 : Nat) : Rat) = ((2 * a : Nat) : Rat) + 1 := by rw [Rat.natCast_add, t1]
    have e2 : ((2 * a + 2 : Nat) : Rat) = ((2 * a : Nat) : Rat) + 2 := by rw [Rat.natCast_add, t2]
    rw [e2] at hi1
    have hbP : ((2 * f.binade : Nat) : Rat) * P ≤ ((a : Nat) : Rat) * P := Rat.mul_le_mul_of_nonneg_right (natCast_le hb) (Rat.le_of_lt hP)
    have hBP : 0 < (f.binade : Rat) * P := Rat.mul_pos (Rat.natCast_pos.2 hB) hP
    rw [Rat.natCast_mul, t2] at hbP
    have e3 : ((2 * a : Nat) : Rat) = 2 * (a : Rat) := by rw [Rat.natCast_mul, t2]
    rw [e3] at lo1 hi1 e1
    have small : ∀ (c : Nat) (j : Int), c ≤ 2 * f.binade → j ≤ place → (c : Rat) * p2 j ≤ 2 * ((f.binade : Rat) * P) := fun c j hc hj => by
      have g1 := p2_mul j (natCast_le hc)
      have g2 := p2_le hj
      rw [hPP] at g2
      rw [Rat.natCast_mul, t2] at g1
      have g3 := Rat.mul_le_mul_of_nonneg_left g2 (show (0 : Rat) ≤ ((f.binade : Nat) : Rat) from Rat.natCast_nonneg)
      grind_linarith
    have big : ∀ (c : Nat) (j : Int), place < j → ∃ N : Nat, (c : Rat) * p2 j = 2 * ((N : Rat) * P) := fun c j hj => by
      refine ⟨c * 2 ^ (j - (place + 1)).toNat, ?_⟩
      rw [p2_shift (show place + 1 ≤ j by omega), p2_add, p2_one, hPP, Rat.natCast_mul]
      grind_linarith
    refine ⟨by grind_linarith, by grind_linarith, .inr (by grind_linarith), fun c j hc h => ?_, fun c j hc h => ?_⟩
    · rcases ilg place j with hj | hj
      · obtain ⟨N, hN⟩ := big c j hj
        rw [hN] at h ⊢
        have g1 : (a : Rat) < (N : Rat) := by
          refine Rat.lt_of_mul_lt_mul_right (c := P) ?_ (Rat.le_of_lt hP)
          grind_linarith
        have g2 : ((a + 1 : Nat) : Rat) ≤ (N : Rat) := natCast_le (Rat.natCast_lt_natCast.1 g1)
        have g3 := Rat.mul_le_mul_of_nonneg_right g2 (Rat.le_of_lt hP)
        rw [Rat.natCast_add, t1] at g3
        rw [e1]
        grind_linarith
      · have := small c j hc hj
        exfalso
        grind_linarith
    · rcases ilg place j with hj | hj
      · obtain ⟨N, hN⟩ := big c j hj
        rw [hN] at h ⊢
        have g1 : (N : Rat) < ((a + 1 : Nat) : Rat) := by
          refine Rat.lt_of_mul_lt_mul_right (c := P) ?_ (Rat.le_of_lt hP)
          rw [Rat.natCast_add, t1]
          grind_linarith
        have g2 : (N : Rat) ≤ (a : Rat) := natCast_le (Nat.le_of_lt_succ (Rat.natCast_lt_natCast.1 g1))
        have g3 := Rat.mul_le_mul_of_nonneg_right g2 (Rat.le_of_lt hP)
        rw [e1]
        grind_linarith
      · have := small c j hc hj
        rw [e1]
        grind_linarith
/-- What is rounded for a quotient is the quotient rounded. -/
theorem quo_rnd {f : Format} {v r : Rat} {A : Nat} {place : Int} (h0 : 0 ≤ v) (q : Quo f v (p2 place) A) (h : RndN f ((A : Rat) * p2 place) r) (hfb : (f.fractionBits : Int) ≥ 0) (neg : Bool) (hr : 0 ≤ r) : Rnd f (sg neg * v) (sg neg * r) := by
  have e1 := h.err1
  have e2 := h.err2
  have q1 := q.le
  have q2 := q.ge
  have hlp := p2_pos f.leastPlace
  have hP := p2_pos place
  have hep := p2_pos (-f.fractionBits)
  have hep1 : p2 (-f.fractionBits) ≤ 1 := by rw [← p2_zero]; exact p2_le (by omega)
  have hBe : (f.binade : Rat) * p2 (-f.fractionBits) = 1 := by
    rw [binade_p2, ← p2_add, show (f.fractionBits : Int) + -f.fractionBits = 0 by omega, p2_zero]
  generalize hE : p2 (-f.fractionBits) = E at *
  generalize hT0 : p2 f.leastPlace = t at *
  generalize hPP : p2 place = P at *
  generalize hW : (A : Rat) * P = W at *
  have hPE : P * E ≤ P := by
    have := Rat.mul_le_mul_of_nonneg_left hep1 (Rat.le_of_lt hP)
    grind_linarith
  have hvE : 0 ≤ v * E := Rat.mul_nonneg h0 (Rat.le_of_lt hep)
  have hWE : W * E ≤ v * E + P * E := by
    have := Rat.mul_le_mul_of_nonneg_right q2 (Rat.le_of_lt hep)
    grind_linarith
  have key : r ≤ v + (v * E + t) ∧ v ≤ r + (v * E + t) := by
    rcases q.small with hs | hs
    · rw [hW] at hs
      rw [← hs] at e1 e2
      constructor <;> grind_linarith
    · have h4 : 4 * P ≤ v * E := by
        have := Rat.mul_le_mul_of_nonneg_right hs (Rat.le_of_lt hep)
        have h5 : 4 * (f.binade : Rat) * P * E = 4 * P := by
          rw [show 4 * (f.binade : Rat) * P * E = 4 * P * ((f.binade : Rat) * E) by grind_linarith, hBe]
          grind_linarith
        grind_linarith
      constructor <;> grind_linarith
  have n : RndN f v r → True := fun _ => trivial
  have rep : ∀ (n : Int) (j : Int), 0 ≤ n → ((n.toNat : Nat) : Rat) * p2 j = (n : Rat) * p2 j := fun n j hn => by
    rw [← Rat.intCast_natCast, Int.toNat_of_nonneg hn]
  have neg0 : ∀ (n : Int) (j : Int), n < 0 → (n : Rat) * p2 j < 0 := fun n j hn => by
    have := Rat.mul_lt_mul_of_pos_right (Rat.intCast_neg_iff.2 hn) (p2_pos j)
    grind_linarith
  have pos0 : ∀ (n : Int) (j : Int), 0 ≤ n → 0 ≤ (n : Rat) * p2 j := fun n j hn => Rat.mul_nonneg (Rat.intCast_nonneg.2 hn) (Rat.le_of_lt (p2_pos j))
  have flip : ∀ (n : Int) (j : Int), n ≤ 0 → (((-n).toNat : Nat) : Rat) * p2 j = -((n : Rat) * p2 j) := fun n j hn => by
    rw [rep (-n) j (by omega), Rat.intCast_neg, Rat.neg_mul]
  cases neg
  · rw [sg_false]
    refine ⟨fun M _ hM => ?_, fun c hc hv => ?_, fun c hc hv => ?_⟩
    · have h1 := Rat.mul_le_mul_of_nonneg_right (show v ≤ M by grind_linarith) (Rat.le_of_lt hep)
      first | (constructor <;> grind_linarith) | (rw [hE, hT0]; constructor <;> grind_linarith)
    · obtain ⟨n, j, rfl, hn, hj⟩ := hc
      rcases ilg n 0 with hn0 | hn0
      · have := neg0 n j hn0
        grind_linarith
      · rw [← rep n j hn0] at hv ⊢
        have g1 := q.hi n.toNat j (by omega) (by grind_linarith)
        have := h.hi n.toNat j (by omega) hj (by grind_linarith)
        grind_linarith
    · obtain ⟨n, j, rfl, hn, hj⟩ := hc
      rcases ilg n 0 with hn0 | hn0
      · have := neg0 n j hn0
        grind_linarith
      · rw [← rep n j hn0] at hv ⊢
        have g1 := q.lo n.toNat j (by omega) (by grind_linarith)
        have := h.lo n.toNat j (by omega) hj (by grind_linarith)
        grind_linarith
  · rw [sg_true]
    refine ⟨fun M hM _ => ?_, fun c hc hv => ?_, fun c hc hv => ?_⟩
    · have h1 := Rat.mul_le_mul_of_nonneg_right (show v ≤ M by grind_linarith) (Rat.le_of_lt hep)
      first | (constructor <;> grind_linarith) | (rw [hE, hT0]; constructor <;> grind_linarith)
    · obtain ⟨n, j, rfl, hn, hj⟩ := hc
      rcases ilg 0 n with hn0 | hn0
      · have := pos0 n j (by omega)
        grind_linarith
      · have h1 := flip n j hn0
        have g1 := q.lo (-n).toNat j (by omega) (by rw [h1]; grind_linarith)
        have := h.lo (-n).toNat j (by omega) hj (by rw [h1] at g1 ⊢; grind_linarith)
        rw [h1] at this
        grind_linarith
    · obtain ⟨n, j, rfl, hn, hj⟩ := hc
      rcases ilg 0 n with hn0 | hn0
      · have := neg0 (-n) j (by omega)
        rw [Rat.intCast_neg, Rat.neg_mul] at this
        grind_linarith
      · have h1 := flip n j hn0
        have g1 := q.hi (-n).toNat j (by omega) (by rw [h1]; grind_linarith)
        have := h.hi (-n).toNat j (by omega) hj (by rw [h1] at g1 ⊢; grind_linarith)
        rw [h1] at this
        grind_linarith
theorem fdiv_val {k : FloatKind} {x y : Nat} (hx : FinW k x) (hy : FinW k y) (h0 : fval k y ≠ 0) {q : Rat} (hq : q * fval k y = fval k x) (hb : Bd q (topK k)) : Gives k q (fbin .quo k x y) := by
  obtain ⟨s, m, i, hx⟩ := hx
  obtain ⟨t, n, j, hy⟩ := hy
  unfold fval at h0 hq
  rw [hy] at h0 hq
  rw [hx] at hq
  rw [dval_number] at h0 hq
  rw [dval_number] at hq
  have hn : n ≠ 0 := by
    rintro rfl
    apply h0
    have e0 : ((0 : Nat) : Rat) = 0 := rfl
    rw [e0]
    grind_linarith
  have hdef : fbin .quo k x y = k.format.write (.number (s ^^ t) (2 * ((m <<< (k.format.fractionBits + 2 + n.log2 - m.log2)) / n) + ((m <<< (k.format.fractionBits + 2 + n.log2 - m.log2)) % n != 0).toNat) (i - j - (k.format.fractionBits + 2 + n.log2 - m.log2 : Nat) - 1)) := by
    unfold fbin floatBits
    show ((((k.decode x).quotient _ (k.decode y)).map k.format.write).getD _) = _
    rw [hx, hy]
    simp only [Datum.quotient, if_neg hn]
    rfl
  generalize hmore : k.format.fractionBits + 2 + n.log2 - m.log2 = more at hdef
  have hD : ((m <<< more : Nat) : Rat) = (m : Rat) * p2 more := by rw [Nat.shiftLeft_eq, Rat.natCast_mul, p2_nat]
  have hnpos : 0 < n := Nat.pos_of_ne_zero hn
  have hnr : (0 : Rat) < (n : Rat) := Rat.natCast_pos.2 hnpos
  have hpj := p2_pos j
  have ss : sg s * sg s = 1 := by cases s <;> decide +kernel
  have tt : sg t * sg t = 1 := by cases t <;> decide +kernel
  have hpi : p2 i = p2 more * (2 * p2 (i - j - more - 1)) * p2 j := by
    rw [show i = more + (1 + (i - j - more - 1)) + j by omega, p2_add, p2_add, p2_add, p2_one]
    rw [show (more : Int) + (1 + (i - j - more - 1)) + j - j - more - 1 = i - j - more - 1 by omega]
  have hv : (sg (s ^^ t) * q) * (n : Rat) = 2 * ((m <<< more : Nat) : Rat) * p2 (i - j - more - 1) := by
    rw [sg_xor, hD]
    rw [hpi] at hq
    generalize p2 (i - j - more - 1) = P at *
    generalize p2 (more : Int) = M at *
    generalize p2 j = J at *
    have g : ((sg s * sg t * q) * (n : Rat)) * J = (2 * ((m : Rat) * M) * P) * J := by
      have : (sg s * sg t * q) * (n : Rat) * J = sg s * (q * (sg t * ((n : Rat) * J))) := by grind_linarith
      rw [this, hq]
      have : sg s * (sg s * ((m : Rat) * (M * (2 * P) * J))) = (sg s * sg s) * ((m : Rat) * (M * (2 * P) * J)) := by grind_linarith
      rw [this, ss]
      grind_linarith
    refine Rat.le_antisymm (Rat.le_of_mul_le_mul_right (c := J) ?_ hpj) (Rat.le_of_mul_le_mul_right (c := J) ?_ hpj)
    · rw [g]; exact Rat.le_refl
    · rw [g]; exact Rat.le_refl
  have hv0 : 0 ≤ sg (s ^^ t) * q := by
    refine Rat.le_of_mul_le_mul_right (c := (n : Rat)) ?_ hnr
    rw [hv]
    have g1 := Rat.mul_nonneg (show (0 : Rat) ≤ ((m <<< more : Nat) : Rat) from Rat.natCast_nonneg) (Rat.le_of_lt (p2_pos (i - j - more - 1)))
    grind_linarith
  have hbig : m <<< more = 0 ∨ 2 * k.format.binade ≤ (m <<< more) / n := by
    by_cases hm : m = 0
    · left; subst hm; simp
    · right
      rw [Nat.le_div_iff_mul_le hnpos]
      have h1 : 2 ^ m.log2 ≤ m := Nat.log2_self_le hm
      have h2 : n < 2 ^ (n.log2 + 1) := (Nat.log2_lt hn).1 (Nat.lt_succ_self _)
      rw [Nat.shiftLeft_eq]
      have h3 : 2 ^ (k.format.fractionBits + 2 + n.log2) ≤ 2 ^ (m.log2 + more) := Nat.pow_le_pow_right (by omega) (by omega)
      have h4 : 2 ^ (m.log2 + more) ≤ m * 2 ^ more := by rw [Nat.pow_add]; exact Nat.mul_le_mul_right _ h1
      have h5 : 2 * k.format.binade * n ≤ 2 ^ (k.format.fractionBits + 2 + n.log2) := by
        have : 2 ^ (k.format.fractionBits + 2 + n.log2) = 2 * 2 ^ k.format.fractionBits * 2 ^ (n.log2 + 1) := by
          rw [show k.format.fractionBits + 2 + n.log2 = 1 + k.format.fractionBits + (n.log2 + 1) by omega, Nat.pow_add, Nat.pow_add]
        rw [this]
        exact Nat.mul_le_mul_left _ (Nat.le_of_lt h2)
      omega
  have Q := quo_grid k.format hnpos hv hbig
  have xx : sg (s ^^ t) * sg (s ^^ t) = 1 := by cases s <;> cases t <;> decide +kernel
  have hvT : sg (s ^^ t) * q ≤ topK k := by
    unfold Bd at hb
    cases (s ^^ t)
    · rw [sg_false]; grind_linarith
    · rw [sg_true]; grind_linarith
  have hB : 0 < k.format.binade := Nat.two_pow_pos _
  have hA := Q.hi (2 * k.format.binade - 1) (tmax k - k.format.fractionBits) (by omega) hvT
  obtain ⟨m', e', h1, h2⟩ := near_val k.format (tmax k) (fok k) (s ^^ t) _ _ hA
  have hrd := quo_rnd hv0 Q h2 (by omega) (s ^^ t) (val_nonneg _ _)
  have eq : sg (s ^^ t) * (sg (s ^^ t) * q) = q := by
    rw [← Rat.mul_assoc, xx, Rat.one_mul]
  rw [eq] at hrd
  have hdec : k.decode (fbin .quo k x y) = .number (s ^^ t) m' e' := by
    rw [hdef]
    exact h1
  refine ⟨⟨_, _, _, hdec⟩, ?_⟩
  unfold fval
  rw [hdec]
  exact hrd

/-! ### numbers that a format has -/
theorem Rep.int {f : Format} (h0 : f.leastPlace ≤ 0) (n : Int) (h : n.natAbs ≤ 2 * f.binade) : Rep f (n : Rat) := ⟨n, 0, by rw [p2_zero, Rat.mul_one], h, h0⟩
theorem Rep.p2 {f : Format} {j : Int} (h : f.leastPlace ≤ j) : Rep f (p2 j) := by
  have : 0 < f.binade := Nat.two_pow_pos _
  refine ⟨1, j, ?_, by simp; omega, h⟩
  have : ((1 : Int) : Rat) = 1 := rfl
  rw [this, Rat.one_mul]
theorem Rep.neg {f : Format} {c : Rat} (h : Rep f c) : Rep f (-c) := by
  obtain ⟨n, j, rfl, hn, hj⟩ := h
  exact ⟨-n, j, by rw [Rat.intCast_neg, Rat.neg_mul], by omega, hj⟩
theorem Rnd.exact {f : Format} {v r : Rat} (h : Rnd f v r) (hv : Rep f v) : r = v := Rat.le_antisymm (h.hi v hv Rat.le_refl) (h.lo v hv Rat.le_refl)
theorem Gives.exact {k : FloatKind} {v : Rat} {r : Nat} (h : Gives k v r) (hv : Rep k.format v) : fval k r = v := h.2.exact hv
theorem Gives.le {k : FloatKind} {v c : Rat} {r : Nat} (h : Gives k v r) (hc : Rep k.format c) (hv : v ≤ c) : fval k r ≤ c := h.2.hi c hc hv
theorem Gives.ge {k : FloatKind} {v c : Rat} {r : Nat} (h : Gives k v r) (hc : Rep k.format c) (hv : c ≤ v) : c ≤ fval k r := h.2.lo c hc hv
theorem Gives.bd {k : FloatKind} {v c : Rat} {r : Nat} (h : Gives k v r) (hc : Rep k.format c) (hv : Bd v c) : Bd (fval k r) c := ⟨h.2.lo _ hc.neg hv.1, h.2.hi _ hc hv.2⟩
theorem i2f_val {k : FloatKind} {n : Int} (hb : Bd (n : Rat) (topK k)) : Gives k (n : Rat) (i2f k n) := by
  have e : dval (.number (decide (n < 0)) n.natAbs 0) = (n : Rat) := by
    rw [natAbs_val _ n (fun _ => rfl), p2_zero, Rat.mul_one]
  exact gives_write k e hb
/-! ### order -/
theorem order_val {k : FloatKind} {x y : Nat} (hx : FinW k x) (hy : FinW k y) :
    ∃ (A B : Int) (P : Rat), 0 < P ∧ fval k x = (A : Rat) * P ∧ fval k y = (B : Rat) * P ∧ k.format.order x y = some (compare A B) := by
  obtain ⟨s, m, i, hx⟩ := hx
  obtain ⟨t, n, j, hy⟩ := hy
  have h1 := scaled m (show min i j ≤ i by omega)
  have h2 := scaled n (show min i j ≤ j by omega)
  refine ⟨signed s m (i - min i j).toNat, signed t n (j - min i j).toNat, p2 (min i j), p2_pos _, ?_, ?_, ?_⟩
  · unfold fval
    rw [hx, dval_number, signed_val, ← h1, Rat.mul_assoc, Rat.mul_assoc, Rat.mul_assoc]
  · unfold fval
    rw [hy, dval_number, signed_val, ← h2, Rat.mul_assoc, Rat.mul_assoc, Rat.mul_assoc]
  · show (k.decode x).order (k.decode y) = _
    rw [hx, hy]
    rfl
theorem mul_lt_iff {A B : Int} {P : Rat} (h : 0 < P) : (A : Rat) * P < (B : Rat) * P ↔ A < B := by
  constructor
  · intro hh
    rcases ilg A B with c | c
    · exact c
    · have := Rat.mul_le_mul_of_nonneg_right (Rat.intCast_le_intCast.2 c) (Rat.le_of_lt h)
      exfalso
      grind_linarith
  · intro hh
    exact Rat.mul_lt_mul_of_pos_right (Rat.intCast_lt_intCast.2 hh) h
theorem fcB_lss {k : FloatKind} {x y : Nat} (hx : FinW k x) (hy : FinW k y) : fcB .lss k x y = decide (fval k x < fval k y) := by
  obtain ⟨A, B, P, hP, h1, h2, h3⟩ := order_val hx hy
  rw [h1, h2]
  unfold fcB fcmp
  simp only [h3]
  rw [Bool.eq_iff_iff, decide_eq_true_eq, mul_lt_iff hP]
  rcases Int.lt_trichotomy A B with c | c | c
  · have : compare A B = .lt := Int.compare_eq_lt.2 c
    simp [this, c]
  · have : compare A B = .eq := Int.compare_eq_eq.2 c
    simp [this, c]
  · have : compare A B = .gt := Int.compare_eq_gt.2 c
    simp [this]; omega
theorem fcB_gtr {k : FloatKind} {x y : Nat} (hx : FinW k x) (hy : FinW k y) : fcB .gtr k x y = decide (fval k y < fval k x) := by
  obtain ⟨A, B, P, hP, h1, h2, h3⟩ := order_val hx hy
  rw [h1, h2]
  unfold fcB fcmp
  simp only [h3]
  rw [Bool.eq_iff_iff, decide_eq_true_eq, mul_lt_iff hP]
  rcases Int.lt_trichotomy A B with c | c | c
  · have : compare A B = .lt := Int.compare_eq_lt.2 c
    simp [this]; omega
  · have : compare A B = .eq := Int.compare_eq_eq.2 c
    simp [this, c]
  · have : compare A B = .gt := Int.compare_eq_gt.2 c
    simp [this, c]
theorem fcB_leq {k : FloatKind} {x y : Nat} (hx : FinW k x) (hy : FinW k y) : fcB .leq k x y = decide (fval k x ≤ fval k y) := by
  have h : fcB .leq k x y = !fcB .gtr k x y := by
    obtain ⟨A, B, P, hP, h1, h2, h3⟩ := order_val hx hy
    unfold fcB fcmp
    simp only [h3]
    cases compare A B <;> rfl
  rw [h, fcB_gtr hx hy, ← decide_not]
  exact decide_eq_decide.2 Rat.not_lt
theorem fcB_geq {k : FloatKind} {x y : Nat} (hx : FinW k x) (hy : FinW k y) : fcB .geq k x y = decide (fval k y ≤ fval k x) := by
  have h : fcB .geq k x y = !fcB .lss k x y := by
    obtain ⟨A, B, P, hP, h1, h2, h3⟩ := order_val hx hy
    unfold fcB fcmp
    simp only [h3]
    cases compare A B <;> rfl
  rw [h, fcB_lss hx hy, ← decide_not]
  exact decide_eq_decide.2 Rat.not_lt
/-! ### what a finite word can be -/
theorem read_num {f : Format} {T : Int} (hf : FOk f T) {w : Nat} {s : Bool} {m : Nat} {e : Int} (h : f.read w = .number s m e) : m ≤ 2 * f.binade - 1 ∧ f.leastPlace ≤ e ∧ e ≤ T - f.fractionBits := by
  have hB : 0 < f.binade := Nat.two_pow_pos _
  have hlow := hf.low
  have hinf := hf.inf
  unfold Format.read at h
  simp only at h
  split at h
  · injection h with h1 h2 h3
    subst h2 h3
    omega
  · split at h
    · injection h with h1 h2 h3
      rename_i c1 c2
      subst h2 h3
      have hm := Nat.mod_lt (w % f.signWeight) hB
      have hd : (w % f.signWeight) / f.binade < (T - f.fractionBits - f.leastPlace + 2).toNat := by
        rw [Nat.div_lt_iff_lt_mul hB, ← hinf]
        exact c2
      have h1 : 1 ≤ (w % f.signWeight) / f.binade := (Nat.le_div_iff_mul_le hB).2 (by omega)
      refine ⟨by omega, by omega, by omega⟩
    · split at h <;> cases h
theorem FinW.rep {k : FloatKind} {x : Nat} (h : FinW k x) : Rep k.format (fval k x) := by
  obtain ⟨s, m, e, hx⟩ := h
  obtain ⟨h1, h2, h3⟩ := read_num (fok k) hx
  unfold fval
  rw [hx, dval_number]
  cases s
  · exact ⟨m, e, by rw [sg_false, Rat.one_mul, Rat.intCast_natCast], by omega, h2⟩
  · refine ⟨-m, e, ?_, by omega, h2⟩
    rw [sg_true, Rat.intCast_neg, Rat.intCast_natCast]
    grind_linarith
theorem FinW.bd {k : FloatKind} {x : Nat} (h : FinW k x) : Bd (fval k x) (topK k) := by
  obtain ⟨s, m, e, hx⟩ := h
  obtain ⟨h1, h2, h3⟩ := read_num (fok k) hx
  have g1 : (m : Rat) * p2 e ≤ topK k := by
    have a := p2_mul e (natCast_le h1)
    have b := Rat.mul_le_mul_of_nonneg_left (p2_le h3) (show (0 : Rat) ≤ ((2 * k.format.binade - 1 : Nat) : Rat) from Rat.natCast_nonneg)
    exact Rat.le_trans a b
  have g0 := val_nonneg m e
  unfold fval Bd
  rw [hx, dval_number]
  cases s
  · rw [sg_false]
    constructor <;> grind_linarith
  · rw [sg_true]
    constructor <;> grind_linarith
theorem finW_of {x : Nat} (h : finF x = true) : FinW .f32 x := finF_num.1 h
theorem FinW.fin {x : Nat} (h : FinW .f32 x) : finF x = true := finF_num.2 h
theorem finW_fneg {x : Nat} (h : FinW .f32 x) : FinW .f32 (fneg .f32 x) ∧ fval .f32 (fneg .f32 x) = -fval .f32 x := by
  obtain ⟨s, m, e, hx⟩ := h
  have hn : nanB .f32 x = false := by
    unfold nanB
    rw [hx]; rfl
  have hr : FloatKind.f32.decode (fneg .f32 x) = (FloatKind.f32.decode x).opposite := read_fneg hn
  refine ⟨⟨!s, m, e, by rw [hr, hx]; rfl⟩, ?_⟩
  unfold fval
  rw [hr, dval_opp]
theorem finW_zero : FinW .f32 0 ∧ fval .f32 0 = 0 := by
  have : FloatKind.f32.decode 0 = .number false 0 (-149) := by decide +kernel
  refine ⟨⟨_, _, _, this⟩, ?_⟩
  unfold fval
  rw [this, dval_number]
  have e0 : ((0 : Nat) : Rat) = 0 := rfl
  rw [e0]
  grind_linarith
theorem least_val {x : Nat} (h : leastF x = true) : FinW .f32 x ∧ 0 ≤ fval .f32 x := by
  unfold leastF at h
  rw [Bool.and_eq_true] at h
  have hf := finW_of h.1
  refine ⟨hf, ?_⟩
  have := h.2
  rw [fcB_geq hf finW_zero.1, finW_zero.2] at this
  exact of_decide_eq_true this
/-! ### softer numbers -/
def softV (y x : Nat) : Nat := if fcB .gtr .f32 x y = true then fbin .sub .f32 x y else if fcB .lss .f32 x (fneg .f32 y) = true then fbin .add .f32 x y else 0
theorem soft_not {x y : Nat} (hx : finF x = true) (hy : leastF y = true) (h : fcB .gtr .f32 x y = true) : fcB .lss .f32 x (fneg .f32 y) = false := by
  obtain ⟨fy, y0⟩ := least_val hy
  have fx := finW_of hx
  obtain ⟨fn, vn⟩ := finW_fneg fy
  rw [fcB_gtr fx fy] at h
  rw [fcB_lss fx fn, vn]
  have := of_decide_eq_true h
  refine decide_eq_false fun hh => ?_
  grind_linarith
theorem soft_fin {x y : Nat} (hx : finF x = true) (hy : leastF y = true) : finF (softV y x) = true := by
  obtain ⟨fy, y0⟩ := least_val hy
  have fx := finW_of hx
  obtain ⟨fn, vn⟩ := finW_fneg fy
  have bx := fx.bd
  unfold Bd at bx
  unfold softV
  split
  · rename_i h
    rw [fcB_gtr fx fy] at h
    have := of_decide_eq_true h
    exact (fsub_val fx fy (by unfold Bd; constructor <;> grind_linarith)).1.fin
  · split
    · rename_i h
      rw [fcB_lss fx fn, vn] at h
      have := of_decide_eq_true h
      exact (fadd_val fx fy (by unfold Bd; constructor <;> grind_linarith)).1.fin
    · exact finF_zero
/-! ### from one format to the other -/
theorem f2f_fin {y : Nat} (h : FinW .f64 y) (hb : Bd (fval .f64 y) (topK .f32)) : ∃ r, f2f .f64 y .f32 = some r ∧ Gives .f32 (fval .f64 y) r := by
  obtain ⟨s, m, e, hy⟩ := h
  have hv : dval (.number s m e) = fval .f64 y := by unfold fval; rw [hy]
  have g := gives_write .f32 hv hb
  refine ⟨_, ?_, g⟩
  obtain ⟨s', m', e', hw⟩ := g.1
  unfold f2f
  rw [if_neg (by decide), hy]
  show (if (FloatKind.f32.decode (FloatKind.f32.format.write (.number s m e))).isInfinity = true then none else some _) = _
  rw [hw]
  rfl
theorem top32 : p2 127 ≤ topK .f32 := by
  have e : topK .f32 = ((2 * 8388608 - 1 : Nat) : Rat) * p2 104 := rfl
  rw [e, show (127 : Int) = ((23 : Nat) : Int) + 104 by decide, p2_add, p2_nat]
  exact p2_mul 104 (natCast_le (by decide))
theorem top64 : topK .f32 ≤ p2 128 := by
  have e : topK .f32 = ((2 * 8388608 - 1 : Nat) : Rat) * p2 104 := rfl
  rw [e, show (128 : Int) = ((24 : Nat) : Int) + 104 by decide, p2_add, p2_nat]
  exact p2_mul 104 (natCast_le (by decide))
theorem top_ge {j : Int} (h : j ≤ 1023) : p2 j ≤ topK .f64 := by
  have e : topK .f64 = ((2 * 4503599627370496 - 1 : Nat) : Rat) * p2 971 := rfl
  refine Rat.le_trans (p2_le h) ?_
  rw [e, show (1023 : Int) = ((52 : Nat) : Int) + 971 by decide, p2_add, p2_nat]
  exact p2_mul 971 (natCast_le (by decide))
theorem f64_fin {x : Nat} (h : FinW .f32 x) : FinW .f64 (f64 x) ∧ fval .f64 (f64 x) = fval .f32 x := by
  have hb := h.bd
  obtain ⟨s, m, e, hx⟩ := h
  obtain ⟨h1, h2, h3⟩ := read_single hx
  have hv : dval (.number s m e) = fval .f32 x := by unfold fval; rw [hx]
  have hb2 : Bd (fval .f32 x) (topK .f64) := by
    have a := top64
    have b := top_ge (show (128 : Int) ≤ 1023 by decide)
    unfold Bd at hb ⊢
    constructor <;> grind_linarith
  have g := gives_write .f64 hv hb2
  have hrep : Rep FloatKind.f64.format (fval .f32 x) := by
    rw [← hv, dval_number]
    have hB : 2 * FloatKind.f64.format.binade = 9007199254740992 := by decide
    have hL : FloatKind.f64.format.leastPlace = -1074 := by decide
    cases s
    · exact ⟨m, e, by rw [sg_false, Rat.one_mul, Rat.intCast_natCast], by omega, by omega⟩
    · refine ⟨-m, e, ?_, by omega, by omega⟩
      rw [sg_true, Rat.intCast_neg, Rat.intCast_natCast]
      grind_linarith
  have he : f64 x = FloatKind.f64.format.write (.number s m e) := by
    obtain ⟨s', m', e', hw⟩ := g.1
    have : f2f .f32 x .f64 = some (FloatKind.f64.format.write (.number s m e)) := by
      unfold f2f
      rw [if_neg (by decide), hx]
      show (if (FloatKind.f64.decode (FloatKind.f64.format.write (.number s m e))).isInfinity = true then none else some _) = _
      rw [hw]
      rfl
    rw [f2f_wide] at this
    exact Option.some.inj this
  rw [he]
  exact ⟨g.1, g.exact hrep⟩
/-! ### square roots -/
theorem rootFrom_sq (n : Nat) : ∀ todo root, root * root ≤ n → Datum.rootFrom n todo root * Datum.rootFrom n todo root ≤ n
  | 0, root, h => h
  | todo + 1, root, h => by
    show Datum.rootFrom n todo (if (root + 1 <<< todo) * (root + 1 <<< todo) ≤ n then root + 1 <<< todo else root) * Datum.rootFrom n todo (if (root + 1 <<< todo) * (root + 1 <<< todo) ≤ n then root + 1 <<< todo else root) ≤ n
    split
    · rename_i h'
      exact rootFrom_sq n todo _ h'
    · exact rootFrom_sq n todo _ h
theorem rootFrom_ge (n : Nat) : ∀ todo root, root ≤ Datum.rootFrom n todo root
  | 0, root => Nat.le_refl _
  | todo + 1, root => by
    show root ≤ Datum.rootFrom n todo (if (root + 1 <<< todo) * (root + 1 <<< todo) ≤ n then root + 1 <<< todo else root)
    split
    · exact Nat.le_trans (Nat.le_add_right _ _) (rootFrom_ge n todo _)
    · exact rootFrom_ge n todo _
theorem rootFrom_pos (n : Nat) (hn : 0 < n) : ∀ todo root, 0 < todo → root = 0 → 0 < Datum.rootFrom n todo root
  | 0, _, h, _ => by omega
  | todo + 1, root, _, h0 => by
    subst h0
    show 0 < Datum.rootFrom n todo (if (0 + 1 <<< todo) * (0 + 1 <<< todo) ≤ n then 0 + 1 <<< todo else 0)
    split
    · have := rootFrom_ge n todo (0 + 1 <<< todo)
      have h2 : 0 < 1 <<< todo := by rw [Nat.one_shiftLeft]; exact Nat.two_pow_pos _
      omega
    · rename_i hc
      rcases Nat.eq_zero_or_pos todo with h | h
      · subst h
        exfalso
        apply hc
        simp only [Nat.one_shiftLeft, Nat.pow_zero, Nat.zero_add, Nat.mul_one]
        exact hn
      · exact rootFrom_pos n hn todo 0 h rfl
theorem sq_le {a b : Rat} (ha : 0 ≤ a) (hb : 0 < b) (h : a * a ≤ b * b) : a ≤ b := by
  rcases (Rat.le_total : a ≤ b ∨ b ≤ a) with c | c
  · exact c
  · have h1 := Rat.mul_le_mul_of_nonneg_right c (Rat.le_of_lt hb)
    have h2 := Rat.mul_le_mul_of_nonneg_left c ha
    have h3 : a * b ≤ b * b := by grind_linarith
    exact Rat.le_of_mul_le_mul_right h3 hb
theorem root_bound {m : Nat} {i : Int} {more : Nat} (hm : m ≠ 0) (he : (i - more) % 2 = 0) (hb : (m : Rat) * p2 i ≤ p2 128) :
    ((2 * Datum.rootFrom (m <<< more) ((m <<< more).log2 / 2 + 1) 0 + (Datum.rootFrom (m <<< more) ((m <<< more).log2 / 2 + 1) 0 * Datum.rootFrom (m <<< more) ((m <<< more).log2 / 2 + 1) 0 != m <<< more).toNat : Nat) : Rat) * p2 ((i - more) / 2 - 1) ≤ p2 65 := by
  have hn0 : 0 < m <<< more := by rw [Nat.shiftLeft_eq]; exact Nat.mul_pos (by omega) (Nat.two_pow_pos _)
  have hsq := rootFrom_sq (m <<< more) ((m <<< more).log2 / 2 + 1) 0 (by omega)
  have hpos := rootFrom_pos (m <<< more) hn0 ((m <<< more).log2 / 2 + 1) 0 (by omega) rfl
  have hn : ((m <<< more : Nat) : Rat) = (m : Rat) * p2 more := by rw [Nat.shiftLeft_eq, Rat.natCast_mul, p2_nat]
  generalize m <<< more = n at *
  generalize Datum.rootFrom n (n.log2 / 2 + 1) 0 = w at *
  obtain ⟨h, hh⟩ : ∃ h, h = (i - more) / 2 := ⟨_, rfl⟩
  have hi : i = more + (h + h) := by omega
  rw [← hh]
  have hP := p2_pos h
  have h1 : ((w * w : Nat) : Rat) ≤ (n : Rat) := natCast_le hsq
  rw [Rat.natCast_mul] at h1
  have h2 : (n : Rat) * (p2 h * p2 h) ≤ p2 64 * p2 64 := by
    rw [hn, ← p2_add h h, Rat.mul_assoc, ← p2_add, ← hi, ← p2_add]
    exact hb
  have h3 : ((w : Rat) * p2 h) * ((w : Rat) * p2 h) ≤ p2 64 * p2 64 := by
    have := Rat.mul_le_mul_of_nonneg_right h1 (Rat.le_of_lt (Rat.mul_pos hP hP))
    grind_linarith
  have h4 := sq_le (Rat.mul_nonneg Rat.natCast_nonneg (Rat.le_of_lt hP)) (p2_pos 64) h3
  have h5 : 2 * w + (w * w != n).toNat ≤ 4 * w := by
    have : (w * w != n).toNat ≤ 1 := Bool.toNat_le _
    omega
  have h6 := p2_mul (h - 1) (natCast_le h5)
  rw [Rat.natCast_mul 4 w] at h6
  have t4 : ((4 : Nat) : Rat) = 4 := rfl
  rw [t4] at h6
  have h7 := p2_half h
  have h8 : p2 65 = 2 * p2 64 := p2_half 65
  rw [h7] at h4
  rw [h8]
  grind_linarith
theorem narrow_nan : f2f .f64 (qnan .f64) .f32 = some (qnan .f32) := by decide +kernel
theorem sqrt_narrow (x : Nat) : ∃ r, f2f .f64 (sqrtF (f64 x)) .f32 = some r := by
  have nan : ∀ w, sqrtF w = qnan .f64 → ∃ r, f2f .f64 (sqrtF w) .f32 = some r := fun w h => by rw [h]; exact ⟨_, narrow_nan⟩
  cases hx : FloatKind.f32.decode x with
  | nan a b =>
    have : f64 x = qnan .f64 := by
      have h2 : f2f .f32 x .f64 = some (qnan .f64) := by
        unfold f2f
        rw [if_neg (by decide), hx]
      rw [f2f_wide] at h2
      exact Option.some.inj h2
    rw [this]
    exact nan _ (by decide +kernel)
  | infinity s =>
    have : f64 x = FloatKind.f64.encode (.infinity s) := by
      have h2 : f2f .f32 x .f64 = some (FloatKind.f64.encode (.infinity s)) := by
        unfold f2f
        rw [if_neg (by decide), hx]
      rw [f2f_wide] at h2
      exact Option.some.inj h2
    rw [this]
    cases s
    · exact ⟨FloatKind.f32.encode (.infinity false), by decide +kernel⟩
    · exact nan _ (by decide +kernel)
  | number s0 m0 e0 =>
    obtain ⟨hw, hv⟩ := f64_fin (x := x) ⟨_, _, _, hx⟩
    have hb0 := (show FinW .f32 x from ⟨_, _, _, hx⟩).bd
    have ht := top64
    rw [← hv] at hb0
    generalize f64 x = w at *
    obtain ⟨s, m, i, hwd⟩ := hw
    have hdef : sqrtF w = (((Datum.number s m i).root (FloatKind.f64.format.fractionBits + 2)).map FloatKind.f64.format.write).getD (qnan .f64) := by
      unfold sqrtF
      show (((FloatKind.f64.decode w).root _).map _).getD _ = _
      rw [hwd]
    by_cases hm : m = 0
    · subst hm
      have h1 : sqrtF w = FloatKind.f64.format.write (.number s 0 i) := hdef
      have e0 : ((0 : Nat) : Rat) = 0 := rfl
      have hz : dval (.number s 0 i) = 0 := by rw [dval_number, e0]; grind_linarith
      have h64 := p2_pos 0
      have ht64 := top_ge (show (0 : Int) ≤ 1023 by decide)
      have g := gives_write .f64 hz (by unfold Bd; constructor <;> grind_linarith)
      have hrep : Rep FloatKind.f64.format 0 := Rep.int (by decide) 0 (by decide)
      have hval := g.exact hrep
      rw [h1]
      have h127 := p2_pos 127
      have ht32 := top32
      obtain ⟨r, hr, _⟩ := f2f_fin g.1 (by rw [hval]; unfold Bd; constructor <;> grind_linarith)
      exact ⟨r, hr⟩
    · cases s
      · obtain ⟨more, hmore⟩ : ∃ more : Nat, more = (2 * (FloatKind.f64.format.fractionBits + 2) - m.log2) + ((i - (2 * (FloatKind.f64.format.fractionBits + 2) - m.log2 : Nat)) % 2).toNat := ⟨_, rfl⟩
        have h1 : sqrtF w = FloatKind.f64.format.write (.number false (2 * Datum.rootFrom (m <<< more) ((m <<< more).log2 / 2 + 1) 0 + (Datum.rootFrom (m <<< more) ((m <<< more).log2 / 2 + 1) 0 * Datum.rootFrom (m <<< more) ((m <<< more).log2 / 2 + 1) 0 != m <<< more).toNat) ((i - more) / 2 - 1)) := by
          rw [hdef, hmore]
          unfold Datum.root
          simp only [hm, if_false, Bool.false_eq_true]
          rfl
        have heven : (i - more) % 2 = 0 := by
          generalize 2 * (FloatKind.f64.format.fractionBits + 2) - m.log2 = q at hmore
          omega
        have hval : fval .f64 w = (m : Rat) * p2 i := by unfold fval; rw [hwd, dval_number, sg_false, Rat.one_mul]
        have hB := root_bound (more := more) hm heven (by rw [← hval]; exact Rat.le_trans hb0.2 ht)
        have hA0 := val_nonneg (2 * Datum.rootFrom (m <<< more) ((m <<< more).log2 / 2 + 1) 0 + (Datum.rootFrom (m <<< more) ((m <<< more).log2 / 2 + 1) 0 * Datum.rootFrom (m <<< more) ((m <<< more).log2 / 2 + 1) 0 != m <<< more).toNat) ((i - more) / 2 - 1)
        rw [h1]
        generalize (2 * Datum.rootFrom (m <<< more) ((m <<< more).log2 / 2 + 1) 0 + (Datum.rootFrom (m <<< more) ((m <<< more).log2 / 2 + 1) 0 * Datum.rootFrom (m <<< more) ((m <<< more).log2 / 2 + 1) 0 != m <<< more).toNat) = A at *
        generalize (i - more) / 2 - 1 = pl at *
        have hz : dval (.number false A pl) = (A : Rat) * p2 pl := by rw [dval_number, sg_false, Rat.one_mul]
        have ht64 := top_ge (show (65 : Int) ≤ 1023 by decide)
        have g := gives_write .f64 hz (by unfold Bd; constructor <;> grind_linarith)
        have h65 : Rep FloatKind.f64.format (p2 65) := Rep.p2 (by decide)
        have h0 : Rep FloatKind.f64.format 0 := Rep.int (by decide) 0 (by decide)
        have g1 := g.le h65 hB
        have g2 := g.ge h0 hA0
        have ht32 := top32
        have h127 := p2_le (show (65 : Int) ≤ 127 by decide)
        have h127' := p2_pos 127
        obtain ⟨r, hr, _⟩ := f2f_fin g.1 (by unfold Bd; constructor <;> grind_linarith)
        exact ⟨r, hr⟩
      · refine nan _ ?_
        rw [hdef]
        unfold Datum.root
        simp only [hm, if_false, if_true]
        rfl
end Go.Gx
