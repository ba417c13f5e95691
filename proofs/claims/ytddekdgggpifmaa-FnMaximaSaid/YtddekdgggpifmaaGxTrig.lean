/-
  Exponentials, sines and whole parts: what is computed, and within which bounds.
-/
import Derived.Test.YtddekdgggpifmaaGxLog
namespace Go.Gx
set_option linter.unusedSimpArgs false
set_option linter.unusedVariables false
open Ieee
/-! ### between two bounds, in doubles -/
def In (r : Nat) (a b : Rat) : Prop := FinW .f64 r ∧ a ≤ fval .f64 r ∧ fval .f64 r ≤ b
theorem In_of {v a b : Rat} {r : Nat} (ha : Rep FloatKind.f64.format a) (hb : Rep FloatKind.f64.format b) (h1 : a ≤ v) (h2 : v ≤ b) (h3 : -(1024 : Rat) ≤ a) (h4 : b ≤ 1024) (g : Bd v (topK .f64) → Gives .f64 v r) : In r a b := by
  have ht := top_nat (show 1024 ≤ 1048576 by decide)
  have e : (((1024 : Nat) : Int) : Rat) = 1024 := rfl
  rw [e] at ht
  have g' := g (by unfold Bd; constructor <;> grind_linarith)
  exact ⟨g'.1, g'.ge ha h1, g'.le hb h2⟩
theorem repQ (n : Int) (j : Int) (h : n.natAbs ≤ 1024) (h2 : -1000 ≤ j) {c : Rat} (e : c = (n : Rat) * p2 j) : Rep FloatKind.f64.format c := by
  have hB : 2 * FloatKind.f64.format.binade = 9007199254740992 := by decide
  have hL : FloatKind.f64.format.leastPlace = -1074 := by decide
  exact ⟨n, j, e, by omega, by omega⟩
theorem r0 : Rep FloatKind.f64.format 0 := repQ 0 0 (by decide) (by decide) (by unfold p2; decide +kernel)
theorem r1 : Rep FloatKind.f64.format 1 := repQ 1 0 (by decide) (by decide) (by unfold p2; decide +kernel)
theorem rm1 : Rep FloatKind.f64.format (-1) := repQ (-1) 0 (by decide) (by decide) (by unfold p2; decide +kernel)
theorem rh : Rep FloatKind.f64.format (1 / 2) := repQ 1 (-1) (by decide) (by decide) (by unfold p2; decide +kernel)
theorem rq : Rep FloatKind.f64.format (1 / 4) := repQ 1 (-2) (by decide) (by decide) (by unfold p2; decide +kernel)
theorem r2 : Rep FloatKind.f64.format 2 := repQ 2 0 (by decide) (by decide) (by unfold p2; decide +kernel)
theorem r4 : Rep FloatKind.f64.format 4 := repQ 4 0 (by decide) (by decide) (by unfold p2; decide +kernel)
theorem half_val64 : FinW .f64 4602678819172646912 ∧ fval .f64 4602678819172646912 = 1 / 2 := by
  have h : FloatKind.f64.decode 4602678819172646912 = .number false 4503599627370496 (-53) := by decide +kernel
  refine ⟨⟨_, _, _, h⟩, ?_⟩
  unfold fval
  rw [h]
  show sg false * _ = _
  unfold p2
  decide +kernel
theorem quart_val64 : FinW .f64 4598175219545276416 ∧ fval .f64 4598175219545276416 = 1 / 4 := by
  have h : FloatKind.f64.decode 4598175219545276416 = .number false 4503599627370496 (-54) := by decide +kernel
  refine ⟨⟨_, _, _, h⟩, ?_⟩
  unfold fval
  rw [h]
  show sg false * _ = _
  unfold p2
  decide +kernel
theorem c256 : (4643211215818981376 : Nat) = i2f .f64 256 := by decide +kernel
theorem c200 : (4641240890982006784 : Nat) = i2f .f64 200 := by decide +kernel
theorem cm200 : (13864612927836782592 : Nat) = i2f .f64 (-200) := by decide +kernel
/-! ### exponentials -/
def expP (t : Nat) : Nat → Nat
  | 0 => 4607182418800017408
  | j + 1 => fbin .add .f64 4607182418800017408 (fbin .quo .f64 (fbin .mul .f64 t (expP t j)) (i2f .f64 (12 - (j : Int))))
def expQ (p : Nat) : Nat → Nat
  | 0 => p
  | j + 1 => fbin .mul .f64 (expQ p j) (expQ p j)
def expV (y : Nat) : Nat := expQ (expP (fbin .quo .f64 y 4643211215818981376) 12) 8
/-- The exponential of numbers that aren't above zero. -/
def expW (y : Nat) : Nat := if fcB .lss .f64 y 13864612927836782592 = true then 0 else expV y
theorem mul_neg_unit {t p : Rat} (h1 : -1 ≤ t) (h2 : t ≤ 0) (h3 : 0 ≤ p) (h4 : p ≤ 1) : -1 ≤ t * p ∧ t * p ≤ 0 := by
  have a := Rat.mul_nonneg (show 0 ≤ -t by grind_linarith) h3
  have b := Rat.mul_nonneg (show 0 ≤ -t by grind_linarith) (show 0 ≤ 1 - p by grind_linarith)
  constructor <;> grind_linarith
theorem expP_in {t : Nat} (ht : In t (-1) 0) : ∀ j : Nat, j ≤ 12 → In (expP t j) 0 1
  | 0, _ => ⟨one_val.1, by show (0 : Rat) ≤ fval .f64 4607182418800017408; rw [one_val.2]; decide, by show fval .f64 4607182418800017408 ≤ (1 : Rat); rw [one_val.2]; exact Rat.le_refl⟩
  | j + 1, hj => by
    obtain ⟨f, p0, p1⟩ := expP_in ht j (by omega)
    obtain ⟨tf, t0, t1⟩ := ht
    obtain ⟨a, b⟩ := mul_neg_unit t0 t1 p0 p1
    obtain ⟨mf, m0, m1⟩ := In_of rm1 r0 a b (by decide) (by decide) (fmul_val tf f)
    obtain ⟨kf, kv⟩ := i2f_fval (z := 12 - (j : Int)) (by omega)
    have hk : (1 : Rat) ≤ fval .f64 (i2f .f64 (12 - (j : Int))) := by
      rw [kv]
      have : ((1 : Int) : Rat) ≤ ((12 - (j : Int) : Int) : Rat) := Rat.intCast_le_intCast.2 (by omega)
      exact this
    have hk0 : fval .f64 (i2f .f64 (12 - (j : Int))) ≠ 0 := by intro h; rw [h] at hk; grind_linarith
    have hq := Rat.div_mul_cancel (a := fval .f64 (fbin .mul .f64 t (expP t j))) hk0
    have gq := fun hb => fdiv_val (q := fval .f64 (fbin .mul .f64 t (expP t j)) / fval .f64 (i2f .f64 (12 - (j : Int)))) mf kf hk0 hq hb
    generalize fval .f64 (fbin .mul .f64 t (expP t j)) / fval .f64 (i2f .f64 (12 - (j : Int))) = q at hq gq
    have hkp : 0 < fval .f64 (i2f .f64 (12 - (j : Int))) := by grind_linarith
    have q0 : q ≤ 0 := by
      refine Rat.le_of_mul_le_mul_right (c := fval .f64 (i2f .f64 (12 - (j : Int)))) ?_ hkp
      rw [hq]; grind_linarith
    have q1 : -1 ≤ q := by
      refine Rat.le_of_mul_le_mul_right (c := fval .f64 (i2f .f64 (12 - (j : Int)))) ?_ hkp
      rw [hq]; grind_linarith
    obtain ⟨qf, q2, q3⟩ := In_of rm1 r0 q1 q0 (by decide) (by decide) gq
    exact In_of r0 r1 (by rw [one_val.2]; grind_linarith) (by rw [one_val.2]; grind_linarith) (by decide) (by decide) (fadd_val one_val.1 qf)
theorem mul_unit {p q : Rat} (h1 : 0 ≤ p) (h2 : p ≤ 1) (h3 : 0 ≤ q) (h4 : q ≤ 1) : 0 ≤ p * q ∧ p * q ≤ 1 := by
  have a := Rat.mul_nonneg h1 h3
  have b := Rat.mul_nonneg h1 (show 0 ≤ 1 - q by grind_linarith)
  constructor <;> grind_linarith
theorem expQ_in {p : Nat} (h : In p 0 1) : ∀ j, In (expQ p j) 0 1
  | 0 => h
  | j + 1 => by
    obtain ⟨f, a, b⟩ := expQ_in h j
    obtain ⟨c, d⟩ := mul_unit a b a b
    exact In_of r0 r1 c d (by decide) (by decide) (fmul_val f f)
theorem expW_in {y : Nat} (hy : FinW .f64 y) (h0 : fval .f64 y ≤ 0) : In (expW y) 0 1 := by
  unfold expW
  cases h : fcB .lss .f64 y 13864612927836782592
  · rw [if_neg (by simp)]
    have hm : FinW .f64 13864612927836782592 ∧ fval .f64 13864612927836782592 = ((-200 : Int) : Rat) := by rw [cm200]; exact i2f_fval (by decide)
    rw [fcB_lss hy hm.1, hm.2] at h
    have h1 : -(200 : Rat) ≤ fval .f64 y := by
      have := of_decide_eq_false h
      have e : ((-200 : Int) : Rat) = -200 := rfl
      rw [e] at this
      grind_linarith
    have hk : FinW .f64 4643211215818981376 ∧ fval .f64 4643211215818981376 = ((256 : Int) : Rat) := by rw [c256]; exact i2f_fval (by decide)
    have e : ((256 : Int) : Rat) = 256 := rfl
    rw [e] at hk
    have hk0 : fval .f64 4643211215818981376 ≠ 0 := by rw [hk.2]; decide
    have hq := Rat.div_mul_cancel (a := fval .f64 y) hk0
    have gq := fun hb => fdiv_val (q := fval .f64 y / fval .f64 4643211215818981376) hy hk.1 hk0 hq hb
    generalize fval .f64 y / fval .f64 4643211215818981376 = q at hq gq
    rw [hk.2] at hq
    exact expQ_in (expP_in (In_of rm1 r0 (by grind_linarith) (by grind_linarith) (by decide) (by decide) gq) 12 (by decide)) 8
  · rw [if_pos rfl]
    obtain ⟨f, b⟩ := zero64
    have e : (((0 : Nat) : Int) : Rat) = 0 := rfl
    unfold Bd at b
    rw [e] at b
    exact ⟨f, by grind_linarith, by grind_linarith⟩
/-! ### the other sign, in doubles -/
theorem read_fneg64 {x : Nat} (h : nanB .f64 x = false) : double.read (fneg .f64 x) = (double.read x).opposite := by
  have hc : fneg .f64 x = Op.negFloat .f64 x := canon_of_num (by rw [nanB_neg]; exact h)
  have sw : double.signWeight = 9223372036854775808 := by decide
  rw [hc]
  have e1 : (Op.negFloat .f64 x) % 9223372036854775808 = x % 9223372036854775808 := xor_mod x 9223372036854775808 63 (by decide)
  have e2 : ((Op.negFloat .f64 x) / 9223372036854775808 % 2 == 1) = !(x / 9223372036854775808 % 2 == 1) := by
    have e3 : (Op.negFloat .f64 x) / 9223372036854775808 = (x / 9223372036854775808) ^^^ 1 := by
      show (x ^^^ 9223372036854775808) / 9223372036854775808 = _
      have : ∀ a b : Nat, (a ^^^ b) / 2 ^ 63 = (a / 2 ^ 63) ^^^ (b / 2 ^ 63) := fun a b => by
        simp only [← Nat.shiftRight_eq_div_pow, Nat.shiftRight_xor_distrib]
      exact this x 9223372036854775808
    rw [e3]
    have : ((x / 9223372036854775808) ^^^ 1) % 2 = (x / 9223372036854775808 % 2) ^^^ 1 := by
      have := Nat.xor_mod_two_pow (a := x / 9223372036854775808) (b := 1) (n := 1)
      simpa using this
    rw [this]
    have h2 : x / 9223372036854775808 % 2 = 0 ∨ x / 9223372036854775808 % 2 = 1 := by omega
    rcases h2 with h2 | h2 <;> rw [h2] <;> rfl
  unfold Format.read
  rw [sw]
  simp only [e1, e2]
  split
  · rfl
  · split
    · rfl
    · split
      · rfl
      · rfl
theorem finW_fneg64 {x : Nat} (h : FinW .f64 x) : FinW .f64 (fneg .f64 x) ∧ fval .f64 (fneg .f64 x) = -fval .f64 x := by
  obtain ⟨s, m, e, hx⟩ := h
  have hn : nanB .f64 x = false := by
    unfold nanB
    rw [hx]; rfl
  have hr : FloatKind.f64.decode (fneg .f64 x) = (FloatKind.f64.decode x).opposite := read_fneg64 hn
  refine ⟨⟨!s, m, e, by rw [hr, hx]; rfl⟩, ?_⟩
  unfold fval
  rw [hr, dval_opp]
/-! ### whole parts -/
theorem zero_cut (neg : Bool) (n d : Nat) : Toward.zero.cut neg n d * 2 ^ d ≤ n ∧ n < (Toward.zero.cut neg n d + 1) * 2 ^ d := by
  have hcut : Toward.zero.cut neg n d = n / 1 <<< min d (n.log2 + 2) := by
    unfold Toward.cut
    simp
  have hlog : n < 2 ^ (n.log2 + 1) := by
    by_cases h : n = 0
    · subst h; decide
    · exact (Nat.log2_lt h).1 (Nat.lt_succ_self _)
  rw [hcut]
  by_cases hd : d ≤ n.log2 + 2
  · rw [Nat.min_eq_left hd, Nat.one_shiftLeft]
    have h1 := Nat.div_add_mod n (2 ^ d)
    have h2 := Nat.mod_lt n (Nat.two_pow_pos d)
    rw [Nat.add_mul, Nat.mul_comm (n / 2 ^ d)]
    omega
  · rw [Nat.min_eq_right (by omega), Nat.one_shiftLeft]
    have h4 : 2 ^ (n.log2 + 1) ≤ 2 ^ (n.log2 + 2) := Nat.pow_le_pow_right (by omega) (by omega)
    have hbig : 2 ^ (n.log2 + 2) ≤ 2 ^ d := Nat.pow_le_pow_right (by omega) (by omega)
    rw [Nat.div_eq_of_lt (by omega)]
    omega
theorem whole_val (m : Nat) (e : Int) (neg : Bool) : ((Toward.zero.cut neg (m <<< e.toNat) (-e).toNat : Nat) : Rat) ≤ (m : Rat) * p2 e ∧ (m : Rat) * p2 e < ((Toward.zero.cut neg (m <<< e.toNat) (-e).toNat : Nat) : Rat) + 1 := by
  obtain ⟨h1, h2⟩ := zero_cut neg (m <<< e.toNat) (-e).toNat
  generalize Toward.zero.cut neg (m <<< e.toNat) (-e).toNat = k at *
  have key : ((m <<< e.toNat : Nat) : Rat) = (m : Rat) * p2 e * ((2 ^ (-e).toNat : Nat) : Rat) := by
    rw [Nat.shiftLeft_eq, Rat.natCast_mul, ← p2_nat, ← p2_nat, Rat.mul_assoc, ← p2_add]
    congr 2
    omega
  have hD : (0 : Rat) < ((2 ^ (-e).toNat : Nat) : Rat) := Rat.natCast_pos.2 (Nat.two_pow_pos _)
  have c1 := natCast_le h1
  have c2 : ((m <<< e.toNat : Nat) : Rat) < (((k + 1) * 2 ^ (-e).toNat : Nat) : Rat) := Rat.natCast_lt_natCast.2 h2
  rw [Rat.natCast_mul, key] at c1
  rw [Rat.natCast_mul, Rat.natCast_add, key] at c2
  exact ⟨Rat.le_of_mul_le_mul_right c1 hD, Rat.lt_of_mul_lt_mul_right c2 (Rat.le_of_lt hD)⟩
theorem f2i_ok {x : Nat} (hx : FinW .f64 x) (h1 : -(1024 : Rat) ≤ fval .f64 x) (h2 : fval .f64 x ≤ 1024) :
    ∃ n : Int, f2i .f64 x .i64 = some n ∧ -1024 ≤ n ∧ n ≤ 1024 ∧ -1 < fval .f64 x - (n : Rat) ∧ fval .f64 x - (n : Rat) < 1 ∧ (0 ≤ fval .f64 x → 0 ≤ n) := by
  obtain ⟨s, m, e, hd⟩ := hx
  obtain ⟨w1, w2⟩ := whole_val m e s
  have hv : fval .f64 x = sg s * ((m : Rat) * p2 e) := by unfold fval; rw [hd, dval_number]
  have hi : (FloatKind.f64.decode x).toInt .zero = some (signed s (Toward.zero.cut s (m <<< e.toNat) (-e).toNat) 0) := by
    rw [hd]; rfl
  have a0 := val_nonneg m e
  rw [hv] at h1 h2 ⊢
  generalize Toward.zero.cut s (m <<< e.toNat) (-e).toNat = k at *
  generalize (m : Rat) * p2 e = a at *
  have hk : k ≤ 1024 := by
    have : (k : Rat) ≤ ((1024 : Nat) : Rat) := by
      have e1 : ((1024 : Nat) : Rat) = 1024 := rfl
      rw [e1]
      cases s
      · rw [sg_false] at h2; grind_linarith
      · rw [sg_true] at h1; grind_linarith
    exact of_natCast_le this
  have hs : signed s k 0 = if s = true then -(k : Int) else (k : Int) := by
    unfold signed
    simp
  have hf : f2i .f64 x .i64 = some (signed s k 0) := by
    unfold f2i floatToIntVal
    rw [hi]
    have hmin : IntKind.min .i64 = -9223372036854775808 := by decide
    have hmax : IntKind.max .i64 = 9223372036854775807 := by decide
    simp only
    rw [if_pos]
    rw [hs, hmin, hmax]
    split <;> omega
  refine ⟨_, hf, ?_, ?_, ?_, ?_, ?_⟩
  · rw [hs]; split <;> omega
  · rw [hs]; split <;> omega
  · rw [hs]
    cases s
    · rw [sg_false, if_neg (by simp), Rat.intCast_natCast]; grind_linarith
    · rw [sg_true, if_pos rfl, Rat.intCast_neg, Rat.intCast_natCast]; grind_linarith
  · rw [hs]
    cases s
    · rw [sg_false, if_neg (by simp), Rat.intCast_natCast]; grind_linarith
    · rw [sg_true, if_pos rfl, Rat.intCast_neg, Rat.intCast_natCast]; grind_linarith
  · intro h
    rw [hs]
    cases s
    · rw [if_neg (by simp)]; omega
    · rw [sg_true] at h
      have h3 : (k : Rat) ≤ ((0 : Nat) : Rat) := by
        have e0 : ((0 : Nat) : Rat) = 0 := rfl
        rw [e0]; grind_linarith
      have := of_natCast_le h3
      rw [if_pos rfl]; omega
def fracZ (x : Nat) : Int := (f2i .f64 x .i64).getD 0
def fracD (x : Nat) : Nat := fbin .sub .f64 x (i2f .f64 (fracZ x))
def fracF (x : Nat) : Nat := if fcB .lss .f64 (fracD x) 0 = true then fbin .add .f64 (fracD x) 4607182418800017408 else fracD x
theorem zero_f64 : FinW .f64 0 ∧ fval .f64 0 = 0 := by
  have h : (0 : Nat) = i2f .f64 0 := by decide +kernel
  rw [h]; exact i2f_fval (by decide)
theorem frac_in {x : Nat} (hx : FinW .f64 x) (h1 : -(1024 : Rat) ≤ fval .f64 x) (h2 : fval .f64 x ≤ 1024) : f2i .f64 x .i64 = some (fracZ x) ∧ -1024 ≤ fracZ x ∧ fracZ x ≤ 1024 ∧ In (fracF x) 0 1 := by
  obtain ⟨n, a1, a2, a3, a4, a5, _⟩ := f2i_ok hx h1 h2
  have hz : fracZ x = n := by unfold fracZ; rw [a1]; rfl
  refine ⟨by rw [hz]; exact a1, by rw [hz]; exact a2, by rw [hz]; exact a3, ?_⟩
  obtain ⟨nf, nv⟩ := i2f_fval (z := n) (by omega)
  obtain ⟨df, d0, d1⟩ : In (fracD x) (-1) 1 := by
    unfold fracD
    rw [hz]
    exact In_of rm1 r1 (by rw [nv]; grind_linarith) (by rw [nv]; grind_linarith) (by decide) (by decide) (fsub_val hx nf)
  unfold fracF
  have hl := fcB_lss df zero_f64.1
  rw [zero_f64.2] at hl
  cases h : fcB .lss .f64 (fracD x) 0
  · rw [if_neg (by simp)]
    rw [h] at hl
    have := of_decide_eq_false hl.symm
    exact ⟨df, by grind_linarith, d1⟩
  · rw [if_pos rfl]
    rw [h] at hl
    have := of_decide_eq_true hl.symm
    exact In_of r0 r1 (by rw [one_val.2]; grind_linarith) (by rw [one_val.2]; grind_linarith) (by decide) (by decide) (fadd_val df one_val.1)
/-! ### sines -/
def sinK (j : Nat) : Int := 2 * (8 - (j : Int)) * (2 * (8 - (j : Int)) + 1)
def sinP (u : Nat) : Nat → Nat
  | 0 => 4607182418800017408
  | j + 1 => fbin .sub .f64 4607182418800017408 (fbin .quo .f64 (fbin .mul .f64 u (sinP u j)) (i2f .f64 (sinK j)))
def sinA (f : Nat) : Nat := if fcB .geq .f64 f 4602678819172646912 = true then fbin .sub .f64 f 4602678819172646912 else f
def sinB (f : Nat) : Nat := if fcB .gtr .f64 f 4598175219545276416 = true then fbin .sub .f64 4602678819172646912 f else f
def sinZ (x : Nat) : Nat := fbin .mul .f64 (sinB (sinA (fracF x))) 4618760256179416344
def sinU (x : Nat) : Nat := fbin .mul .f64 (sinZ x) (sinZ x)
def sinR (x : Nat) : Nat := fbin .mul .f64 (sinZ x) (sinP (sinU x) 8)
def sinF (x : Nat) : Nat := if fcB .geq .f64 (fracF x) 4602678819172646912 = true then fneg .f64 (sinR x) else sinR x
theorem sinK_f : ∀ j : Fin 8, fbin .mul .f64 (fbin .mul .f64 4611686018427387904 (i2f .f64 (8 - (j.val : Int)))) (fbin .add .f64 (fbin .mul .f64 4611686018427387904 (i2f .f64 (8 - (j.val : Int)))) 4607182418800017408) = i2f .f64 (sinK j.val) := by decide +kernel
theorem sinK_ge : ∀ j : Fin 8, 6 ≤ sinK j.val ∧ sinK j.val ≤ 1000 := by decide
theorem sinA_in {f : Nat} (h : In f 0 1) : In (sinA f) 0 (1 / 2) := by
  obtain ⟨a, b, c⟩ := h
  unfold sinA
  have hg := fcB_geq a half_val64.1
  rw [half_val64.2] at hg
  cases h : fcB .geq .f64 f 4602678819172646912
  · rw [if_neg (by simp)]
    rw [h] at hg
    have := of_decide_eq_false hg.symm
    exact ⟨a, b, by grind_linarith⟩
  · rw [if_pos rfl]
    rw [h] at hg
    have := of_decide_eq_true hg.symm
    exact In_of r0 rh (by rw [half_val64.2]; grind_linarith) (by rw [half_val64.2]; grind_linarith) (by decide) (by decide +kernel) (fsub_val a half_val64.1)
theorem sinB_in {f : Nat} (h : In f 0 (1 / 2)) : In (sinB f) 0 (1 / 4) := by
  obtain ⟨a, b, c⟩ := h
  unfold sinB
  have hg := fcB_gtr a quart_val64.1
  rw [quart_val64.2] at hg
  cases h : fcB .gtr .f64 f 4598175219545276416
  · rw [if_neg (by simp)]
    rw [h] at hg
    have := of_decide_eq_false hg.symm
    exact ⟨a, b, by grind_linarith⟩
  · rw [if_pos rfl]
    rw [h] at hg
    have := of_decide_eq_true hg.symm
    exact In_of r0 rq (by rw [half_val64.2]; grind_linarith) (by rw [half_val64.2]; grind_linarith) (by decide) (by decide +kernel) (fsub_val half_val64.1 a)
theorem turn_val : FinW .f64 4618760256179416344 ∧ 6 ≤ fval .f64 4618760256179416344 ∧ fval .f64 4618760256179416344 ≤ 7 := by
  have h : FloatKind.f64.decode 4618760256179416344 = .number false 7074237752028440 (-50) := by decide +kernel
  refine ⟨⟨_, _, _, h⟩, ?_⟩
  unfold fval
  rw [h]
  show _ ≤ sg false * _ ∧ sg false * _ ≤ _
  unfold p2
  decide +kernel
theorem mul_in {a b A B : Rat} (h1 : 0 ≤ a) (h2 : a ≤ A) (h3 : 0 ≤ b) (h4 : b ≤ B) : 0 ≤ a * b ∧ a * b ≤ A * B := by
  have x1 := Rat.mul_nonneg h1 h3
  have x2 := Rat.mul_nonneg h1 (show 0 ≤ B - b by grind_linarith)
  have x3 := Rat.mul_nonneg (show 0 ≤ A - a by grind_linarith) (show 0 ≤ B by grind_linarith)
  constructor <;> grind_linarith
theorem sinP_in {u : Nat} (hu : In u 0 4) : ∀ j : Nat, j ≤ 8 → In (sinP u j) 0 1
  | 0, _ => ⟨one_val.1, by show (0 : Rat) ≤ fval .f64 4607182418800017408; rw [one_val.2]; decide, by show fval .f64 4607182418800017408 ≤ (1 : Rat); rw [one_val.2]; exact Rat.le_refl⟩
  | j + 1, hj => by
    obtain ⟨f, p0, p1⟩ := sinP_in hu j (by omega)
    obtain ⟨uf, u0, u1⟩ := hu
    obtain ⟨a, b⟩ := mul_in u0 u1 p0 p1
    obtain ⟨mf, m0, m1⟩ := In_of r0 r4 a (by grind_linarith) (by decide) (by decide) (fmul_val uf f)
    have hK := sinK_ge ⟨j, by omega⟩
    simp only at hK
    obtain ⟨kf, kv⟩ := i2f_fval (z := sinK j) (by omega)
    have hk : (6 : Rat) ≤ fval .f64 (i2f .f64 (sinK j)) := by
      rw [kv]
      have : ((6 : Int) : Rat) ≤ ((sinK j : Int) : Rat) := Rat.intCast_le_intCast.2 hK.1
      exact this
    have hk0 : fval .f64 (i2f .f64 (sinK j)) ≠ 0 := by intro h; rw [h] at hk; grind_linarith
    have hq := Rat.div_mul_cancel (a := fval .f64 (fbin .mul .f64 u (sinP u j))) hk0
    have gq := fun hb => fdiv_val (q := fval .f64 (fbin .mul .f64 u (sinP u j)) / fval .f64 (i2f .f64 (sinK j))) mf kf hk0 hq hb
    generalize fval .f64 (fbin .mul .f64 u (sinP u j)) / fval .f64 (i2f .f64 (sinK j)) = q at hq gq
    have hkp : 0 < fval .f64 (i2f .f64 (sinK j)) := by grind_linarith
    have q0 : 0 ≤ q := by
      refine Rat.le_of_mul_le_mul_right (c := fval .f64 (i2f .f64 (sinK j))) ?_ hkp
      rw [hq]; grind_linarith
    have q1 : q ≤ 1 := by
      refine Rat.le_of_mul_le_mul_right (c := fval .f64 (i2f .f64 (sinK j))) ?_ hkp
      rw [hq]; grind_linarith
    obtain ⟨qf, q2, q3⟩ := In_of r0 r1 q0 q1 (by decide) (by decide) gq
    exact In_of r0 r1 (by rw [one_val.2]; grind_linarith) (by rw [one_val.2]; grind_linarith) (by decide) (by decide) (fsub_val one_val.1 qf)
theorem sinF_in {x : Nat} (hx : FinW .f64 x) (h1 : -(1024 : Rat) ≤ fval .f64 x) (h2 : fval .f64 x ≤ 1024) : In (sinF x) (-2) 2 := by
  obtain ⟨_, _, _, hf⟩ := frac_in hx h1 h2
  obtain ⟨bf, b0, b1⟩ := sinB_in (sinA_in hf)
  obtain ⟨tf, t0, t1⟩ := turn_val
  obtain ⟨a, b⟩ := mul_in b0 b1 (show (0 : Rat) ≤ fval .f64 4618760256179416344 by grind_linarith) t1
  obtain ⟨zf, z0, z1⟩ : In (sinZ x) 0 2 := In_of r0 r2 a (by grind_linarith) (by decide) (by decide) (fmul_val bf tf)
  obtain ⟨a', b'⟩ := mul_in z0 z1 z0 z1
  have hu : In (sinU x) 0 4 := In_of r0 r4 a' (by grind_linarith) (by decide) (by decide) (fmul_val zf zf)
  obtain ⟨pf, p0, p1⟩ := sinP_in hu 8 (by decide)
  obtain ⟨a2, b2⟩ := mul_in z0 z1 p0 p1
  obtain ⟨rf, s0, s1⟩ : In (sinR x) 0 2 := In_of r0 r2 a2 (by grind_linarith) (by decide) (by decide) (fmul_val zf pf)
  unfold sinF
  split
  · obtain ⟨nf, nv⟩ := finW_fneg64 rf
    exact ⟨nf, by rw [nv]; grind_linarith, by rw [nv]; grind_linarith⟩
  · exact ⟨rf, by grind_linarith, s1⟩
/-! ### sizes of doubles -/
def absW (x : Nat) : Nat := x % 9223372036854775808
theorem bits_abs {x : Nat} (h : x < 2 ^ 64) : bits .andNot .u64 (x : Int) 9223372036854775808 = ((absW x : Nat) : Int) := by
  unfold bits
  have hb : IntKind.bits .u64 = 64 := by decide
  simp only
  have e1 : (BitVec.ofInt (IntKind.bits .u64) (x : Int) &&& ~~~BitVec.ofInt (IntKind.bits .u64) 9223372036854775808).toNat = absW x := by
    show (BitVec.ofInt 64 (x : Int) &&& ~~~BitVec.ofInt 64 9223372036854775808).toNat = absW x
    have e2 : (~~~BitVec.ofInt 64 9223372036854775808) = BitVec.ofNat 64 (2 ^ 63 - 1) := by decide
    have e3 : BitVec.ofInt 64 (x : Int) = BitVec.ofNat 64 x := by simp
    rw [e2, e3, BitVec.toNat_and, BitVec.toNat_ofNat, BitVec.toNat_ofNat, Nat.mod_eq_of_lt h, Nat.mod_eq_of_lt (by decide), Nat.and_two_pow_sub_one_eq_mod]
    rfl
  rw [e1]
  have hlt : absW x < 9223372036854775808 := Nat.mod_lt _ (by decide)
  unfold IntKind.wrap
  simp [IntKind.bits, IntKind.signed]
  omega
theorem abs_val {x : Nat} (hx : FinW .f64 x) (h1 : -(1024 : Rat) ≤ fval .f64 x) (h2 : fval .f64 x ≤ 1024) : FinW .f64 (absW x) ∧ fval .f64 (absW x) ≤ 1024 := by
  obtain ⟨s, m, e, hd⟩ := hx
  have sw : double.signWeight = 9223372036854775808 := by decide
  have hd' : double.read x = .number s m e := hd
  have hr : double.read (absW x) = .number false m e := by
    unfold absW
    unfold Format.read at hd' ⊢
    rw [sw] at hd' ⊢
    simp only [Nat.mod_mod] at hd' ⊢
    have hlt : x % 9223372036854775808 < 9223372036854775808 := Nat.mod_lt _ (by decide)
    rw [Nat.div_eq_of_lt hlt]
    split
    · rename_i c
      rw [if_pos c] at hd'
      injection hd' with a b c
      subst b c
      rfl
    · rename_i c
      rw [if_neg c] at hd'
      split
      · rename_i c2
        rw [if_pos c2] at hd'
        injection hd' with a b c
        subst b c
        rfl
      · rename_i c2
        rw [if_neg c2] at hd'
        split at hd' <;> cases hd'
  have hr' : FloatKind.f64.decode (absW x) = .number false m e := hr
  refine ⟨⟨_, _, _, hr'⟩, ?_⟩
  unfold fval at h1 h2 ⊢
  rw [hd, dval_number] at h1 h2
  rw [hr', dval_number, sg_false]
  cases s
  · rw [sg_false] at h2; exact h2
  · rw [sg_true] at h1; grind_linarith
theorem f64_lt {x : Nat} (h : FinW .f32 x) : f64 x < 2 ^ 64 := by
  obtain ⟨s, m, e, hx⟩ := h
  have h2 := f2f_wide x
  unfold f2f at h2
  rw [if_neg (by decide), hx] at h2
  simp only at h2
  split at h2
  · cases h2
  · have := Option.some.inj h2
    rw [← this]
    exact FloatKind.f64.format.write_lt (.number s m e)
/-! ### quarters -/
def quartS (f : Nat) : Nat → Nat
  | 0 => f
  | t + 1 => fbin .sub .f64 (quartS f t) 4598175219545276416
def nQ (f : Nat) : Nat := findUp (fun t => !fcB .geq .f64 (quartS f t) 4598175219545276416) 10 0
theorem quartS_in {f : Nat} (h : In f 0 1) : ∀ t : Nat, t ≤ 4 → (∀ s, s < t → fcB .geq .f64 (quartS f s) 4598175219545276416 = true) → FinW .f64 (quartS f t) ∧ 0 ≤ fval .f64 (quartS f t) ∧ fval .f64 (quartS f t) ≤ ((4 - (t : Int) : Int) : Rat) * p2 (-2)
  | 0, _, _ => by
    refine ⟨h.1, h.2.1, ?_⟩
    have e : ((4 - ((0 : Nat) : Int) : Int) : Rat) * p2 (-2) = 1 := by unfold p2; decide +kernel
    rw [e]
    exact h.2.2
  | t + 1, ht, hs => by
    obtain ⟨a, b, c⟩ := quartS_in h t (by omega) fun s hh => hs s (by omega)
    have hg := hs t (by omega)
    rw [fcB_geq a quart_val64.1, quart_val64.2] at hg
    have hg := of_decide_eq_true hg
    have e4 : p2 (-2) = 1 / 4 := by unfold p2; decide +kernel
    have e1 : ((4 - (t : Int) : Int) : Rat) = ((4 - ((t + 1 : Nat) : Int) : Int) : Rat) + 1 := by
      have : (4 - (t : Int) : Int) = (4 - ((t + 1 : Nat) : Int)) + 1 := by omega
      rw [this, Rat.intCast_add]
      rfl
    rw [e1] at c
    have hr : Rep FloatKind.f64.format (((4 - ((t + 1 : Nat) : Int) : Int) : Rat) * p2 (-2)) := repQ _ (-2) (by omega) (by decide) rfl
    have hle : ((4 - ((t + 1 : Nat) : Int) : Int) : Rat) ≤ ((4 : Int) : Rat) := Rat.intCast_le_intCast.2 (by omega)
    have e5 : ((4 : Int) : Rat) = 4 := rfl
    rw [e5] at hle
    generalize ((4 - ((t + 1 : Nat) : Int) : Int) : Rat) = z at *
    rw [e4] at c hr ⊢
    obtain ⟨x1, x2, x3⟩ := In_of r0 hr (by rw [quart_val64.2]; grind_linarith) (by rw [quart_val64.2]; grind_linarith) (by decide) (by grind_linarith) (fsub_val a quart_val64.1)
    exact ⟨x1, x2, x3⟩
theorem nQ_ok {f : Nat} (h : In f 0 1) : fcB .geq .f64 (quartS f (nQ f)) 4598175219545276416 = false ∧ (∀ s, s < nQ f → fcB .geq .f64 (quartS f s) 4598175219545276416 = true) ∧ nQ f ≤ 4 := by
  have hex : ∃ k, k ≤ 4 ∧ (!fcB .geq .f64 (quartS f k) 4598175219545276416) = true := by
    apply Classical.byContradiction
    intro hno
    have hall : ∀ s, s ≤ 4 → fcB .geq .f64 (quartS f s) 4598175219545276416 = true := fun s hs => by
      cases hh : fcB .geq .f64 (quartS f s) 4598175219545276416
      · exact absurd ⟨s, hs, by rw [hh]; rfl⟩ hno
      · rfl
    obtain ⟨a, b, c⟩ := quartS_in h 4 (by omega) fun s hs => hall s (by omega)
    have hg := hall 4 (by omega)
    rw [fcB_geq a quart_val64.1, quart_val64.2] at hg
    have hg := of_decide_eq_true hg
    have e : ((4 - ((4 : Nat) : Int) : Int) : Rat) * p2 (-2) = 0 := by unfold p2; decide +kernel
    rw [e] at c
    grind_linarith
  obtain ⟨k, hk, hpk⟩ := hex
  obtain ⟨r1, r2, r3⟩ := findUp_ok (p := fun t => !fcB .geq .f64 (quartS f t) 4598175219545276416) (n := 10) (t := 0) (k := k) (by omega) (by omega) hpk
  refine ⟨?_, fun s hs => ?_, Nat.le_trans r3 hk⟩
  · have : (!fcB .geq .f64 (quartS f (nQ f)) 4598175219545276416) = true := r1
    simpa using this
  · have : (!fcB .geq .f64 (quartS f s) 4598175219545276416) = false := r2 s (by omega) hs
    simpa using this
def phF (u : Nat) : Nat := quartS (fracF u) (nQ (fracF u))
theorem phF_in {u : Nat} (h : In (fracF u) 0 1) : In (phF u) 0 (1 / 4) := by
  obtain ⟨r1, r2, r3⟩ := nQ_ok h
  obtain ⟨a, b, c⟩ := quartS_in h (nQ (fracF u)) r3 r2
  rw [fcB_geq a quart_val64.1, quart_val64.2] at r1
  have := of_decide_eq_false r1
  exact ⟨a, b, by show fval .f64 (quartS (fracF u) (nQ (fracF u))) ≤ 1 / 4; grind_linarith⟩
def phC (u : Nat) : Nat := sinF (fbin .sub .f64 4598175219545276416 (phF u))
def phS (u : Nat) : Nat := sinF (phF u)
theorem phC_in {u : Nat} (h : In (fracF u) 0 1) : In (fbin .sub .f64 4598175219545276416 (phF u)) 0 (1 / 4) ∧ In (phC u) (-2) 2 ∧ In (phS u) (-2) 2 := by
  obtain ⟨a, b, c⟩ := phF_in h
  have hd : In (fbin .sub .f64 4598175219545276416 (phF u)) 0 (1 / 4) := In_of r0 rq (by rw [quart_val64.2]; grind_linarith) (by rw [quart_val64.2]; grind_linarith) (by decide) (by decide +kernel) (fsub_val quart_val64.1 a)
  exact ⟨hd, sinF_in hd.1 (by have := hd.2.1; grind_linarith) (by have := hd.2.2; grind_linarith), sinF_in a (by grind_linarith) (by grind_linarith)⟩
theorem rm2 : Rep FloatKind.f64.format (-2) := repQ (-2) 0 (by decide) (by decide) (by unfold p2; decide +kernel)
theorem neg_in {x : Nat} (h : In x (-2) 2) : In (fbin .sub .f64 0 x) (-2) 2 := by
  obtain ⟨a, b, c⟩ := h
  exact In_of rm2 r2 (by rw [zero_f64.2]; grind_linarith) (by rw [zero_f64.2]; grind_linarith) (by decide) (by decide) (fsub_val zero_f64.1 a)
def narF (y : Nat) : Nat := (f2f .f64 y .f32).getD 0
theorem nar_in {y : Nat} (h : In y (-2) 2) : f2f .f64 y .f32 = some (narF y) ∧ FinW .f32 (narF y) ∧ Bd (fval .f32 (narF y)) 2 := by
  obtain ⟨a, b, c⟩ := h
  have h2 := p2_le (show (1 : Int) ≤ 127 by decide)
  have ht := top32
  rw [p2_one] at h2
  obtain ⟨w, hw, g⟩ := f2f_fin a (by unfold Bd; constructor <;> grind_linarith)
  have hz : narF y = w := by unfold narF; rw [hw]; rfl
  rw [hz]
  have hr : Rep FloatKind.f32.format 2 := ⟨2, 0, by unfold p2; decide +kernel, by decide, by decide⟩
  exact ⟨hw, g.1, g.bd hr (by unfold Bd; exact ⟨b, c⟩)⟩
end Go.Gx
