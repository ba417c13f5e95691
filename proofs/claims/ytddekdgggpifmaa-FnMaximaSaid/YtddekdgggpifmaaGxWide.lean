/-
  A number of single precision, made double, is finite.
-/
import Derived.Test.YtddekdgggpifmaaGxFloat
namespace Go.Gx
set_option linter.unusedSimpArgs false
set_option linter.unusedVariables false
open Ieee

theorem read_single {x : Nat} {s : Bool} {m : Nat} {e : Int} (h : FloatKind.f32.decode x = .number s m e) : m < 16777216 ∧ -149 ≤ e ∧ e ≤ 104 := by
  have h' : single.read x = .number s m e := h
  have e1 : single.signWeight = 2147483648 := by decide
  have e2 : single.binade = 8388608 := by decide
  have e3 : single.infRung = 2139095040 := by decide
  have e4 : single.leastPlace = -149 := by decide
  unfold Format.read at h'
  rw [e1, e2, e3, e4] at h'
  by_cases c1 : x % 2147483648 < 8388608
  · simp only [c1, if_true, Datum.number.injEq] at h'
    omega
  · by_cases c2 : x % 2147483648 < 2139095040
    · simp only [c1, c2, if_true, if_false, Datum.number.injEq] at h'
      omega
    · by_cases c3 : x % 2147483648 = 2139095040 <;> simp [c1, c2, c3] at h'

theorem read_word_num (f : Format) (neg : Bool) {rung : Nat} (h : rung < f.infRung) : (f.read (f.word neg rung)).isInfinity = false := by
  have hlt := f.infRung_lt
  have hr : f.word neg rung % f.signWeight = rung := by
    unfold Format.word
    split
    · rw [Nat.add_mod_left, Nat.mod_eq_of_lt (by omega)]
    · rw [Nat.mod_eq_of_lt (by omega)]
  unfold Format.read
  simp only [hr]
  split
  · rfl
  · rfl

theorem cut_zero (neg : Bool) (n : Nat) : Toward.even.cut neg n 0 = n := by
  simp [Toward.cut, Nat.mod_one]

theorem wide_aux (t y : Nat) (ht : t ≤ 1149) (hy : y < 9007199254740992) : t * 4503599627370496 + y < 9218868437227405312 := by omega
theorem nearest_double (s : Bool) (m : Nat) (e : Int) (hm : m < 16777216) (h0 : -149 ≤ e) (h1 : e ≤ 104) : (double.read (double.nearest s m e)).isInfinity = false := by
  unfold Format.nearest
  split
  · exact read_word_num _ _ (by decide)
  · rename_i hne
    have hlog : m.log2 < 24 := (Nat.log2_lt hne).2 hm
    have hpow : m < 2 ^ (m.log2 + 1) := Nat.lt_log2_self
    have hlp : double.leastPlace = -1074 := by decide
    have hfb : double.fractionBits = 52 := rfl
    have hlast : max (e + (m.log2 : Int) - (double.fractionBits : Int)) double.leastPlace = e + (m.log2 : Int) - 52 := by rw [hlp, hfb]; omega
    simp only [hlast]
    have hd : (e + (m.log2 : Int) - 52 - e).toNat = 0 := by omega
    have hp : (e - (e + (m.log2 : Int) - 52)).toNat = 52 - m.log2 := by omega
    rw [hd, cut_zero, hp, hlp]
    have hk : m <<< (52 - m.log2) < 2 ^ 53 := by
      rw [Nat.shiftLeft_eq]
      calc m * 2 ^ (52 - m.log2) < 2 ^ (m.log2 + 1) * 2 ^ (52 - m.log2) := Nat.mul_lt_mul_of_pos_right hpow (Nat.two_pow_pos _)
        _ = 2 ^ 53 := by rw [← Nat.pow_add]; congr 1; omega
    have hb : double.binade = 4503599627370496 := by decide
    have hi : double.infRung = 9218868437227405312 := by decide
    have ht : (e + (m.log2 : Int) - 52 - -1074).toNat ≤ 1149 := by omega
    have e53 : (2 : Nat) ^ 53 = 9007199254740992 := by decide
    rw [e53] at hk
    have hk' := hk
    clear hk e53
    refine read_word_num _ _ ?_
    rw [hi, hb]
    exact Nat.lt_of_le_of_lt (Nat.min_le_left _ _) (wide_aux _ _ ht hk')

theorem wide_inf {x : Nat} {s : Bool} {m : Nat} {e : Int} (hd : FloatKind.f32.decode x = .number s m e) : ¬ (FloatKind.f64.decode (FloatKind.f64.encode (.number s m e))).isInfinity = true := by
  obtain ⟨h1, h2, h3⟩ := read_single hd
  have := nearest_double s m e h1 h2 h3
  intro h
  have h' : (double.read (double.nearest s m e)).isInfinity = true := h
  rw [this] at h'
  cases h'
end Go.Gx
