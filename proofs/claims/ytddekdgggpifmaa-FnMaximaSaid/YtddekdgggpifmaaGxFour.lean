/-
  The four-pair's high numbers on whole numbers: none is small that isn't nothing.
-/
import Derived.Test.YtddekdgggpifmaaGxDbl
namespace Go.Gx
set_option linter.unusedSimpArgs false
set_option linter.unusedVariables false

theorem root3 : ∀ a : Fin 257, ∀ b : Fin 129, a.val * a.val = 3 * (b.val * b.val) → a.val = 0 ∧ b.val = 0 := by decide +kernel
theorem root3_int {A B : Int} (hA : A.natAbs ≤ 256) (hB : B.natAbs ≤ 128) (h : A * A = 3 * (B * B)) : A = 0 ∧ B = 0 := by
  have e : A.natAbs * A.natAbs = 3 * (B.natAbs * B.natAbs) := by
    have a := Int.natAbs_mul_self (a := A)
    have b := Int.natAbs_mul_self (a := B)
    omega
  have := root3 ⟨A.natAbs, by omega⟩ ⟨B.natAbs, by omega⟩ e
  simp only at this
  omega
theorem int_mul_bd {x y a b : Int} (h1 : -a ≤ x) (h2 : x ≤ a) (h3 : -b ≤ y) (h4 : y ≤ b) : -(a * b) ≤ x * y ∧ x * y ≤ a * b := by
  have e : (x * y).natAbs ≤ (a * b).natAbs := by
    rw [Int.natAbs_mul, Int.natAbs_mul]
    exact Nat.mul_le_mul (by omega) (by omega)
  have h : 0 ≤ a * b := Int.mul_nonneg (by omega) (by omega)
  omega
theorem four_zero {a b c d : Int} (ha : -32 ≤ a ∧ a ≤ 32) (hb : -32 ≤ b ∧ b ≤ 32) (hc : -32 ≤ c ∧ c ≤ 32) (hd : -32 ≤ d ∧ d ≤ 32)
    (h : -10000 ≤ -4342263 * a - 7521020 * b + 28068830 * c - 16205546 * d ∧ -4342263 * a - 7521020 * b + 28068830 * c - 16205546 * d ≤ 10000) :
    a - 3 * b + 3 * c - d = 0 ∧ -a + b + c - d = 0 := by
  obtain ⟨A, hA⟩ : ∃ A, A = a - 3 * b + 3 * c - d := ⟨_, rfl⟩
  obtain ⟨B, hB⟩ : ∃ B, B = -a + b + c - d := ⟨_, rfl⟩
  have p1 : -17200 ≤ 10000000 * A + 17320508 * B := by omega
  have p2 : 10000000 * A + 17320508 * B ≤ 17200 := by omega
  have q1 : -4800000000 ≤ 10000000 * A - 17320508 * B := by omega
  have q2 : 10000000 * A - 17320508 * B ≤ 4800000000 := by omega
  have m := int_mul_bd p1 p2 q1 q2
  have e : (10000000 * A + 17320508 * B) * (10000000 * A - 17320508 * B) = 100000000000000 * (A * A) - 299999997378064 * (B * B) := by grind
  rw [e] at m
  have b1 : 0 ≤ B * B ∧ B * B ≤ 16384 := by
    have := int_mul_bd (x := B) (y := B) (a := 128) (b := 128) (by omega) (by omega) (by omega) (by omega)
    have e : B * B = ((B.natAbs * B.natAbs : Nat) : Int) := Int.natAbs_mul_self.symm
    omega
  have e3 : A * A = 3 * (B * B) := by omega
  have := root3_int (A := A) (B := B) (by omega) (by omega) e3
  omega
/-- A ring whose high numbers are nothing is constant. -/
theorem ring_flat {x0 x1 x2 x3 x4 x5 x6 x7 x8 x9 xa xb xc xd xe xf : Int}
    (h0 : x0 - 3 * x1 + 3 * x2 - x3 = 0 ∧ -x0 + x1 + x2 - x3 = 0) (h1 : x2 - 3 * x3 + 3 * x4 - x5 = 0 ∧ -x2 + x3 + x4 - x5 = 0)
    (h2 : x4 - 3 * x5 + 3 * x6 - x7 = 0 ∧ -x4 + x5 + x6 - x7 = 0) (h3 : x6 - 3 * x7 + 3 * x8 - x9 = 0 ∧ -x6 + x7 + x8 - x9 = 0)
    (h4 : x8 - 3 * x9 + 3 * xa - xb = 0 ∧ -x8 + x9 + xa - xb = 0) (h5 : xa - 3 * xb + 3 * xc - xd = 0 ∧ -xa + xb + xc - xd = 0)
    (h6 : xc - 3 * xd + 3 * xe - xf = 0 ∧ -xc + xd + xe - xf = 0) (h7 : xe - 3 * xf + 3 * x0 - x1 = 0 ∧ -xe + xf + x0 - x1 = 0) :
    x1 = x0 ∧ x2 = x0 ∧ x3 = x0 ∧ x4 = x0 ∧ x5 = x0 ∧ x6 = x0 ∧ x7 = x0 ∧ x8 = x0 ∧ x9 = x0 ∧ xa = x0 ∧ xb = x0 ∧ xc = x0 ∧ xd = x0 ∧ xe = x0 ∧ xf = x0 := by
  omega
end Go.Gx
