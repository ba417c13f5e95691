/- Parts of pictures. -/
import Derived.Test.YtkojmlpaamdhoacFrameOfXG
namespace Go.Proofs.Ytkojmlpaamdhoac
open Go.Gx
set_option maxRecDepth 100000
set_option linter.unusedSimpArgs false
set_option linter.unusedVariables false

theorem part_nat {a c x y w h : Int} {xs : List Nat} (p : partOk a c xs x y w h = true) : ∃ m n i j k l : Nat, a = m ∧ c = n ∧ x = i ∧ y = j ∧ w = k ∧ h = l ∧ 1 ≤ k ∧ 1 ≤ l ∧ i + k ≤ m ∧ j + l ≤ n ∧ m ≤ 16 ∧ n ≤ 16 ∧ xs.length = m * n ∧ xs.all finF = true := by
  unfold partOk at p
  simp only [Bool.and_eq_true] at p
  obtain ⟨⟨⟨⟨p0, p1⟩, p2⟩, p3⟩, p4⟩ := p
  obtain ⟨m, n, rfl, rfl, h1, h2, h3, h4, h5, h6⟩ := valid_sides p0
  have q1 := within_true.1 p1
  have q2 := within_true.1 p2
  have q3 := within_true.1 p3
  have q4 := within_true.1 p4
  exact ⟨m, n, x.toNat, y.toNat, w.toNat, h.toNat, rfl, rfl, by omega, by omega, by omega, by omega, by omega, by omega, by omega, by omega, h2, h4, h5, h6⟩
theorem crop_ix {m n x y a b : Nat} (hx : x + a < m) (hy : y + b < n) : (y + b) * m + x + a < m * n := by
  have h1 : (y + b + 1) * m ≤ n * m := Nat.mul_le_mul_right m hy
  rw [Nat.add_mul, Nat.one_mul, Nat.mul_comm n m] at h1
  omega
theorem crop_fin {m n i j k l : Nat} {xs : List Nat} (hk : 1 ≤ k) (h1 : i + k ≤ m) (h2 : j + l ≤ n) (hl : xs.length = m * n) (hf : xs.all finF = true) : (tabL (k * l) (cropF m xs i j k)).all finF = true := tabL_fin fun t ht => by
  have ha : t % k < k := Nat.mod_lt _ hk
  have hb : t / k < l := Nat.div_lt_of_lt_mul ht
  exact all_getD.1 hf _ (by rw [hl]; exact crop_ix (by omega) (by omega))
end Go.Proofs.Ytkojmlpaamdhoac
