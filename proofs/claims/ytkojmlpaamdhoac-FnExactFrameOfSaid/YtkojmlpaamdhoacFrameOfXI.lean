/- Bands of pictures. -/
import Derived.Test.YtkojmlpaamdhoacFrameOfXH
namespace Go.Proofs.Ytkojmlpaamdhoac
open Go.Gx
set_option maxRecDepth 100000
set_option linter.unusedSimpArgs false
set_option linter.unusedVariables false

theorem region_facts {a c l b : Int} (hk : regionOk a c l b = true) : 0 ≤ (regionF a c l b).1 ∧ 0 ≤ (regionF a c l b).2.1 ∧ 0 ≤ (regionF a c l b).2.2.1 ∧ 0 ≤ (regionF a c l b).2.2.2 ∧ (regionF a c l b).1 + (regionF a c l b).2.2.1 ≤ a ∧ (regionF a c l b).2.1 + (regionF a c l b).2.2.2 ≤ c ∧ a ≤ 16 ∧ c ≤ 16 := by
  unfold regionOk at hk
  simp only [Bool.and_eq_true] at hk
  have h1 := within_true.1 hk.1.1.1
  have h2 := within_true.1 hk.1.1.2
  have g1 := halfN_le' h1.1 (l - 1).toNat
  have g2 := halfN_le' h2.1 (l - 1).toNat
  have g3 := halfN_le' g1.1 1
  have g4 := halfN_le' g2.1 1
  unfold regionF
  dsimp only
  generalize halfN (halfN a (l - 1).toNat) 1 = U at *
  generalize halfN (halfN c (l - 1).toNat) 1 = V at *
  repeat' split
  all_goals (dsimp only; omega)
def bandOk (a c : Int) (xs : List Nat) (l b : Int) : Bool := regionOk a c l b && partOk a c xs (regionF a c l b).1 (regionF a c l b).2.1 (regionF a c l b).2.2.1 (regionF a c l b).2.2.2
def bandL (a c : Int) (xs : List Nat) (l b : Int) : List Nat := tabL ((regionF a c l b).2.2.1.toNat * (regionF a c l b).2.2.2.toNat) (cropF a.toNat xs (regionF a c l b).1.toNat (regionF a c l b).2.1.toNat (regionF a c l b).2.2.1.toNat)
theorem band_part {a c : Int} {xs : List Nat} {l b : Int} (hv : validPicF a c xs = true) (hk : regionOk a c l b = true) (h1 : ¬ (regionF a c l b).2.2.1 = 0) (h2 : ¬ (regionF a c l b).2.2.2 = 0) : partOk a c xs (regionF a c l b).1 (regionF a c l b).2.1 (regionF a c l b).2.2.1 (regionF a c l b).2.2.2 = true := by
  have h := region_facts hk
  unfold partOk
  rw [hv, within_true.2 (by omega), within_true.2 (by omega), within_true.2 (by omega), within_true.2 (by omega)]
  rfl
theorem band_none {a c : Int} {xs : List Nat} {l b : Int} (h1 : (regionF a c l b).2.2.1 = 0 ∨ (regionF a c l b).2.2.2 = 0) : bandOk a c xs l b = false := by
  unfold bandOk partOk
  rcases h1 with h | h
  · rw [h]
    simp [within]
  · rw [h]
    simp [within]
end Go.Proofs.Ytkojmlpaamdhoac
