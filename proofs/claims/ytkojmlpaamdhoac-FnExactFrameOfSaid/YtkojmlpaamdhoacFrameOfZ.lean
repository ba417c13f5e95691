/- Bands joined, level by level. -/
import Derived.Test.YtkojmlpaamdhoacFrameOfY
namespace Go.Proofs.Ytkojmlpaamdhoac
open Go.Gx
set_option maxRecDepth 100000
set_option linter.unusedSimpArgs false
set_option linter.unusedVariables false

def nowJ (xs : List Nat) (yss : List (List Nat)) (ps : List Nat) : Nat → List Nat := foldI (fun t l => joinL l (yss.getD (yss.length - 1 - t) []) ps) xs
theorem nowJ_succ (xs : List Nat) (yss : List (List Nat)) (ps : List Nat) (t : Nat) : nowJ xs yss ps (t + 1) = joinL (nowJ xs yss ps t) (yss.getD (yss.length - 1 - t) []) ps := rfl
theorem nowJ_len_succ (xs : List Nat) (yss : List (List Nat)) (ps : List Nat) (t : Nat) : (nowJ xs yss ps (t + 1)).length = 2 * (nowJ xs yss ps t).length := joinN_len _ _ _ _ _
theorem det_le {xs : List Nat} {yss : List (List Nat)} (h : validBandsF xs yss = true) : ∀ i, i < yss.length → 1 ≤ (yss.getD i []).length ∧ (yss.getD i []).length ≤ (yss.getD 0 []).length
  | 0, hi => by
    have := (vb_yes h).2.2.2.2.1 0 hi
    simp only [detAt, Bool.and_eq_true, decide_eq_true_eq] at this
    exact ⟨this.1, Nat.le_refl _⟩
  | i + 1, hi => by
    have ih := det_le h i (by omega)
    have := (vb_yes h).2.2.2.2.1 (i + 1) hi
    simp only [detAt, Bool.and_eq_true, Bool.or_eq_true, decide_eq_true_eq] at this
    have h2 := this.2
    simp only [Nat.add_sub_cancel] at h2
    omega
theorem nowJ_len {xs : List Nat} {yss : List (List Nat)} {ps : List Nat} (h : validBandsF xs yss = true) : ∀ t, t < yss.length → (nowJ xs yss ps t).length = (yss.getD (yss.length - 1 - t) []).length
  | 0, ht => by
    have := (vb_yes h).2.2.2.2.2
    simpa [nowJ, foldI_zero] using this
  | t + 1, ht => by
    have ih := nowJ_len (ps := ps) h t (by omega)
    have := (vb_yes h).2.2.2.2.1 (yss.length - 1 - t) (by omega)
    simp only [detAt, Bool.and_eq_true, Bool.or_eq_true, decide_eq_true_eq] at this
    rw [nowJ_len_succ, ih, show yss.length - 1 - (t + 1) = yss.length - 1 - t - 1 by omega]
    omega
def allJ (xs : List Nat) (yss : List (List Nat)) (ps : List Nat) : Bool := (List.range yss.length).all fun t => (nowJ xs yss ps (t + 1)).all finF
def joinLevOk (xs : List Nat) (yss : List (List Nat)) (ps : List Nat) : Bool := validBandsF xs yss && validPairF ps && allJ xs yss ps
end Go.Proofs.Ytkojmlpaamdhoac
