/- Integers taken back. -/
import Derived.Test.YtkojmlpaamdhoacFrameOfXB
namespace Go.Proofs.Ytkojmlpaamdhoac
open Go.Gx
set_option maxRecDepth 100000
set_option linter.unusedSimpArgs false
set_option linter.unusedVariables false

theorem new_put2 {H : Heap} {a b c : Blk} : ((H.new a).new b).put (H.n + 1) c = (H.new a).new c := new_put (H := H.new a) ..
theorem dropE_length (kind : Int) (ev od : List Int) : (dropE kind ev od).length = ev.length := by simp [dropE]
theorem dropO_length (kind : Int) (ev od : List Int) : (dropO kind ev od).length = od.length := by simp [dropO]
theorem i64_dropE (kind : Int) (ev od : List Int) : I64 (dropE kind ev od) := i64_range _ _ fun j => wr_range _
def dropOkI (kind : Int) (ev od : List Int) : Bool := within kind 0 2 && fitF ev.length od.length && boundF ev 10000000 && boundF od 10000000 && integersF (dropI kind ev od)
theorem fit_facts' {a b : Nat} (h : fitF a b = true) : 1 ≤ a ∧ (b = a ∨ b + 1 = a) ∧ a + b ≤ 128 := by
  simp only [fitF, Bool.and_eq_true, Bool.or_eq_true, decide_eq_true_eq] at h
  exact ⟨h.1.1, h.1.2, h.2⟩
structure RI (H : Heap) (v : Value) (xs : List Int) : Prop where
  rd : IS H v xs
  le : xs.length ≤ 2 ^ 40
end Go.Proofs.Ytkojmlpaamdhoac
