/-
  A function's code, checked against the program.
-/
import Derived.Test.YtddekdgggpifmaaGxRun
import Derived.KernelRfl
namespace Go.Gx
set_option linter.unusedSimpArgs false
set_option linter.unusedVariables false

/-! ### a function's code -/
def fnC (P : Program) (f : FuncId) (y : ACode) : Option (Nat × Bool × Option ACode × Option (List ARes)) :=
  match P.funcs[f]? with
  | some fn => match fn.body with
    | some c => some (fn.ntmps, fn.name == "runtime.NumGoroutine", comp P fn.ntmps c y, compResL P fn.results.toList)
    | none => none
  | none => none
def fnTmps (P : Program) (f : FuncId) : Nat := ((P.funcs[f]?).map (·.ntmps)).getD 0
structure FnOk (P : Program) (f : FuncId) (np : Nat) (y : ACode) (res : List ARes) : Prop where
  ok : (fnC P f y, Nat.ble np (fnTmps P f), P.follows .mixedOrders) = (some (fnTmps P f, false, some y, some res), true, true)

theorem FnOk.calls {P : Program} {f : FuncId} {np : Nat} {y : ACode} {res : List ARes} (h : FnOk P f np y res) {args : List Value} (ha : args.length = np) {H : Heap} {S : Value → Heap → Prop}
    (hw : awp P y (finQ res S) (params 0 args) H) : ACalls P f args H S := by
  have hk := h.ok
  simp only [Prod.mk.injEq] at hk
  obtain ⟨h1, h2, h3⟩ := hk
  unfold fnC at h1
  split at h1
  · rename_i fn hf
    split at h1
    · rename_i c hb
      simp only [Option.some.injEq, Prod.mk.injEq] at h1
      obtain ⟨g1, g2, g3, g4⟩ := h1
      have h2' : np ≤ fn.ntmps := by rw [g1]; exact Nat.le_of_ble_eq_true h2
      exact acalls_of h3 hf hb g2 g3 g4 (by omega) hw
    · cases h1
  · cases h1

end Go.Gx
