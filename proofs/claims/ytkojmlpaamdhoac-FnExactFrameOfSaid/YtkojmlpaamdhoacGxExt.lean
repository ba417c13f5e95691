/-
  The functions of package math that have no body: the bits of a float, and back.
-/
import Derived.Test.YtkojmlpaamdhoacGxWp
import Derived.KernelRfl
import GoSem.Extern.Table
namespace Go.Gx
set_option linter.unusedSimpArgs false
set_option linter.unusedVariables false

theorem lk_next (s : String) (h : s = "math.Float64bits" ∨ s = "math.Float32bits" ∨ s = "math.Float64frombits" ∨ s = "math.Float32frombits" ∨ s = "") : Extern.allNextRows.lookup s = none := by
  rcases h with rfl | rfl | rfl | rfl | rfl <;> kernel_rfl
theorem lk_gen (s : String) (h : s = "math.Float64bits" ∨ s = "math.Float32bits" ∨ s = "math.Float64frombits" ∨ s = "math.Float32frombits" ∨ s = "") : Extern.allGenericRows.lookup s = none := by
  rcases h with rfl | rfl | rfl | rfl | rfl <;> kernel_rfl
theorem lk_typ (s : String) (h : s = "math.Float64bits" ∨ s = "math.Float32bits" ∨ s = "math.Float64frombits" ∨ s = "math.Float32frombits" ∨ s = "") : Extern.allTypedRows.lookup s = none := by
  rcases h with rfl | rfl | rfl | rfl | rfl <;> kernel_rfl
theorem lk0 : Extern.allRows.lookup "math.Float64bits" = some Extern.MathFloatBits.float64bits := by kernel_rfl
theorem lk1 : Extern.allRows.lookup "math.Float32bits" = some Extern.MathFloatBits.float32bits := by kernel_rfl
theorem lk2 : Extern.allRows.lookup "math.Float64frombits" = some Extern.MathFloatBits.float64frombits := by kernel_rfl
theorem lk3 : Extern.allRows.lookup "math.Float32frombits" = some Extern.MathFloatBits.float32frombits := by kernel_rfl

def mathAt (P : Program) (f : FuncId) : Option Nat :=
  match P.funcs[f]? with
  | some fn => if fn.body.isNone = true ∧ (fn.origin == "") = true then mathRow fn else none
  | none => none

def mathOp (i : Nat) (x : Operand) : AOp :=
  match i with
  | 0 => .f64bits x
  | 1 => .f32bits x
  | 2 => .f64from x
  | _ => .f32from x
def mathFn (i : Nat) : Array Value → Sem Value :=
  match i with
  | 0 => Extern.MathFloatBits.float64bits
  | 1 => Extern.MathFloatBits.float32bits
  | 2 => Extern.MathFloatBits.float64frombits
  | _ => Extern.MathFloatBits.float32frombits

theorem eval_func (a : Act) (f : FuncId) : a.eval (.func f) = .func (.func f) #[] #[] := rfl
section
variable {P : Program} {w0 w : World} {H : Heap} {ρ : Map} {φ : Frame} {a : Act}
theorem run_math {f i : Nat} (h : mathAt P f = some i) (args : Array Value) : (callFunc f args).run P w = ((mathFn i args).run P w).andThen fun v w' => .ok (.value v) w' := by
  unfold mathAt at h
  cases hf : P.funcs[f]? with
  | none => rw [hf] at h; cases h
  | some fn =>
    rw [hf] at h
    simp only at h
    split at h
    · rename_i hc
      obtain ⟨hb, ho⟩ := hc
      have ho' : fn.origin = "" := eq_of_beq ho
      unfold mathRow at h
      have key : ∀ (s : String) (g : Array Value → Sem Value), fn.name = s → (s == "runtime.NumGoroutine") = false → (s = "math.Float64bits" ∨ s = "math.Float32bits" ∨ s = "math.Float64frombits" ∨ s = "math.Float32frombits" ∨ s = "") →
          Extern.allRows.lookup s = some g → (callFunc f args).run P w = ((g args).run P w).andThen fun v w' => .ok (.value v) w' := by
        intro s g hn hng hs hg
        have e1 : Extern.findNext fn = none := by
          unfold Extern.findNext
          simp only [hn, ho', lk_next s hs, lk_next "" (by simp), Option.map_none]
          rfl
        have e2 : Extern.find fn = some g := by
          unfold Extern.find
          simp only [hn, ho', lk_gen s hs, lk_typ s hs, hg, Option.map_none]
          rfl
        have hng' : ¬ s = "runtime.NumGoroutine" := fun e => by rw [e] at hng; simp at hng
        have hb' : fn.body = none := by simpa using hb
        simp [callFunc, hf, hn, hng', hb', e1, e2, mark, Sem.run]
      split at h
      · rename_i e; cases h; exact key _ _ (eq_of_beq e) (by decide +kernel) (.inl rfl) lk0
      · split at h
        · rename_i e; cases h; exact key _ _ (eq_of_beq e) (by decide +kernel) (.inr (.inl rfl)) lk1
        · split at h
          · rename_i e; cases h; exact key _ _ (eq_of_beq e) (by decide +kernel) (.inr (.inr (.inl rfl))) lk2
          · split at h
            · rename_i e; cases h; exact key _ _ (eq_of_beq e) (by decide +kernel) (.inr (.inr (.inr (.inl rfl)))) lk3
            · cases h
    · cases h

theorem math_sound {o : Oper} {f i : Nat} {x : Operand} {ts : Array TypeId} (hm : mathAt P f = some i) (hx : opndOk x = true) (ho : o.op = .call { callee := .value (.func f), args := #[x], argTypes := ts }) (hf : FRel ρ H φ a) {v : Value}
    (h : aval (mathOp i x) φ H = some v) : ∃ u, (execOp a.eval o).run P w = .ok (.value u) w ∧ VRel ρ H v u := by
  have hrun : ∀ u, ((mathFn i #[a.eval x]).run P w = .ok u w) → (execOp a.eval o).run P w = .ok (.value u) w := fun u hu => by
    simp [execOp, ho, resolve, Deferred.ofValue, invoke, eval_func, run_math hm, hu]
  have hxv := hf.ev hx
  have hi : i = 0 ∨ i = 1 ∨ i = 2 ∨ i = 3 := by
    unfold mathAt at hm
    split at hm
    · split at hm
      · unfold mathRow at hm
        split at hm
        · cases hm; simp
        · split at hm
          · cases hm; simp
          · split at hm
            · cases hm; simp
            · split at hm
              · cases hm; simp
              · cases hm
      · cases hm
    · cases hm
  rcases hi with rfl | rfl | rfl | rfl
  · simp only [mathOp, aval] at h
    split at h
    · rename_i b hp
      split at h
      · cases h
      · rename_i hn
        cases h
        rw [hp] at hxv
        generalize hv : a.eval x = u at hxv hrun
        cases hxv with
        | @float _ _ c hw =>
          have hc : c = b := by
            by_cases hcn : nanB .f64 c = true
            · rw [← hw.1, nanB_canon] at hn; exact absurd hcn hn
            · rw [← hw.1, canon_of_num (by simpa using hcn)]
          subst hc
          exact ⟨_, hrun _ rfl, .int _ _⟩
    · cases h
  · simp only [mathOp, aval] at h
    split at h
    · rename_i b hp
      split at h
      · cases h
      · rename_i hn
        cases h
        rw [hp] at hxv
        generalize hv : a.eval x = u at hxv hrun
        cases hxv with
        | @float _ _ c hw =>
          have hc : c = b := by
            by_cases hcn : nanB .f32 c = true
            · rw [← hw.1, nanB_canon] at hn; exact absurd hcn hn
            · rw [← hw.1, canon_of_num (by simpa using hcn)]
          subst hc
          exact ⟨_, hrun _ rfl, .int _ _⟩
    · cases h
  · simp only [mathOp, aval] at h
    split at h
    · rename_i n hp
      split at h
      · rename_i hb
        cases h
        rw [hp] at hxv
        generalize hv : a.eval x = u at hxv hrun
        cases hxv
        exact ⟨_, hrun _ rfl, .float ⟨rfl, by have e : FloatKind.f64.format.width = 64 := rfl; rw [e]; omega⟩⟩
      · cases h
    · cases h
  · simp only [mathOp, aval] at h
    split at h
    · rename_i n hp
      split at h
      · rename_i hb
        cases h
        rw [hp] at hxv
        generalize hv : a.eval x = u at hxv hrun
        cases hxv
        exact ⟨_, hrun _ rfl, .float ⟨rfl, by have e : FloatKind.f32.format.width = 32 := rfl; rw [e]; omega⟩⟩
      · cases h
    · cases h
end
end Go.Gx
