/-
  The functions of package math that have no body: the bits of a float, and back.
-/
import Derived.Test.YtddekdgggpifmaaGxWp
import Derived.KernelRfl
import GoSem.Extern.Table
namespace Go.Gx
set_option linter.unusedSimpArgs false
set_option linter.unusedVariables false

def mathNames : List String := ["", "math.Float64bits", "math.Float32bits", "math.Float64frombits", "math.Float32frombits", "math.sqrt", "math.archFloor", "math.archCeil", "math.archTrunc"]
theorem lk_next (s : String) (h : s ∈ mathNames) : Extern.allNextRows.lookup s = none := by
  simp only [mathNames, List.mem_cons, List.not_mem_nil, or_false] at h
  rcases h with rfl | rfl | rfl | rfl | rfl | rfl | rfl | rfl | rfl <;> kernel_rfl
theorem lk_gen (s : String) (h : s ∈ mathNames) : Extern.allGenericRows.lookup s = none := by
  simp only [mathNames, List.mem_cons, List.not_mem_nil, or_false] at h
  rcases h with rfl | rfl | rfl | rfl | rfl | rfl | rfl | rfl | rfl <;> kernel_rfl
theorem lk_typ (s : String) (h : s ∈ mathNames) : Extern.allTypedRows.lookup s = none := by
  simp only [mathNames, List.mem_cons, List.not_mem_nil, or_false] at h
  rcases h with rfl | rfl | rfl | rfl | rfl | rfl | rfl | rfl | rfl <;> kernel_rfl
theorem lk0 : Extern.allRows.lookup "math.Float64bits" = some Extern.MathFloatBits.float64bits := by kernel_rfl
theorem lk1 : Extern.allRows.lookup "math.Float32bits" = some Extern.MathFloatBits.float32bits := by kernel_rfl
theorem lk2 : Extern.allRows.lookup "math.Float64frombits" = some Extern.MathFloatBits.float64frombits := by kernel_rfl
theorem lk3 : Extern.allRows.lookup "math.Float32frombits" = some Extern.MathFloatBits.float32frombits := by kernel_rfl
theorem lk4 : Extern.allRows.lookup "math.sqrt" = some Extern.MathSqrt.sqrt := by kernel_rfl
theorem lk5 : Extern.allRows.lookup "math.archFloor" = some (Extern.MathFloor.toIntegral "math.archFloor" .down) := by kernel_rfl
theorem lk6 : Extern.allRows.lookup "math.archCeil" = some (Extern.MathFloor.toIntegral "math.archCeil" .up) := by kernel_rfl
theorem lk7 : Extern.allRows.lookup "math.archTrunc" = some (Extern.MathFloor.toIntegral "math.archTrunc" .zero) := by kernel_rfl

def mathAt (P : Program) (f : FuncId) : Option Nat :=
  match P.funcs[f]? with
  | some fn => if fn.body.isNone = true ∧ (fn.origin == "") = true then mathRow fn else none
  | none => none

def mathOp (i : Nat) (x : Operand) : AOp :=
  match i with
  | 0 => .f64bits x
  | 1 => .f32bits x
  | 2 => .f64from x
  | 3 => .f32from x
  | 4 => .fsqrt x
  | 5 => .fint 0 x
  | 6 => .fint 1 x
  | _ => .fint 2 x
def mathFn (i : Nat) : Array Value → Sem Value :=
  match i with
  | 0 => Extern.MathFloatBits.float64bits
  | 1 => Extern.MathFloatBits.float32bits
  | 2 => Extern.MathFloatBits.float64frombits
  | 3 => Extern.MathFloatBits.float32frombits
  | 4 => Extern.MathSqrt.sqrt
  | 5 => Extern.MathFloor.toIntegral "math.archFloor" .down
  | 6 => Extern.MathFloor.toIntegral "math.archCeil" .up
  | _ => Extern.MathFloor.toIntegral "math.archTrunc" .zero

theorem eval_func (a : Act) (f : FuncId) : a.eval (.func f) = .func (.func f) #[] #[] := rfl
section
variable {P : Program} {w0 w : World} {H : Heap} {ρ : Map} {φ : Frame} {a : Act}
theorem run_math {f i : Nat} (h : mathAt P f = some i) (args : Array Value) : (callFunc f args).run P w = ((mathFn i args).run P w).andThen fun v w' => .ok (.value v) w' := by
  unfold mathAt at h
  cases hf : P.funcs[f]? with
  | none => rw [hf] at h; cases h
  | some fn =>
    rw [hf] at h
    simp only at h
    split at h
    · rename_i hc
      obtain ⟨hb, ho⟩ := hc
      have ho' : fn.origin = "" := eq_of_beq ho
      unfold mathRow at h
      have key : ∀ (s : String) (g : Array Value → Sem Value), fn.name = s → (s == "runtime.NumGoroutine") = false → s ∈ mathNames →
          Extern.allRows.lookup s = some g → (callFunc f args).run P w = ((g args).run P w).andThen fun v w' => .ok (.value v) w' := by
        intro s g hn hng hs hg
        have e1 : Extern.findNext fn = none := by
          unfold Extern.findNext
          simp only [hn, ho', lk_next s hs, lk_next "" (by simp [mathNames]), Option.map_none]
          rfl
        have e2 : Extern.find fn = some g := by
          unfold Extern.find
          simp only [hn, ho', lk_gen s hs, lk_typ s hs, hg, Option.map_none]
          rfl
        have hng' : ¬ s = "runtime.NumGoroutine" := fun e => by rw [e] at hng; simp at hng
        have hb' : fn.body = none := by simpa using hb
        simp [callFunc, hf, hn, hng', hb', e1, e2, mark, Sem.run]
      split at h
      · rename_i e; cases h; exact key _ _ (eq_of_beq e) (by decide +kernel) (by simp [mathNames]) lk0
      ·
        split at h
        · rename_i e; cases h; exact key _ _ (eq_of_beq e) (by decide +kernel) (by simp [mathNames]) lk1
        ·
          split at h
          · rename_i e; cases h; exact key _ _ (eq_of_beq e) (by decide +kernel) (by simp [mathNames]) lk2
          ·
            split at h
            · rename_i e; cases h; exact key _ _ (eq_of_beq e) (by decide +kernel) (by simp [mathNames]) lk3
            ·
              split at h
              · rename_i e; cases h; exact key _ _ (eq_of_beq e) (by decide +kernel) (by simp [mathNames]) lk4
              ·
                split at h
                · rename_i e; cases h; exact key _ _ (eq_of_beq e) (by decide +kernel) (by simp [mathNames]) lk5
                ·
                  split at h
                  · rename_i e; cases h; exact key _ _ (eq_of_beq e) (by decide +kernel) (by simp [mathNames]) lk6
                  ·
                    split at h
                    · rename_i e; cases h; exact key _ _ (eq_of_beq e) (by decide +kernel) (by simp [mathNames]) lk7
                    · cases h
    · cases h

theorem sqrt_def (c : Nat) : Extern.MathSqrt.sqrt #[.float .f64 c] = (match FloatKind.f64.format.sqrt c with
    | some r => pure (.float .f64 r)
    | none => do pure (.float .f64 (← choose (.nanBits .f64 c c)))) := rfl
theorem integral_def (nm : String) (way : Ieee.Toward) (c : Nat) : Extern.MathFloor.toIntegral nm way #[.float .f64 c] = (match FloatKind.f64.decode c with
    | .nan s t =>
      if FloatKind.f64.format.quiet t = t then pure (.float .f64 c) else do
      let kept ← choose (.extern "math.Floor,Ceil,Trunc,RoundToEven.signallingNaN kept" 2)
      pure (.float .f64 (if kept == 1 then c else FloatKind.f64.encode (.nan s (FloatKind.f64.format.quiet t))))
    | d => pure (.float .f64 (FloatKind.f64.encode (d.integral way)))) := rfl
theorem integral_num {P : Program} {w : World} {c : Nat} (hn : nanB .f64 c = false) (nm : String) (way : Ieee.Toward) :
    ((Extern.MathFloor.toIntegral nm way) #[.float .f64 c]).run P w = .ok (.float .f64 (FloatKind.f64.encode ((FloatKind.f64.decode c).integral way))) w := by
  unfold nanB at hn
  rw [integral_def]
  cases hd : FloatKind.f64.decode c with
  | nan s t => rw [hd] at hn; cases hn
  | number s m e => simp
  | infinity s => simp
theorem nan_word {s : Bool} {t : Nat} (h0 : 1 ≤ t) (h1 : t < 4503599627370496) : nanB .f64 (Ieee.double.write (.nan s t)) = true ∧ Ieee.double.write (.nan s t) < 2 ^ FloatKind.f64.format.width := by
  have e2 : Ieee.double.binade = 4503599627370496 := by decide +kernel
  have e3 : Ieee.double.infRung = 9218868437227405312 := by decide +kernel
  have e1 : Ieee.double.signWeight = 9223372036854775808 := by decide +kernel
  have ew : FloatKind.f64.format.width = 64 := rfl
  refine ⟨?_, by rw [ew]; simp only [Ieee.Format.write, Ieee.Format.word, e1, e2, e3]; split <;> omega⟩
  unfold nanB FloatKind.decode
  show (Ieee.double.read _).isNaN = true
  unfold Ieee.Format.read
  simp only [Ieee.Format.write, Ieee.Format.word, e1, e2, e3]
  have e4 : (if s = true then 9223372036854775808 + (9218868437227405312 + t % 4503599627370496) else 9218868437227405312 + t % 4503599627370496) % 9223372036854775808 = 9218868437227405312 + t := by split <;> omega
  rw [e4, if_neg (by omega), if_neg (by omega), if_neg (by omega)]
  rfl
theorem integral_nan {P : Program} {w : World} {c : Nat} {s : Bool} {t : Nat} (hd : FloatKind.f64.decode c = .nan s t) (hl : c < 2 ^ FloatKind.f64.format.width) :
    ∃ e n, (∀ (nm : String) (way : Ieee.Toward), ((Extern.MathFloor.toIntegral nm way) #[.float .f64 c]).run P w = .ok (.float .f64 e) (w.drewN n)) ∧ nanB .f64 e = true ∧ e < 2 ^ FloatKind.f64.format.width := by
  have hn : nanB .f64 c = true := by unfold nanB; rw [hd]; rfl
  by_cases hq : FloatKind.f64.format.quiet t = t
  · exact ⟨c, 0, fun nm way => by rw [integral_def]; simp [hd, hq, World.drewN], hn, hl⟩
  · have ht : 1 ≤ t ∧ t < 4503599627370496 := by
      have e2 : Ieee.double.binade = 4503599627370496 := by decide +kernel
      have e3 : Ieee.double.infRung = 9218868437227405312 := by decide +kernel
      have e1 : Ieee.double.signWeight = 9223372036854775808 := by decide +kernel
      have hd' : Ieee.double.read c = .nan s t := hd
      unfold Ieee.Format.read at hd'
      simp only [e1, e2, e3] at hd'
      split at hd'
      · cases hd'
      · split at hd'
        · cases hd'
        · split at hd'
          · cases hd'
          · cases hd'
            have : c % 9223372036854775808 < 9223372036854775808 := Nat.mod_lt _ (by omega)
            omega
    have hqt : 1 ≤ FloatKind.f64.format.quiet t ∧ FloatKind.f64.format.quiet t < 4503599627370496 := by
      have e : FloatKind.f64.format.quiet t = t ||| 2 ^ 51 := rfl
      rw [e]
      exact ⟨Nat.le_trans ht.1 Nat.left_le_or, Nat.or_lt_two_pow (n := 52) (by omega) (by omega)⟩
    obtain ⟨g1, g2⟩ := nan_word (s := s) hqt.1 hqt.2
    have key : ∀ (nm : String) (way : Ieee.Toward), ((Extern.MathFloor.toIntegral nm way) #[.float .f64 c]).run P w = .ok (.float .f64 (if (Question.extern "math.Floor,Ceil,Trunc,RoundToEven.signallingNaN kept" 2).cut (w.tape w.drawn (Question.extern "math.Floor,Ceil,Trunc,RoundToEven.signallingNaN kept" 2)) == 1 then c else FloatKind.f64.encode (.nan s (FloatKind.f64.format.quiet t)))) (w.drewN 1) := fun nm way => by
      rw [integral_def]; simp [hd, hq, choose, Sem.run, Question.forced, World.drewN]
    refine ⟨_, 1, key, ?_, ?_⟩
    · split
      · exact hn
      · exact g1
    · split
      · exact hl
      · exact g2

theorem math_sound {o : Oper} {f i : Nat} {x : Operand} {ts : Array TypeId} (hm : mathAt P f = some i) (hx : opndOk x = true) (ho : o.op = .call { callee := .value (.func f), args := #[x], argTypes := ts }) (hf : FRel ρ H φ a) {v : Value}
    (h : aval (mathOp i x) φ H = some v) : ∃ u n, (execOp a.eval o).run P w = .ok (.value u) (w.drewN n) ∧ VRel ρ H v u := by
  have hrun' : ∀ u n, ((mathFn i #[a.eval x]).run P w = .ok u (w.drewN n)) → (execOp a.eval o).run P w = .ok (.value u) (w.drewN n) := fun u n hu => by
    simp [execOp, ho, resolve, Deferred.ofValue, invoke, eval_func, run_math hm, hu]
  have hrun : ∀ u, ((mathFn i #[a.eval x]).run P w = .ok u w) → (execOp a.eval o).run P w = .ok (.value u) (w.drewN 0) := fun u hu => hrun' u 0 hu
  have hxv := hf.ev hx
  have hi : i = 0 ∨ i = 1 ∨ i = 2 ∨ i = 3 ∨ i = 4 ∨ i = 5 ∨ i = 6 ∨ i = 7 := by
    unfold mathAt at hm
    split at hm
    · split at hm
      · unfold mathRow at hm
        repeat' (split at hm)
        all_goals first | (cases hm; simp; done) | cases hm
      · cases hm
    · cases hm
  rcases hi with rfl | rfl | rfl | rfl | rfl | rfl | rfl | rfl
  · simp only [mathOp, aval] at h
    split at h
    · rename_i b hp
      split at h
      · cases h
      · rename_i hn
        cases h
        rw [hp] at hxv
        generalize hv : a.eval x = u at hxv hrun hrun'
        cases hxv with
        | @float _ _ c hw =>
          have hc : c = b := by
            by_cases hcn : nanB .f64 c = true
            · rw [← hw.1, nanB_canon] at hn; exact absurd hcn hn
            · rw [← hw.1, canon_of_num (by simpa using hcn)]
          subst hc
          exact ⟨_, 0, hrun _ rfl, .int _ _⟩
    · cases h
  · simp only [mathOp, aval] at h
    split at h
    · rename_i b hp
      split at h
      · cases h
      · rename_i hn
        cases h
        rw [hp] at hxv
        generalize hv : a.eval x = u at hxv hrun hrun'
        cases hxv with
        | @float _ _ c hw =>
          have hc : c = b := by
            by_cases hcn : nanB .f32 c = true
            · rw [← hw.1, nanB_canon] at hn; exact absurd hcn hn
            · rw [← hw.1, canon_of_num (by simpa using hcn)]
          subst hc
          exact ⟨_, 0, hrun _ rfl, .int _ _⟩
    · cases h
  · simp only [mathOp, aval] at h
    split at h
    · rename_i n hp
      split at h
      · rename_i hb
        cases h
        rw [hp] at hxv
        generalize hv : a.eval x = u at hxv hrun hrun'
        cases hxv
        exact ⟨_, 0, hrun _ rfl, .float ⟨rfl, by have e : FloatKind.f64.format.width = 64 := rfl; rw [e]; omega⟩⟩
      · cases h
    · cases h
  · simp only [mathOp, aval] at h
    split at h
    · rename_i n hp
      split at h
      · rename_i hb
        cases h
        rw [hp] at hxv
        generalize hv : a.eval x = u at hxv hrun hrun'
        cases hxv
        exact ⟨_, 0, hrun _ rfl, .float ⟨rfl, by have e : FloatKind.f32.format.width = 32 := rfl; rw [e]; omega⟩⟩
      · cases h
    · cases h
  · simp only [mathOp, aval] at h
    split at h
    · rename_i b hp
      cases h
      rw [hp] at hxv
      generalize hv : a.eval x = u at hxv hrun hrun'
      cases hxv with
      | @float _ _ c hw =>
        have hs : FloatKind.f64.format.sqrt b = FloatKind.f64.format.sqrt c := by rw [← hw.1, sqrt_canon]
        cases hr : FloatKind.f64.format.sqrt c with
        | some r =>
          refine ⟨.float .f64 r, 0, hrun _ (by simp only [mathFn]; rw [sqrt_def]; simp [hr]), ?_⟩
          have : sqrtF b = r := by unfold sqrtF; rw [hs, hr]; rfl
          rw [this]
          exact .float (FW.of_num (sqrt_lt hr).1 (sqrt_lt hr).2)
        | none =>
          have hn := nan_cut .f64 (.nanBits .f64 c c) (w.tape w.drawn (.nanBits .f64 c c)) (.inl ⟨c, c, rfl⟩)
          refine ⟨_, 1, hrun' _ 1 (by simp only [mathFn]; rw [sqrt_def]; simp [hr, choose, Sem.run, Question.forced, World.drewN]; rfl), ?_⟩
          have : sqrtF b = qnan .f64 := by unfold sqrtF; rw [hs, hr]; rfl
          rw [this]
          exact .float (FW.of_nan hn.1 hn.2)
    · cases h
  all_goals
    simp only [mathOp, aval] at h
    split at h
    · rename_i b hp
      cases h
      rw [hp] at hxv
      generalize hv : a.eval x = u at hxv hrun hrun'
      cases hxv with
      | @float _ _ c hw =>
        by_cases hn : nanB .f64 c = true
        · have hd : ∃ s t, FloatKind.f64.decode c = .nan s t := by
            unfold nanB at hn
            cases hh : FloatKind.f64.decode c <;> rw [hh] at hn <;> first | (cases hn; done) | exact ⟨_, _, rfl⟩
          obtain ⟨s, t, hd⟩ := hd
          obtain ⟨e, n, he, hnan, hlt⟩ := integral_nan (P := P) (w := w) hd hw.2
          exact ⟨_, n, hrun' _ n (by simp only [mathFn]; exact he _ _), .float (hw.intF_nan hn hnan hlt)⟩
        · have hn' : nanB .f64 c = false := by simpa using hn
          refine ⟨_, 0, hrun _ ?_, .float (hw.intF hn')⟩
          simp only [mathFn]
          exact integral_num hn' _ _
    · cases h
end
end Go.Gx
