/-
  Code of the abstract machine, its weakest precondition, and what a call comes to.
-/
import Derived.Test.YtddekdgggpifmaaGxEff
import Derived.Orders
namespace Go.Gx
set_option linter.unusedSimpArgs false
set_option linter.unusedVariables false
open Go.RowKit (Below)

def HasBody (P : Program) (f : FuncId) : Prop := ∃ fn, P.funcs[f]? = some fn ∧ fn.body.isSome = true ∧ (fn.name == "runtime.NumGoroutine") = false

/-- What a call comes to: it returns a value, in a later state. -/
def ACalls (P : Program) (f : FuncId) (args : List Value) (H : Heap) (Post : Value → Heap → Prop) : Prop :=
  HasBody P f ∧ ∀ (w0 : World) (ρ : Map) (w : World) (vals : Array Value), HRel w0 H ρ w → vals.size = args.length → (∀ (i : Nat) (v u : Value), args[i]? = some v → vals[i]? = some u → VRel ρ H v u) →
    Calls P f vals w fun e w' => ∃ r u H' ρ', e = .returned u ∧ Post r H' ∧ VRel ρ' H' r u ∧ HRel w0 H' ρ' w' ∧ Step ρ H ρ' H'

theorem ACalls.mono {P : Program} {f : FuncId} {args : List Value} {H : Heap} {S T : Value → Heap → Prop} (h : ACalls P f args H S) (hst : ∀ r H', S r H' → T r H') : ACalls P f args H T :=
  ⟨h.1, fun w0 ρ w vals hr hs hv => (h.2 w0 ρ w vals hr hs hv).mono fun _ _ ⟨r, u, H', ρ', e, hp, rest⟩ => ⟨r, u, H', ρ', e, hst _ _ hp, rest⟩⟩

structure AStep where
  ix : Nat
  dst : Option Nat
  op : AOp
  guard : Option (Nat × Bool)
  rc : List (Option Nat × AOp × Option (Nat × Bool))

inductive ACode where
  | skip
  | ops (l : List AStep)
  | seq (a b : ACode)
  | cond (c : Operand) (a b : ACode)
  | block (id : Nat) (a : ACode)
  | loop (live : List Nat) (a : ACode)
  | exit (id : Nat)
  | ret
  | keep (live : List Nat) (a : ACode)
  | both (i j : Nat) (a b : ACode)

inductive AExit where
  | normal
  | exit (id : Nat)
  | ret

def isEff : AOp → Bool
  | .new .. | .box .. | .bsl .. | .mks .. | .st .. | .stn .. | .app .. | .cpy .. | .call .. | .callv .. => true
  | _ => false
def readsHeap : AOp → Bool
  | .ld _ | .ldn .. | .ia .. => true
  | _ => false

def putd (d : Option Nat) (v : Value) (φ : Frame) : Frame :=
  match d with
  | some d => (d, v) :: φ
  | none => φ

def callK (P : Program) (f : FuncId) (args : List Value) (H : Heap) (K : Value → Heap → Prop) : Prop := ∃ S, ACalls P f args H S ∧ ∀ r H', S r H' → K r H'

def doV (P : Program) (op : AOp) (φ : Frame) (H : Heap) (K : Value → Heap → Prop) : Prop :=
  match op with
  | .call f args => callK P f (args.map φ.ev) H K
  | .callv g args => match φ.ev g with
    | .func (.func f) first cap => callK P f (first.toList ++ args.map φ.ev ++ cap.toList) H K
    | _ => False
  | op =>
    if isEff op = true then
      match aeff op φ H with
      | some (v, H') => K v H'
      | none => False
    else
      match aval op φ H with
      | some v => K v H
      | none => False

/-- 'some b': the guard says b; none: it can't be told. -/
def guardV (φ : Frame) : Option (Nat × Bool) → Option Bool
  | none => some true
  | some (g, want) => match φ.get g with
    | .bool b => some (b == want)
    | .tuple _ => some false
    | _ => none
def stepV (P : Program) (op : AOp) (gd : Option (Nat × Bool)) (φ : Frame) (H : Heap) (K : Value → Heap → Prop) : Prop :=
  match guardV φ gd with
  | some true => doV P op φ H K
  | some false => K undef H
  | none => False
/-- A reading operation, done anew, gives what it gave. -/
def rcOk (rc : List (Option Nat × AOp × Option (Nat × Bool))) (φ : Frame) (H : Heap) : Prop :=
  ∀ x ∈ rc, guardV φ x.2.2 = some true → ∀ d, x.1 = some d → aval x.2.1 φ H = some (φ.get d)

def awpOps (P : Program) : List AStep → (Frame → Heap → Prop) → Frame → Heap → Prop
  | [], K, φ, H => K φ H
  | s :: r, K, φ, H => stepV P s.op s.guard φ H fun v H' => (s.rc = [] ∨ rcOk s.rc φ H') ∧ awpOps P r K (putd s.dst v φ) H'

def Frame.keep (L : List Nat) (φ : Frame) : Frame := L.map fun t => (t, φ.get t)

def loopQ (live : List Nat) (I : List Value → Heap → Prop) (μ : List Value → Heap → Nat) (m : Nat) (Q : AExit → Frame → Heap → Prop) : AExit → Frame → Heap → Prop
  | .normal, φ, H => I (live.map φ.get) H ∧ μ (live.map φ.get) H < m
  | e, φ, H => Q e φ H
def seqQ (K : Frame → Heap → Prop) (Q : AExit → Frame → Heap → Prop) : AExit → Frame → Heap → Prop
  | .normal, φ, H => K φ H
  | e, φ, H => Q e φ H
def blockQ (id : Nat) (Q : AExit → Frame → Heap → Prop) : AExit → Frame → Heap → Prop
  | .exit j, φ, H => if j = id then Q .normal φ H else Q (.exit j) φ H
  | e, φ, H => Q e φ H

def awp (P : Program) : ACode → (AExit → Frame → Heap → Prop) → Frame → Heap → Prop
  | .skip, Q, φ, H => Q .normal φ H
  | .ops l, Q, φ, H => awpOps P l (Q .normal) φ H
  | .seq a b, Q, φ, H => awp P a (seqQ (awp P b Q) Q) φ H
  | .cond c a b, Q, φ, H => match φ.ev c with
    | .bool t => if t = true then awp P a Q φ H else awp P b Q φ H
    | _ => False
  | .block id a, Q, φ, H => awp P a (blockQ id Q) φ H
  | .loop live a, Q, φ, H => ∃ (I : List Value → Heap → Prop) (μ : List Value → Heap → Nat), I (live.map φ.get) H ∧ ∀ vs H1, I vs H1 → awp P a (loopQ live I μ (μ vs H1) Q) (live.zip vs) H1
  | .exit id, Q, φ, H => Q (.exit id) φ H
  | .ret, Q, φ, H => Q .ret φ H
  | .keep live a, Q, φ, H => awp P a Q (φ.keep live) H
  | .both _ _ a b, Q, φ, H => awp P a Q φ H ∧ awp P b Q φ H

/-! ### from the program's code -/
def allOk (l : List Operand) : Bool := l.all opndOk
def compQ (P : Program) : Op → Option AOp
  | .move x | .assign x => if opndOk x = true then some (.mv x) else none
  | .pick c a b => if opndOk c = true ∧ opndOk a = true ∧ opndOk b = true then some (.pick c a b) else none
  | .load t x =>
    if opndOk x = true then
      if scalarT P t = true then some (.ld x) else if aggT P t = true then (sizeT P t).map fun n => .ldn n x else none
    else none
  | .fieldAddr t x i => if opndOk x = true then
      match fieldT P t i with
      | some f => match sizeT P f.type with
        | some n => if n ≠ 0 then some (.fa f.offset x) else none
        | none => none
      | none => none
    else none
  | .field t x i => if opndOk x = true then
      match fieldT P t i with
      | some f => if scalarT P f.type = true then some (.fld f.offset x) else if aggT P f.type = true then (sizeT P f.type).map fun n => .fldn f.offset n x else none
      | none => none
    else none
  | .indexAddr t x i => if opndOk x = true ∧ opndOk i = true then
      match elemT P t with
      | some e => if sizeT P e = some 1 then some (.ia x i) else none
      | none => none
    else none
  | .binOp op t x y _ => if opndOk x = true ∧ opndOk y = true then
      match P.underlying t, op with
      | some .bool, .eql => some (.beq false x y)
      | some .bool, .neq => some (.beq true x y)
      | _, _ => some (.bin op x y)
    else none
  | .unOp op _ x => if opndOk x = true then some (.un op x) else none
  | .convert s d x => if opndOk x = true ∧ (P.underlying s).isSome = true then (cdT P d).map fun c => .cv c x else none
  | .extract x i => if opndOk x = true then some (.ext x i) else none
  | .nilCheck x => if opndOk x = true then some (.nc x) else none
  | .build t parts => match P.info? t, placesT P t with
    | some i, some places => match i.zero, partsT places parts.toList with
      | some z, some l => if z.cells.all constOk = true ∧ parts.all (fun p => opndOk p.2) = true then some (.bld z.cells.toList l) else none
      | _, _ => none
    | _, _ => none
  | .makeFunc f first captured => if first.all opndOk = true ∧ captured.all opndOk = true then some (.mkf f first.toList captured.toList) else none
  | .slice t x lo hi none => if opndOk x = true ∧ lo.all opndOk = true ∧ hi.all opndOk = true then
      match elemT P t with
      | some e => if sizeT P e = some 1 then some (.slc x lo hi) else none
      | none => none
    else none
  | .call { callee := .builtin .len, args := ⟨[x]⟩, argTypes := ⟨[t]⟩ } => if opndOk x = true ∧ (elemT P t).isSome = true then some (.len x) else none
  | .call { callee := .builtin .min, args := ⟨[x, y]⟩, argTypes := _ } => if opndOk x = true ∧ opndOk y = true then some (.mnx false x y) else none
  | .call { callee := .builtin .max, args := ⟨[x, y]⟩, argTypes := _ } => if opndOk x = true ∧ opndOk y = true then some (.mnx true x y) else none
  | .call { callee := .builtin .real, args := ⟨[x]⟩, argTypes := _ } => if opndOk x = true then some (.re x) else none
  | .call { callee := .builtin .imag, args := ⟨[x]⟩, argTypes := _ } => if opndOk x = true then some (.im x) else none
  | .call { callee := .builtin .complex, args := ⟨[x, y]⟩, argTypes := _ } => if opndOk x = true ∧ opndOk y = true then some (.cx x y) else none
  | _ => none
theorem compQ_spec {P : Program} {op : Op} {ao : AOp} (h : compQ P op = some ao) : CQ P op ao := by
  unfold compQ at h
  split at h
  · split at h <;> cases h; exact .move ‹_›
  · split at h <;> cases h; exact .assign ‹_›
  · split at h
    · rename_i hc; cases h; exact .pick hc.1 hc.2.1 hc.2.2
    · cases h
  · split at h
    · split at h
      · cases h; exact .ld ‹_› ‹_›
      · split at h
        · obtain ⟨n, hn, rfl⟩ := Option.map_eq_some_iff.1 h; exact .ldn ‹_› ‹_› hn
        · cases h
    · cases h
  · split at h
    · split at h
      · split at h
        · split at h
          · cases h; exact .fa ‹_› ‹_› ‹_› ‹_›
          · cases h
        · cases h
      · cases h
    · cases h
  · split at h
    · split at h
      · split at h
        · cases h; exact .fld ‹_› ‹_› ‹_›
        · split at h
          · obtain ⟨n, hn, rfl⟩ := Option.map_eq_some_iff.1 h; exact .fldn ‹_› ‹_› ‹_› hn
          · cases h
      · cases h
    · cases h
  · split at h
    · rename_i hc
      split at h
      · split at h
        · cases h; exact .ia hc.1 hc.2 ‹_› ‹_›
        · cases h
      · cases h
    · cases h
  · split at h
    · rename_i hc
      split at h
      · cases h; exact .beq hc.1 hc.2 ‹_›
      · cases h; exact .bne hc.1 hc.2 ‹_›
      · cases h; exact .bin hc.1 hc.2
    · cases h
  · split at h <;> cases h; exact .un ‹_›
  · split at h
    · rename_i hc
      obtain ⟨c, hcd, rfl⟩ := Option.map_eq_some_iff.1 h
      exact .cv hc.1 hc.2 hcd
    · cases h
  · split at h <;> cases h; exact .ext ‹_›
  · split at h <;> cases h; exact .nc ‹_›
  · split at h
    · split at h
      · split at h
        · rename_i hc; cases h; exact .bld ‹_› ‹_› hc.1 ‹_› ‹_› hc.2
        · cases h
      · cases h
    · cases h
  · split at h
    · rename_i hc; cases h; exact .mkf hc.1 hc.2
    · cases h
  · split at h
    · rename_i hc
      split at h
      · split at h
        · cases h; exact .slc hc.1 hc.2.1 hc.2.2 ‹_› ‹_›
        · cases h
      · cases h
    · cases h
  · split at h
    · rename_i hc
      cases h
      obtain ⟨e, he⟩ := Option.isSome_iff_exists.1 hc.2
      exact .len hc.1 he
    · cases h
  · split at h
    · rename_i hc; cases h; exact .min hc.1 hc.2
    · cases h
  · split at h
    · rename_i hc; cases h; exact .max hc.1 hc.2
    · cases h
  · split at h <;> cases h; exact .re ‹_›
  · split at h <;> cases h; exact .im ‹_›
  · split at h
    · rename_i hc; cases h; exact .cx hc.1 hc.2
    · cases h
  · cases h

def compE (P : Program) : Op → Option AOp
  | .alloc t => match P.info? t with
    | some i => match i.zero with
      | some z => if z.cells.all constOk = true ∧ z.cells.size ≤ 4096 then some (.new t z.cells.toList) else none
      | none => none
    | none => none
  | .box t x => if opndOk x = true then some (.box t x) else none
  | .buildSlice t len parts => match rowT P t with
    | some (e, _, z) => if len ≤ 4096 ∧ parts.all (fun p => opndOk p.2) = true then some (.bsl e len z parts.toList) else none
    | none => none
  | .makeSlice t l c => match rowT P t with
    | some (e, b, z) => if opndOk l = true ∧ opndOk c = true then some (.mks e b z l c) else none
    | none => none
  | .store t x v => if opndOk x = true ∧ opndOk v = true then
      if scalarT P t = true ∧ sizeT P t = some 1 then some (.st x v) else (sizeT P t).map fun n => .stn n x v
    else none
  | .call { callee := .builtin .append, args := ⟨[s, x]⟩, argTypes := ⟨[t, t']⟩ } => match rowT P t with
    | some (e, b, _) => if opndOk s = true ∧ opndOk x = true ∧ t = t' then some (.app e b s x) else none
    | none => none
  | .call { callee := .builtin .copy, args := ⟨[d, s]⟩, argTypes := ⟨[t, _]⟩ } => match rowT P t with
    | some _ => if opndOk d = true ∧ opndOk s = true then some (.cpy d s) else none
    | none => none
  | _ => none
theorem compE_spec {P : Program} {op : Op} {ao : AOp} (h : compE P op = some ao) : CE P op ao ∧ isEff ao = true := by
  unfold compE at h
  split at h
  · split at h
    · split at h
      · split at h
        · rename_i hc; cases h; exact ⟨.new ‹_› ‹_› hc.1 hc.2, rfl⟩
        · cases h
      · cases h
    · cases h
  · split at h <;> cases h; exact ⟨.box ‹_›, rfl⟩
  · split at h
    · split at h
      · rename_i hc; cases h; exact ⟨.bsl ‹_› hc.1 hc.2, rfl⟩
      · cases h
    · cases h
  · split at h
    · split at h
      · rename_i hc; cases h; exact ⟨.mks hc.1 hc.2 ‹_›, rfl⟩
      · cases h
    · cases h
  · split at h
    · rename_i hc
      split at h
      · rename_i hc2; cases h; exact ⟨.st hc.1 hc.2 hc2.1 hc2.2, rfl⟩
      · obtain ⟨n, hn, rfl⟩ := Option.map_eq_some_iff.1 h; exact ⟨.stn hc.1 hc.2 hn, rfl⟩
    · cases h
  · split at h
    · split at h
      · rename_i hc
        obtain ⟨h1, h2, rfl⟩ := hc
        cases h
        exact ⟨.app h1 h2 ‹_›, rfl⟩
      · cases h
    · cases h
  · split at h
    · split at h
      · rename_i hr hc
        cases h
        exact ⟨.cpy hc.1 hc.2 hr, rfl⟩
      · cases h
    · cases h
  · cases h

theorem CQ.quiet {P : Program} {op : Op} {ao : AOp} (h : CQ P op ao) : isEff ao = false := by cases h <;> rfl

inductive CK : Op → AOp → Prop
  | call {f args ts} : args.all opndOk = true → CK (.call { callee := .value (.func f), args := args, argTypes := ts }) (.call f args.toList)
  | callv {t args ts} : args.all opndOk = true → CK (.call { callee := .value (.tmp t), args := args, argTypes := ts }) (.callv (.tmp t) args.toList)
end Go.Gx
