/-
  From the program's operations to those of the abstract machine; that reading operations do the same.
-/
import Derived.Test.YtddekdgggpifmaaGxOps
import Derived.Laws.Tables
namespace Go.Gx
set_option linter.unusedSimpArgs false
set_option linter.unusedVariables false
open Go.RowKit (Below)

def scalarT (P : Program) (t : TypeId) : Bool :=
  match P.underlying t with
  | some (.struct _) | some (.array _ _) | none => false
  | _ => true
def aggT (P : Program) (t : TypeId) : Bool :=
  match P.underlying t with
  | some (.struct _) | some (.array _ _) => true
  | _ => false
def sizeT (P : Program) (t : TypeId) : Option Nat := (P.info? t).map (·.size)
def elemT (P : Program) (t : TypeId) : Option TypeId :=
  match P.underlying t with
  | some (.slice e) => some e
  | _ => none
def fieldT (P : Program) (t : TypeId) (i : Nat) : Option Field :=
  match P.underlying t with
  | some (.struct fs) => fs[i]?
  | _ => none
def cdT (P : Program) (t : TypeId) : Option CD :=
  match P.underlying t with
  | some (.int k) => some (.i k)
  | some (.float k) => some (.f k)
  | some (.complex k) => some (.c k)
  | _ => none
/-- A slice type whose elements are one cell each: the element's type, its bytes, its zero. -/
def rowT (P : Program) (t : TypeId) : Option (TypeId × Nat × Value) :=
  match elemT P t with
  | some e => match P.info? e with
    | some i => match i.zero with
      | some z => if i.size = 1 ∧ scalarT P e = true ∧ constOk z = true ∧ 0 < i.bytes then some (e, i.bytes, z) else none
      | none => none
    | none => none
  | none => none

/-- A struct's places: where each field lies, how many cells it has. -/
def placesT (P : Program) (t : TypeId) : Option (List (Nat × Nat)) :=
  match P.underlying t with
  | some (.struct fs) => fs.toList.mapM fun f => (P.info? f.type).map fun i => (f.offset, i.size)
  | _ => none
def partsT (places : List (Nat × Nat)) : List (Nat × Operand) → Option (List (Nat × Nat × Operand))
  | [] => some []
  | (i, x) :: r => match places[i]?, partsT places r with
    | some (o, n), some l => some ((o, n, x) :: l)
    | _, _ => none

/-- The functions of package math that have no body. -/
def mathRow (fn : Func) : Option Nat :=
  if fn.name == "math.Float64bits" then some 0 else if fn.name == "math.Float32bits" then some 1
  else if fn.name == "math.Float64frombits" then some 2 else if fn.name == "math.Float32frombits" then some 3
  else if fn.name == "math.sqrt" then some 4 else if fn.name == "math.archFloor" then some 5 else if fn.name == "math.archCeil" then some 6 else if fn.name == "math.archTrunc" then some 7 else none

/-- Reading operations, with what is asked of their types. -/
inductive CQ (P : Program) : Op → AOp → Prop
  | move {x} : opndOk x = true → CQ P (.move x) (.mv x)
  | assign {x} : opndOk x = true → CQ P (.assign x) (.mv x)
  | pick {c a b} : opndOk c = true → opndOk a = true → opndOk b = true → CQ P (.pick c a b) (.pick c a b)
  | ld {t x} : opndOk x = true → scalarT P t = true → CQ P (.load t x) (.ld x)
  | ldn {t x n} : opndOk x = true → aggT P t = true → sizeT P t = some n → CQ P (.load t x) (.ldn n x)
  | fa {t x i} {f : Field} {n} : opndOk x = true → fieldT P t i = some f → sizeT P f.type = some n → n ≠ 0 → CQ P (.fieldAddr t x i) (.fa f.offset x)
  | fld {t x i} {f : Field} : opndOk x = true → fieldT P t i = some f → scalarT P f.type = true → CQ P (.field t x i) (.fld f.offset x)
  | fldn {t x i} {f : Field} {n} : opndOk x = true → fieldT P t i = some f → aggT P f.type = true → sizeT P f.type = some n → CQ P (.field t x i) (.fldn f.offset n x)
  | ia {t x i e} : opndOk x = true → opndOk i = true → elemT P t = some e → sizeT P e = some 1 → CQ P (.indexAddr t x i) (.ia x i)
  | bin {op t x y u} : opndOk x = true → opndOk y = true → CQ P (.binOp op t x y u) (.bin op x y)
  | beq {t x y u} : opndOk x = true → opndOk y = true → P.underlying t = some .bool → CQ P (.binOp .eql t x y u) (.beq false x y)
  | bne {t x y u} : opndOk x = true → opndOk y = true → P.underlying t = some .bool → CQ P (.binOp .neq t x y u) (.beq true x y)
  | un {op t x} : opndOk x = true → CQ P (.unOp op t x) (.un op x)
  | cv {s d x c} : opndOk x = true → (P.underlying s).isSome = true → cdT P d = some c → CQ P (.convert s d x) (.cv c x)
  | ext {x i} : opndOk x = true → CQ P (.extract x i) (.ext x i)
  | nc {x} : opndOk x = true → CQ P (.nilCheck x) (.nc x)
  | mkf {f first captured} : first.all opndOk = true → captured.all opndOk = true → CQ P (.makeFunc f first captured) (.mkf f first.toList captured.toList)
  | bld {t} {parts : Array (Nat × Operand)} {i z places l} : P.info? t = some i → i.zero = some z → z.cells.all constOk = true → placesT P t = some places → partsT places parts.toList = some l →
      parts.all (fun p => opndOk p.2) = true → CQ P (.build t parts) (.bld z.cells.toList l)
  | len {x t e} : opndOk x = true → elemT P t = some e → CQ P (.call { callee := .builtin .len, args := #[x], argTypes := #[t] }) (.len x)
  | min {x y ts} : opndOk x = true → opndOk y = true → CQ P (.call { callee := .builtin .min, args := #[x, y], argTypes := ts }) (.mnx false x y)
  | max {x y ts} : opndOk x = true → opndOk y = true → CQ P (.call { callee := .builtin .max, args := #[x, y], argTypes := ts }) (.mnx true x y)
  | re {x ts} : opndOk x = true → CQ P (.call { callee := .builtin .real, args := #[x], argTypes := ts }) (.re x)
  | im {x ts} : opndOk x = true → CQ P (.call { callee := .builtin .imag, args := #[x], argTypes := ts }) (.im x)
  | cx {x y ts} : opndOk x = true → opndOk y = true → CQ P (.call { callee := .builtin .complex, args := #[x, y], argTypes := ts }) (.cx x y)
  | slc {t x lo hi e} : opndOk x = true → lo.all opndOk = true → hi.all opndOk = true → elemT P t = some e → sizeT P e = some 1 → CQ P (.slice t x lo hi none) (.slc x lo hi)

section
variable {P : Program} {w0 w : World} {H : Heap} {ρ : Map} {φ : Frame} {a : Act}

theorem isAgg_of_scalar {t : TypeId} (h : scalarT P t = true) : (isAgg t).run P w = .ok false w := by
  unfold scalarT at h
  unfold isAgg
  cases hu : P.underlying t with
  | none => rw [hu] at h; cases h
  | some d => rw [hu] at h; simp only [Sem.run_bind, run_underlying hu, Result.andThen_ok]; cases d <;> first | rfl | cases h
theorem isAgg_of_agg {t : TypeId} (h : aggT P t = true) : (isAgg t).run P w = .ok true w := by
  unfold aggT at h
  unfold isAgg
  cases hu : P.underlying t with
  | none => rw [hu] at h; cases h
  | some d => rw [hu] at h; simp only [Sem.run_bind, run_underlying hu, Result.andThen_ok]; cases d <;> first | rfl | cases h
theorem run_sizeT {t : TypeId} {n : Nat} (h : sizeT P t = some n) : (sizeOf t).run P w = .ok n w := by
  unfold sizeT at h
  obtain ⟨i, hi, rfl⟩ := Option.map_eq_some_iff.1 h
  simp [sizeOf, typeInfo, hi]
theorem elemT_under {t e : TypeId} (h : elemT P t = some e) : P.underlying t = some (.slice e) := by
  unfold elemT at h
  split at h
  · rename_i hu; cases h; exact hu
  · cases h
theorem fieldT_under {t : TypeId} {i : Nat} {f : Field} (h : fieldT P t i = some f) : ∃ fs, P.underlying t = some (.struct fs) ∧ fs[i]? = some f := by
  unfold fieldT at h
  split at h
  · rename_i fs hu; exact ⟨fs, hu, h⟩
  · cases h
theorem addr_add (b o n : Nat) : (⟨b, o, none⟩ : Addr).add n = ⟨b, o + n, none⟩ := Addr.add_lit b o n
theorem addrOf_add (l : Loc) (o n : Nat) : (addrOf l o).add n = addrOf l (o + n) := by simp [addrOf, addr_add, Nat.add_assoc]

/-- A pointer that is followed. -/
theorem ptr_live {h o t : Nat} {v : Value} {b : Blk} (hv : VRel ρ H (.pointer (some ⟨h, o, some t⟩)) v) (hb : H.blk h = some b) (ht : b.cs.length = t) : v = .pointer (some (addrOf (ρ h) o)) := by
  cases hv with
  | ptr _ hc => rw [(hc b hb).2 ht]

theorem run_sliceBound {k : IntKind} {u : Int} {c : Nat} {code : BoundsCode} (h0 : 0 ≤ u) (h1 : u ≤ (c : Int)) : (Instr.sliceBound (.int k u) c code).run P w = .ok u.toNat w := by
  simp [Instr.sliceBound, asIntOf, h0, h1]

theorem vcells_rel' {v u : Value} (h : VRel ρ H v u) (hs : solid v = true) : (vcells v).length = u.cells.size ∧ ∀ (i : Nat) (c d : Value), (vcells v)[i]? = some c → u.cells[i]? = some d → VRel ρ H c d := by
  have one : ∀ x y : Value, VRel ρ H x y → vcells x = [x] → y.cells = #[y] → (vcells x).length = y.cells.size ∧ ∀ (i : Nat) (c d : Value), (vcells x)[i]? = some c → y.cells[i]? = some d → VRel ρ H c d := fun x y hxy h1 h2 => by
    rw [h1, h2]
    refine ⟨rfl, fun i c d hc hd => ?_⟩
    cases i with
    | zero => simp at hc hd; subst hc; subst hd; exact hxy
    | succ i => simp at hc
  have h' := h
  cases h with
  | junk v => cases hs
  | @agg cs ds hsz hpt => exact ⟨by simpa [vcells, Value.cells] using hsz, fun i c d hc hd => hpt i c d (by simpa [vcells] using hc) (by simpa [Value.cells] using hd)⟩
  | bool b => exact one _ _ h' rfl rfl
  | int k n => exact one _ _ h' rfl rfl
  | str s => exact one _ _ h' rfl rfl
  | float h => exact one _ _ h' rfl rfl
  | complex h1 h2 => exact one _ _ h' rfl rfl
  | nilptr => exact one _ _ h' rfl rfl
  | ptr h1 h2 => exact one _ _ h' rfl rfl
  | nilslice => exact one _ _ h' rfl rfl
  | slice h1 h2 h3 h4 => exact one _ _ h' rfl rfl
  | tuple h1 h2 => exact one _ _ h' rfl rfl
  | func h1 h2 h3 h4 => exact one _ _ h' rfl rfl

theorem foldl_set (l : List Value) : ∀ (C : Array Value) (off j0 : Nat), off + j0 + l.length ≤ C.size →
    ((l.zipIdx j0).foldl (fun (cs : Array Value) (x : Value × Nat) => cs.setIfInBounds (off + x.2) x.1) C).size = C.size ∧
    ∀ k, ((l.zipIdx j0).foldl (fun (cs : Array Value) (x : Value × Nat) => cs.setIfInBounds (off + x.2) x.1) C)[k]? = if off + j0 ≤ k ∧ k < off + j0 + l.length then l[k - (off + j0)]? else C[k]? := by
  induction l with
  | nil => intro C off j0 h; exact ⟨rfl, fun k => by simp; intro h1 h2; omega⟩
  | cons v l ih =>
    intro C off j0 h
    simp only [List.length_cons] at h
    simp only [List.zipIdx_cons, List.foldl_cons]
    obtain ⟨h1, h2⟩ := ih (C.setIfInBounds (off + j0) v) off (j0 + 1) (by simp; omega)
    refine ⟨by rw [h1]; simp, fun k => ?_⟩
    rw [h2]
    by_cases hk : k = off + j0
    · subst hk
      rw [if_neg (by omega), if_pos (by simp)]
      simp [show off + j0 < C.size by omega]
    · by_cases hk2 : off + (j0 + 1) ≤ k ∧ k < off + (j0 + 1) + l.length
      · rw [if_pos hk2, if_pos (by simp; omega), show k - (off + j0) = (k - (off + (j0 + 1))) + 1 by omega, List.getElem?_cons_succ]
      · rw [if_neg hk2, if_neg (by simp; omega), Array.getElem?_setIfInBounds_ne (by omega)]

theorem afill_sound {place : Nat → Option (Nat × Nat)} {places : List (Nat × Nat)} (hp : ∀ i, place i = places[i]?) (hf : FRel ρ H φ a) : ∀ (parts : List (Nat × Operand)) (l : List (Nat × Nat × Operand)) (cs : List Value) (C : Array Value) (r : List Value),
    partsT places parts = some l → parts.all (fun p => opndOk p.2) = true → cs.length = C.size → (∀ (j : Nat) (v u : Value), cs[j]? = some v → C[j]? = some u → VRel ρ H v u) →
    afill cs (l.map fun p => (p.1, p.2.1, φ.ev p.2.2)) = some r →
    ∃ D, Instr.fill place C (parts.map fun p => (p.1, a.eval p.2)) = some D ∧ r.length = D.size ∧ ∀ (j : Nat) (v u : Value), r[j]? = some v → D[j]? = some u → VRel ρ H v u
  | [], l, cs, C, r, hl, _, hs, hc, h => by
    cases hl
    cases h
    exact ⟨C, rfl, hs, hc⟩
  | (i, x) :: parts, l, cs, C, r, hl, ho, hs, hc, h => by
    simp only [partsT] at hl
    split at hl
    · rename_i o n l' h1 h2
      cases hl
      simp only [List.map_cons, afill] at h
      split at h
      · rename_i hg
        obtain ⟨g1, g2, g3⟩ := hg
        simp only [List.all_cons, Bool.and_eq_true] at ho
        obtain ⟨e1, e2⟩ := vcells_rel' (hf.ev ho.1) g1
        have hsz : (a.eval x).cells.size = n := by rw [← e1, g2]
        obtain ⟨f1, f2⟩ := foldl_set (a.eval x).cells.toList C o 0 (by simp; omega)
        have hfold : (a.eval x).cells.zipIdx.foldl (fun cs (x : Value × Nat) => cs.setIfInBounds (o + x.2) x.1) C = ((a.eval x).cells.toList.zipIdx 0).foldl (fun (cs : Array Value) (x : Value × Nat) => cs.setIfInBounds (o + x.2) x.1) C := by
          rw [← Array.foldl_toList, Array.toList_zipIdx]
        obtain ⟨D, hD, hr1, hr2⟩ := afill_sound hp hf parts l' (cs.take o ++ vcells (φ.ev x) ++ cs.drop (o + n)) (((a.eval x).cells.toList.zipIdx 0).foldl (fun (cs : Array Value) (x : Value × Nat) => cs.setIfInBounds (o + x.2) x.1) C) r h2 ho.2
          (by rw [f1, ← hs]; simp [g2]; omega) (fun j v u hv hu => by
            rw [f2] at hu
            simp only [Nat.add_zero, Array.length_toList, hsz] at hu
            by_cases hj : o ≤ j ∧ j < o + n
            · rw [if_pos hj] at hu
              have : (vcells (φ.ev x))[j - o]? = some v := by
                rw [List.append_assoc, List.getElem?_append_right (by simp; omega), List.getElem?_append_left (by simp; omega)] at hv
                simpa [show min o cs.length = o by omega] using hv
              exact e2 (j - o) v u this (by simpa using hu)
            · rw [if_neg hj] at hu
              refine hc j v u ?_ hu
              by_cases hj1 : j < o
              · rw [List.append_assoc, List.getElem?_append_left (by simp; omega)] at hv
                rw [List.getElem?_take] at hv
                rw [if_pos hj1] at hv
                exact hv
              · rw [List.getElem?_append_right (by simp; omega)] at hv
                simp only [List.length_append, List.length_take, List.getElem?_drop] at hv
                rw [← hv]
                congr 1
                omega) h
        refine ⟨D, ?_, hr1, hr2⟩
        simp only [List.map_cons, Instr.fill, hp, h1]
        rw [if_neg (by simp [hsz]; omega), hfold]
        exact hD
      · cases h
    · cases hl

theorem aval_sound {o : Oper} {ao : AOp} (hc : CQ P o.op ao) (hf : FRel ρ H φ a) (hr : HRel w0 H ρ w) {v : Value} (h : aval ao φ H = some v) :
    ∃ u n, (execOp a.eval o).run P w = .ok (.value u) (w.drewN n) ∧ VRel ρ H v u := by
  obtain ⟨dst, op, type, pos, after, guard⟩ := o
  simp only at hc
  cases hc with
  | move hx => cases h; exact ⟨_, 0, by simp [execOp, World.drewN_zero], hf.ev hx⟩
  | assign hx => cases h; exact ⟨_, 0, by simp [execOp, World.drewN_zero], hf.ev hx⟩
  | @bld t parts it z places l hi hz hcs hp hl ho =>
    simp only [aval] at h
    obtain ⟨cs, hcs', rfl⟩ := Option.map_eq_some_iff.1 h
    obtain ⟨fs, hu, hpl⟩ : ∃ fs, P.underlying t = some (.struct fs) ∧ fs.toList.mapM (fun f => (P.info? f.type).map fun i => (f.offset, i.size)) = some places := by
      unfold placesT at hp
      split at hp
      · exact ⟨_, ‹_›, hp⟩
      · cases hp
    obtain ⟨D, hD, hr1, hr2⟩ := afill_sound (ρ := ρ) (H := H) (place := fun i => places.toArray[i]?) (fun i => by simp) hf parts.toList l z.cells.toList z.cells cs hl (by simpa using ho) (by simp) (fun j v u hv hu => by
      have hvu : v = u := by
        have : z.cells[j]? = some v := by simpa using hv
        rw [this] at hu
        exact Option.some.inj hu
      subst hvu
      refine constOk_rel ?_ ρ H
      exact Array.all_eq_true'.1 hcs v (Array.mem_of_getElem? hu)) hcs'
    refine ⟨.agg D, 0, ?_, .agg (by simpa using hr1) fun j v u hv hu => hr2 j v u (by simpa using hv) hu⟩
    have hb : P.built t (parts.map fun (i, x) => (i, a.eval x)).toList = some D := by
      unfold Program.built
      rw [hi, hu]
      simp only [hz, hpl]
      simpa using hD
    simp [execOp, run_build w t _ D hb, drewN_zero]
  | @pick c x y h1 h2 h3 =>
    have hcv := hf.ev h1
    simp only [aval] at h
    split at h
    · rename_i t ht
      rw [ht] at hcv
      cases h
      generalize hu : a.eval c = u at hcv
      cases hcv
      refine ⟨_, 0, by simp [execOp, hu, asBool, World.drewN_zero]; rfl, ?_⟩
      cases t
      · exact hf.ev h3
      · exact hf.ev h2
    · cases h
  | @ld t x hx ht =>
    have hxv := hf.ev hx
    simp only [aval] at h
    split at h
    · rename_i i o t' hp
      split at h
      · rename_i b hb
        split at h
        · rename_i hl
          rw [hp] at hxv
          have hptr := ptr_live hxv hb hl
          obtain ⟨u, hu, hr'⟩ := hr.cell hb h
          refine ⟨u, 0, ?_, hr'.1⟩
          simp [execOp, Instr.loadAt, hptr, Instr.sureAddr, loadVar, isAgg_of_scalar ht, hu, World.drewN_zero]
        · cases h
      · cases h
    · cases h
  | @ldn t x n hx ht hs =>
    have hxv := hf.ev hx
    simp only [aval] at h
    split at h
    · rename_i i o t' hp
      split at h
      · rename_i b hb
        split at h
        · rename_i hl
          cases h
          rw [hp] at hxv
          have hptr := ptr_live hxv hb hl.1
          have hcell : ∀ j, j < n → ∃ u, w.cell? (addrOf (ρ i) (o + j)) = some u ∧ ∀ v, b.cs[o + j]? = some v → CRel ρ H v u := fun j hj => by
            obtain ⟨u, hu, hr'⟩ := hr.cell hb (j := o + j) (v := b.cs[o + j]'(by omega)) (List.getElem?_eq_getElem (by omega))
            refine ⟨u, hu, fun v hv => ?_⟩
            rw [List.getElem?_eq_getElem (by omega)] at hv
            cases hv
            exact hr'
          have hld := run_loadCells (P := P) w (addrOf (ρ i) o) n (fun j => (w.cell? (addrOf (ρ i) (o + j))).getD undef) (fun j hj => by
            obtain ⟨u, hu, _⟩ := hcell j hj
            rw [addrOf_add, hu]; rfl)
          refine ⟨.agg ((List.range n).map fun j => (w.cell? (addrOf (ρ i) (o + j))).getD undef).toArray, 0, ?_, .agg ?_ fun j c d hc hd => ?_⟩
          · simp [execOp, Instr.loadAt, hptr, Instr.sureAddr, loadVar, isAgg_of_agg ht, run_sizeT hs, hld, World.drewN_zero]
          · simp; omega
          · simp only [List.getElem?_toArray, List.getElem?_take, List.getElem?_drop, List.getElem?_map] at hc hd
            by_cases hj : j < n
            · simp only [hj, if_true] at hc
              rw [List.getElem?_range hj] at hd
              simp only [Option.map_some, Option.some.injEq] at hd
              obtain ⟨u, hu, hcr⟩ := hcell j hj
              rw [hu] at hd
              subst hd
              exact (hcr c hc).1
            · simp only [hj, if_false] at hc; cases hc
        · cases h
      · cases h
    · cases h
  | @fa t x i f n hx hfd hs hn =>
    have hxv := hf.ev hx
    obtain ⟨fs, hu, hfi⟩ := fieldT_under hfd
    simp only [aval] at h
    split at h
    · rename_i j o t' hp
      cases h
      rw [hp] at hxv
      generalize hv : a.eval x = u at hxv
      cases hxv with
      | @ptr _ _ _ A hlt hc =>
        refine ⟨.pointer (some (A.add f.offset)), 0, ?_, .ptr hlt fun b hb => ⟨(hc b hb).1, fun e => ?_⟩⟩
        · simp [execOp, Instr.fieldAt, run_underlying hu, hfi, hv, Instr.sureAddr, fieldPlace, run_sizeT hs, hn, World.drewN_zero]
        · rw [(hc b hb).2 e, addrOf_add]
    · cases h
  | @fld t x i f hx hfd hs =>
    have hxv := hf.ev hx
    obtain ⟨fs, hu, hfi⟩ := fieldT_under hfd
    simp only [aval] at h
    split at h
    · rename_i cs hp
      rw [hp] at hxv
      generalize hv : a.eval x = u at hxv
      cases hxv with
      | @agg _ ds hsz hpt =>
        have hlt : f.offset < ds.size := by rw [← hsz]; exact (Array.getElem?_eq_some_iff.1 h).1
        have hd : ds[f.offset]? = some ds[f.offset] := Array.getElem?_eq_getElem hlt
        refine ⟨_, 0, ?_, hpt _ _ _ h hd⟩
        simp [execOp, Instr.field, run_underlying hu, hfi, hv, asAgg, part, isAgg_of_scalar hs, hlt, World.drewN_zero]
    · cases h
  | @fldn t x i f n hx hfd hg hs =>
    have hxv := hf.ev hx
    obtain ⟨fs, hu, hfi⟩ := fieldT_under hfd
    simp only [aval] at h
    split at h
    · rename_i cs hp
      cases h
      rw [hp] at hxv
      generalize hv : a.eval x = u at hxv
      cases hxv with
      | @agg _ ds hsz hpt =>
        refine ⟨.agg (ds.extract f.offset (f.offset + n)), 0, ?_, .agg (by simp [hsz]) fun j c d hc hd => ?_⟩
        · simp [execOp, Instr.field, run_underlying hu, hfi, hv, asAgg, part, isAgg_of_agg hg, run_sizeT hs, World.drewN_zero]
        · rw [Array.getElem?_extract] at hc hd
          split at hc
          · split at hd
            · exact hpt _ _ _ hc hd
            · cases hd
          · cases hc
    · cases h
  | @ia t x i e hx hi he hs =>
    have hxv := hf.ev hx
    have hiv := hf.ev hi
    have hu := elemT_under he
    simp only [aval] at h
    split at h
    · rename_i g o n t' q j hp hq
      split at h
      · rename_i b hb
        split at h
        · rename_i hj
          obtain ⟨hl, h0, h1⟩ := hj
          cases h
          rw [hp] at hxv
          rw [hq] at hiv
          generalize hv : a.eval x = u at hxv
          generalize hv' : a.eval i = u' at hiv
          cases hiv
          cases hxv with
          | @slice _ _ _ _ A c hlt hnt htc hcc =>
            have hA : A = some (addrOf (ρ g) o) := by
              have hso := (hcc b hb).2 hl
              unfold SliceOk at hso
              split at hso
              · rcases hso with hso | hso
                · exact hso.1
                · omega
              · rcases hso with hso | hso
                · omega
                · exact hso
            subst hA
            refine ⟨.pointer (some ((addrOf (ρ g) o).add (j.toNat * 1))), 0, ?_, .ptr hlt fun b' hb' => ?_⟩
            · simp [execOp, Instr.indexAt, hv, hv', asIntOf, run_underlying hu, run_sizeT hs, h0, h1, World.drewN_zero]
            · rw [hb] at hb'
              cases hb'
              exact ⟨by omega, fun _ => by rw [addrOf_add, Nat.mul_one]⟩
        · cases h
      · cases h
    · cases h
  | @bin op t x y u hx hy =>
    have hxv := hf.ev hx
    obtain ⟨r, n, hrun, hv⟩ := abin_sound (P := P) (w := w) op t h hxv (hf.ev hy)
    refine ⟨r, n, ?_, hv⟩
    have hg : eqGuard op t x y (a.eval x) (a.eval y) = pure () := by
      simp only [aval] at h
      unfold abin at h
      split at h
      · rename_i hp _; rw [hp] at hxv; generalize a.eval x = z at hxv; cases hxv; exact eqGuard_at_int ..
      · rename_i hp _; rw [hp] at hxv; generalize a.eval x = z at hxv; cases hxv; exact eqGuard_at_float ..
      · rename_i hp _; rw [hp] at hxv; generalize a.eval x = z at hxv; cases hxv; exact eqGuard_at_complex ..
      · cases h
    simp [execOp, hg, hrun]
  | @beq t x y u hx hy ht =>
    have hxv := hf.ev hx
    have hyv := hf.ev hy
    simp only [aval] at h
    split at h
    · rename_i c d hp hq
      cases h
      rw [hp] at hxv
      rw [hq] at hyv
      generalize hv : a.eval x = z at hxv
      generalize hv' : a.eval y = z' at hyv
      cases hxv; cases hyv
      refine ⟨_, 0, ?_, .bool _⟩
      simp [execOp, hv, hv', eqGuard_at_bool, run_eql_bool w t c d ht, World.drewN_zero]
    · cases h
  | @bne t x y u hx hy ht =>
    have hxv := hf.ev hx
    have hyv := hf.ev hy
    simp only [aval] at h
    split at h
    · rename_i c d hp hq
      cases h
      rw [hp] at hxv
      rw [hq] at hyv
      generalize hv : a.eval x = z at hxv
      generalize hv' : a.eval y = z' at hyv
      cases hxv; cases hyv
      refine ⟨_, 0, ?_, .bool _⟩
      simp [execOp, hv, hv', eqGuard_at_bool, run_neq_bool w t c d ht, World.drewN_zero]
    · cases h
  | @un op t x hx =>
    obtain ⟨r, hrun, hv⟩ := aun_sound (P := P) (w := w) op h (hf.ev hx)
    exact ⟨r, 0, by simp [execOp, hrun, World.drewN_zero], hv⟩
  | @cv s d x c hx hs hd =>
    have hfit : c.fits P d = true := by
      unfold cdT at hd
      unfold CD.fits
      split at hd <;> simp_all <;> subst hd <;> simp
    obtain ⟨r, n, hrun, hv⟩ := acv_sound (P := P) (w := w) c s d hs hfit h (hf.ev hx)
    exact ⟨r, n, by simp [execOp, hrun], hv⟩
  | @ext x i hx =>
    have hxv := hf.ev hx
    simp only [aval] at h
    split at h
    · rename_i vs hp
      rw [hp] at hxv
      generalize hv : a.eval x = z at hxv
      cases hxv with
      | @tuple _ ds hsz hpt =>
        have hlt : i < ds.size := by rw [← hsz]; exact (Array.getElem?_eq_some_iff.1 h).1
        exact ⟨ds[i], 0, by simp [execOp, Instr.extract, hv, hlt, World.drewN_zero], hpt _ _ _ h (Array.getElem?_eq_getElem hlt)⟩
    · cases h
  | @nc x hx =>
    have hxv := hf.ev hx
    simp only [aval] at h
    split at h
    · rename_i A hp
      cases h
      rw [hp] at hxv
      generalize hv : a.eval x = z at hxv
      have hz : ∃ B, z = .pointer (some B) := by cases hxv; exact ⟨_, rfl⟩
      obtain ⟨B, rfl⟩ := hz
      exact ⟨_, 0, by simp [execOp, hv, World.drewN_zero], hxv⟩
    · rename_i f c d hp
      cases h
      rw [hp] at hxv
      generalize hv : a.eval x = z at hxv
      have hz : ∃ c' d', z = .func (.func f) c' d' := by cases hxv; exact ⟨_, _, rfl⟩
      obtain ⟨c', d', rfl⟩ := hz
      exact ⟨_, 0, by simp [execOp, hv, World.drewN_zero], hxv⟩
    · cases h
  | @mkf f first captured h1 h2 =>
    simp only [aval] at h
    cases h
    refine ⟨.func f (first.map a.eval) (captured.map a.eval), 0, by simp [execOp, Instr.makeFunc, World.drewN_zero], .func (by simp) (fun i c d hc hd => ?_) (by simp) fun i c d hc hd => ?_⟩
    · simp only [List.getElem?_toArray, List.getElem?_map, Array.getElem?_toList, Array.getElem?_map] at hc hd
      cases hx : first[i]? with
      | none => rw [hx] at hc; cases hc
      | some x =>
        rw [hx] at hc hd
        cases hc; cases hd
        exact hf.ev (Array.all_eq_true_iff_forall_mem.1 h1 x (Array.mem_of_getElem? hx))
    · simp only [List.getElem?_toArray, List.getElem?_map, Array.getElem?_toList, Array.getElem?_map] at hc hd
      cases hx : captured[i]? with
      | none => rw [hx] at hc; cases hc
      | some x =>
        rw [hx] at hc hd
        cases hc; cases hd
        exact hf.ev (Array.all_eq_true_iff_forall_mem.1 h2 x (Array.mem_of_getElem? hx))
  | @len x t e hx he =>
    have hxv := hf.ev hx
    have hu := elemT_under he
    simp only [aval] at h
    split at h
    · rename_i A n c hp
      cases h
      rw [hp] at hxv
      generalize hv : a.eval x = z at hxv
      have hz : ∃ A' c', z = .slice A' n c' := by cases hxv <;> exact ⟨_, _, rfl⟩
      obtain ⟨A', c', rfl⟩ := hz
      refine ⟨.int .i64 n, 0, ?_, .int _ _⟩
      simp [execOp, resolve, invoke, builtin, hv, Builtin.len_, run_underlying hu, goInt, World.drewN_zero]
    · cases h
  | @min x y ts hx hy =>
    have hxv := hf.ev hx
    have hyv := hf.ev hy
    simp only [aval] at h
    split at h
    · rename_i k c _ d hp hq
      cases h
      rw [hp] at hxv
      rw [hq] at hyv
      generalize hv : a.eval x = z at hxv
      generalize hv' : a.eval y = z' at hyv
      cases hxv; cases hyv
      refine ⟨_, 0, ?_, .int _ _⟩
      simp [execOp, resolve, invoke, builtin, hv, hv', Builtin.min_, Builtin.min2, World.drewN_zero]
    · rw [if_neg (fun c => by cases c.1)] at h
      cases h
    · cases h
  | @max x y ts hx hy =>
    have hxv := hf.ev hx
    have hyv := hf.ev hy
    simp only [aval] at h
    split at h
    · rename_i k c _ d hp hq
      cases h
      rw [hp] at hxv
      rw [hq] at hyv
      generalize hv : a.eval x = z at hxv
      generalize hv' : a.eval y = z' at hyv
      cases hxv; cases hyv
      refine ⟨_, 0, ?_, .int _ _⟩
      simp [execOp, resolve, invoke, builtin, hv, hv', Builtin.max_, Builtin.max2, World.drewN_zero]
    · rename_i k c k' d hp hq
      split at h
      rotate_left
      · cases h
      rename_i hc
      obtain ⟨_, rfl⟩ := hc
      obtain ⟨r, hr, rfl⟩ := Option.map_eq_some_iff.1 h
      rw [hp] at hxv
      rw [hq] at hyv
      generalize hv : a.eval x = z at hxv
      generalize hv' : a.eval y = z' at hyv
      cases hxv with
      | float h1 =>
        cases hyv with
        | float h2 =>
          have hne : k.format.order c d ≠ none := by
            intro hn
            unfold maxW at hr
            rw [hn] at hr
            cases hr
          obtain ⟨m1, m2⟩ := order_num hne
          have e1 := (h1.eq_num m1).symm
          have e2 := (h2.eq_num m2).symm
          subst e1
          subst e2
          unfold maxW at hr
          cases ho : k.format.order c d with
          | none => exact absurd ho hne
          | some o =>
            rw [ho] at hr
            cases o with
            | lt =>
              cases hr
              exact ⟨_, 0, by simp [execOp, resolve, invoke, builtin, hv, hv', Builtin.max_, Builtin.max2, ho, World.drewN_zero], .float h2⟩
            | gt =>
              cases hr
              exact ⟨_, 0, by simp [execOp, resolve, invoke, builtin, hv, hv', Builtin.max_, Builtin.max2, ho, World.drewN_zero], .float h1⟩
            | eq =>
              cases hr
              refine ⟨.float k (if (k.decode c).neg = true then d else c), 0, by simp [execOp, resolve, invoke, builtin, hv, hv', Builtin.max_, Builtin.max2, ho, World.drewN_zero], .float ?_⟩
              split
              · exact h2
              · exact h1
    · cases h
  | @re x ts hx =>
    have hxv := hf.ev hx
    simp only [aval] at h
    split at h
    · rename_i k c d hp
      cases h
      rw [hp] at hxv
      generalize hv : a.eval x = z at hxv
      cases hxv with
      | complex h1 h2 => exact ⟨_, 0, by simp [execOp, resolve, invoke, builtin, hv, run_real, World.drewN_zero], .float h1⟩
    · cases h
  | @im x ts hx =>
    have hxv := hf.ev hx
    simp only [aval] at h
    split at h
    · rename_i k c d hp
      cases h
      rw [hp] at hxv
      generalize hv : a.eval x = z at hxv
      cases hxv with
      | complex h1 h2 => exact ⟨_, 0, by simp [execOp, resolve, invoke, builtin, hv, run_imag, World.drewN_zero], .float h2⟩
    · cases h
  | @cx x y ts hx hy =>
    have hxv := hf.ev hx
    have hyv := hf.ev hy
    simp only [aval] at h
    split at h
    · rename_i k c k' d hp hq
      split at h
      · rename_i hk
        subst hk
        cases h
        rw [hp] at hxv
        rw [hq] at hyv
        generalize hv : a.eval x = z at hxv
        generalize hv' : a.eval y = z' at hyv
        cases hxv with
        | float h1 => cases hyv with
          | float h2 => exact ⟨_, 0, by simp [execOp, resolve, invoke, builtin, hv, hv', run_complex, World.drewN_zero], .complex h1 h2⟩
      · cases h
    · cases h
  | @slc t x lo hi e hx hlo hhi he hs =>
    have hxv := hf.ev hx
    have hu := elemT_under he
    simp only [aval] at h
    split at h
    · rename_i g o n t' hp
      split at h
      · rename_i k1 l k2 u hl hh
        split at h
        · rename_i hb
          obtain ⟨h0, h1, h2⟩ := hb
          cases h
          rw [hp] at hxv
          generalize hv : a.eval x = z at hxv
          cases hxv with
          | @slice _ _ _ _ A c hlt hnt htc hcc =>
            refine ⟨.slice (if c = l.toNat then A else A.map (·.add (l.toNat * 1))) (u.toNat - l.toNat) (c - l.toNat), 0, ?_, .slice hlt (by omega) (by omega) fun b hb' => ⟨by have := (hcc b hb').1; omega, fun e => ?_⟩⟩
            · have hlow : ∀ (v : Value), lo.map a.eval = some v → ∃ k, v = .int k l := fun v hv' => by
                cases lo with
                | none => cases hv'
                | some y =>
                  cases hv'
                  have := hf.ev (x := y) (by simpa using hlo)
                  simp only [Option.map_some, Option.getD_some] at hl
                  rw [hl] at this
                  generalize a.eval y = q at this ⊢
                  cases this
                  exact ⟨_, rfl⟩
              have hlow0 : lo.map a.eval = none → l = 0 := fun hv' => by
                cases lo with
                | none => simp only [Option.map_none, Option.getD_none, Value.int.injEq] at hl; exact hl.2.symm
                | some y => cases hv'
              have hhigh : ∀ (v : Value), hi.map a.eval = some v → ∃ k, v = .int k u := fun v hv' => by
                cases hi with
                | none => cases hv'
                | some y =>
                  cases hv'
                  have := hf.ev (x := y) (by simpa using hhi)
                  simp only [Option.map_some, Option.getD_some] at hh
                  rw [hh] at this
                  generalize a.eval y = q at this ⊢
                  cases this
                  exact ⟨_, rfl⟩
              have hhigh0 : hi.map a.eval = none → u = (n : Int) := fun hv' => by
                cases hi with
                | none => simp only [Option.map_none, Option.getD_none, Value.int.injEq] at hh; exact hh.2.symm
                | some y => cases hv'
              have hbounds : (Instr.sliceBounds true n c (lo.map a.eval) (hi.map a.eval) none).run P w = .ok (l.toNat, u.toNat, c) w := by
                unfold Instr.sliceBounds
                cases hlo' : lo.map a.eval with
                | none =>
                  have hl0 := hlow0 hlo'
                  cases hhi' : hi.map a.eval with
                  | none =>
                    have hu0 := hhigh0 hhi'
                    simp [hl0, hu0]
                  | some v =>
                    obtain ⟨k, rfl⟩ := hhigh v hhi'
                    have hb1 := run_sliceBound (P := P) (w := w) (k := k) (c := c) (code := .sliceAcap) (show 0 ≤ u by omega) (by omega)
                    simp [hl0, hb1]
                | some v =>
                  obtain ⟨k, rfl⟩ := hlow v hlo'
                  cases hhi' : hi.map a.eval with
                  | none =>
                    have hu0 := hhigh0 hhi'
                    subst hu0
                    have hb1 := run_sliceBound (P := P) (w := w) (k := k) (c := n) (code := .sliceB) h0 h1
                    simp [hb1]
                  | some v =>
                    obtain ⟨k', rfl⟩ := hhigh v hhi'
                    have hb1 := run_sliceBound (P := P) (w := w) (k := k') (c := c) (code := .sliceAcap) (show 0 ≤ u by omega) (by omega)
                    have hb2 := run_sliceBound (P := P) (w := w) (k := k) (c := u.toNat) (code := .sliceB) h0 (by omega)
                    simp [hb1, hb2]
              simp [execOp, Instr.sliceAt, Instr.slice, run_underlying hu, hv, hbounds, run_sizeT hs, World.drewN_zero]
            · have hso := (hcc b hb').2 (by omega)
              unfold SliceOk at hso ⊢
              split at hso
              · rename_i hown
                rw [if_pos hown]
                rcases hso with ⟨hA, hc⟩ | ⟨e1, e2, e3⟩
                · subst hA
                  by_cases hcl : c = l.toNat
                  · rw [if_pos hcl]
                    by_cases hl0 : l.toNat = 0
                    · left; simp [hl0]; omega
                    · right; omega
                  · rw [if_neg hcl]
                    left
                    simp [addrOf_add]
                    omega
                · right; omega
              · rename_i hown
                rw [if_neg hown]
                rcases hso with e1 | hA
                · left; omega
                · subst hA
                  by_cases hcl : c = l.toNat
                  · left; omega
                  · rw [if_neg hcl]
                    right
                    simp [addrOf_add]
        · cases h
      · cases h
    · cases h
end
end Go.Gx
