/-
  The operations that make or change memory, but calls: that the world's operations do the same.
-/
import Derived.Test.YtddekdgggpifmaaGxOps2
import Derived.Laws.MakeOwn
import Derived.Laws.IdiomCopy
import Derived.Deep.OwnRows
namespace Go.Gx
set_option linter.unusedSimpArgs false
set_option linter.unusedVariables false
open Go.RowKit (Below)

/-- What a slice leads to, if it is a live one. -/
def readSl (H : Heap) : Value → Option (List Value)
  | .slice none _ _ => some []
  | .slice (some ⟨h, o, none⟩) n t => match H.blk h with
    | some b => if b.cs.length = o + t then some ((b.cs.drop o).take n) else none
    | none => none
  | _ => none

def afillS (cells : List Value) : List (Nat × Value) → Option (List Value)
  | [] => some cells
  | (i, v) :: r => if one v = true ∧ i < cells.length then afillS (cells.set i v) r else none

def aeff (o : AOp) (φ : Frame) (H : Heap) : Option (Value × Heap) :=
  match o with
  | .new ty cs => some (.pointer (some ⟨H.n, 0, some cs.length⟩), H.new ⟨true, ty, cs⟩)
  | .box ty x =>
    if solid (φ.ev x) = true ∧ (vcells (φ.ev x)).length ≤ 4096 ∧ (vcells (φ.ev x)).all one = true then
      some (.pointer (some ⟨H.n, 0, some (vcells (φ.ev x)).length⟩), H.new ⟨true, ty, vcells (φ.ev x)⟩)
    else none
  | .bsl ety len zero parts => match afillS (List.replicate len zero) (parts.map fun p => (p.1, φ.ev p.2)) with
    | some cs => some (.slice (some ⟨H.n, 0, none⟩) len len, H.new ⟨true, ety, cs⟩)
    | none => none
  | .mks ety bytes zero l c => match φ.ev l, φ.ev c with
    | .int .i64 l, .int .i64 c => if 0 ≤ l ∧ l = c ∧ l * bytes ≤ 281474976710656 then
        some (.slice (some ⟨H.n, 0, none⟩) l.toNat l.toNat, H.new ⟨true, ety, List.replicate l.toNat zero⟩) else none
    | _, _ => none
  | .st x v => match φ.ev x with
    | .pointer (some ⟨h, o, some t⟩) => match H.blk h with
      | some b => if b.own = true ∧ b.cs.length = t ∧ o < t ∧ one (φ.ev v) = true then some (undef, H.put h ⟨true, b.ty, b.cs.set o (φ.ev v)⟩) else none
      | none => none
    | _ => none
  | .stn n x v => match φ.ev x with
    | .pointer (some ⟨h, o, some t⟩) => match H.blk h with
      | some b => if b.own = true ∧ b.cs.length = t ∧ o + n ≤ t ∧ solid (φ.ev v) = true ∧ (vcells (φ.ev v)).length = n ∧ (vcells (φ.ev v)).all one = true then
          some (undef, H.put h ⟨true, b.ty, b.cs.take o ++ vcells (φ.ev v) ++ b.cs.drop (o + n)⟩) else none
      | none => none
    | _ => none
  | .app ety bytes s x => match readSl H (φ.ev x) with
    | none => none
    | some news => match φ.ev s with
      | .slice none _ _ =>
        if news = [] then some (.slice none 0 0, H)
        else if news.length * bytes ≤ 140737488355328 then some (.slice (some ⟨H.n, 0, none⟩) news.length news.length, H.new ⟨true, ety, news⟩) else none
      | .slice (some ⟨h, 0, none⟩) n t => match H.blk h with
        | some b =>
          if b.own = true ∧ b.ty = ety ∧ n = b.cs.length ∧ t = n ∧ (n + news.length) * bytes ≤ 140737488355328 then
            some (.slice (some ⟨h, 0, none⟩) (n + news.length) (n + news.length), H.put h ⟨true, b.ty, b.cs ++ news⟩) else none
        | none => none
      | _ => none
  | .cpy d s => match readSl H (φ.ev s) with
    | none => none
    | some src => match φ.ev d with
      | .slice none _ _ => some (.int .i64 0, H)
      | .slice (some ⟨h, o, none⟩) n t => match H.blk h with
        | some b =>
          if b.own = true ∧ b.cs.length = o + t ∧ n ≤ t then
            some (.int .i64 (min src.length n : Nat), H.put h ⟨true, b.ty, b.cs.take o ++ src.take n ++ b.cs.drop (o + min src.length n)⟩) else none
        | none => none
      | _ => none
  | _ => none

inductive CE (P : Program) : Op → AOp → Prop
  | new {t i z} : P.info? t = some i → i.zero = some z → z.cells.all constOk = true → z.cells.size ≤ 4096 → CE P (.alloc t) (.new t z.cells.toList)
  | box {t x} : opndOk x = true → CE P (.box t x) (.box t x)
  | bsl {t len} {parts : Array (Nat × Operand)} {e bytes z} : rowT P t = some (e, bytes, z) → len ≤ 4096 → parts.all (fun p => opndOk p.2) = true → CE P (.buildSlice t len parts) (.bsl e len z parts.toList)
  | mks {t l c e bytes z} : opndOk l = true → opndOk c = true → rowT P t = some (e, bytes, z) → CE P (.makeSlice t l c) (.mks e bytes z l c)
  | st {t x v} : opndOk x = true → opndOk v = true → scalarT P t = true → sizeT P t = some 1 → CE P (.store t x v) (.st x v)
  | stn {t x v n} : opndOk x = true → opndOk v = true → sizeT P t = some n → CE P (.store t x v) (.stn n x v)
  | app {t s x e bytes z} : opndOk s = true → opndOk x = true → rowT P t = some (e, bytes, z) → CE P (.call { callee := .builtin .append, args := #[s, x], argTypes := #[t, t] }) (.app e bytes s x)
  | cpy {t t' d s e bytes z} : opndOk d = true → opndOk s = true → rowT P t = some (e, bytes, z) → CE P (.call { callee := .builtin .copy, args := #[d, s], argTypes := #[t, t'] }) (.cpy d s)

section
variable {P : Program} {w0 w : World} {H : Heap} {ρ : Map} {φ : Frame} {a : Act}

theorem vcells_rel {v u : Value} (h : VRel ρ H v u) (hs : solid v = true) : (vcells v).length = u.cells.size ∧ ∀ (i : Nat) (c d : Value), (vcells v)[i]? = some c → u.cells[i]? = some d → VRel ρ H c d := by
  cases h with
  | junk v => cases hs
  | @agg cs ds hsz hpt => exact ⟨by simpa [vcells, Value.cells] using hsz, fun i c d hc hd => hpt i c d (by simpa [vcells] using hc) (by simpa [Value.cells] using hd)⟩
  | bool b => exact ⟨rfl, fun i c d hc hd => by cases i <;> simp [vcells, Value.cells] at hc hd; subst hc; subst hd; exact .bool b⟩
  | int k n => exact ⟨rfl, fun i c d hc hd => by cases i <;> simp [vcells, Value.cells] at hc hd; subst hc; subst hd; exact .int k n⟩
  | str s => exact ⟨rfl, fun i c d hc hd => by cases i <;> simp [vcells, Value.cells] at hc hd; subst hc; subst hd; exact .str s⟩
  | float h => exact ⟨rfl, fun i c d hc hd => by cases i <;> simp [vcells, Value.cells] at hc hd; subst hc; subst hd; exact .float h⟩
  | complex h1 h2 => exact ⟨rfl, fun i c d hc hd => by cases i <;> simp [vcells, Value.cells] at hc hd; subst hc; subst hd; exact .complex h1 h2⟩
  | nilptr => exact ⟨rfl, fun i c d hc hd => by cases i <;> simp [vcells, Value.cells] at hc hd; subst hc; subst hd; exact .nilptr⟩
  | ptr h1 h2 => exact ⟨rfl, fun i c d hc hd => by cases i <;> simp [vcells, Value.cells] at hc hd; subst hc; subst hd; exact .ptr h1 h2⟩
  | nilslice => exact ⟨rfl, fun i c d hc hd => by cases i <;> simp [vcells, Value.cells] at hc hd; subst hc; subst hd; exact .nilslice⟩
  | slice h1 h2 h3 h4 => exact ⟨rfl, fun i c d hc hd => by cases i <;> simp [vcells, Value.cells] at hc hd; subst hc; subst hd; exact .slice h1 h2 h3 h4⟩
  | tuple h1 h2 => exact ⟨rfl, fun i c d hc hd => by cases i <;> simp [vcells, Value.cells] at hc hd; subst hc; subst hd; exact .tuple h1 h2⟩
  | func h1 h2 h3 h4 => exact ⟨rfl, fun i c d hc hd => by cases i <;> simp [vcells, Value.cells] at hc hd; subst hc; subst hd; exact .func h1 h2 h3 h4⟩

theorem constOk_one {v : Value} (h : constOk v = true) : one v = true := by
  unfold constOk at h
  split at h <;> first | rfl | cases h
theorem constOk_cell {v : Value} (h : constOk v = true) (ρ : Map) (H : Heap) : CRel ρ H v v := (constOk_rel h ρ H).cell (constOk_one h)

structure RowT (P : Program) (t e : TypeId) (bytes : Nat) (z : Value) : Prop where
  under : P.underlying t = some (.slice e)
  info : ∃ i, P.info? e = some i ∧ i.zero = some z ∧ i.size = 1 ∧ i.bytes = bytes
  scalar : scalarT P e = true
  const : constOk z = true
  pos : 0 < bytes
theorem rowT_spec {t e : TypeId} {bytes : Nat} {z : Value} (h : rowT P t = some (e, bytes, z)) : RowT P t e bytes z := by
  unfold rowT at h
  split at h
  · rename_i e' he
    split at h
    · rename_i i hi
      split at h
      · rename_i z' hz
        split at h
        · rename_i hc
          cases h
          exact ⟨elemT_under he, ⟨i, hi, hz, hc.1, rfl⟩, hc.2.1, hc.2.2.1, hc.2.2.2⟩
        · cases h
      · cases h
    · cases h
  · cases h

/-- What is asked of such an operation. -/
def EffOk (P : Program) (o : Oper) (a : Act) (w0 w : World) (ρ : Map) (H : Heap) (v : Value) (H' : Heap) : Prop :=
  ∃ nx u w' ρ', (execOp a.eval o).run P w = .ok nx w' ∧ (nx = .value u ∨ (nx = .skip ∧ u = undef)) ∧ VRel ρ' H' v u ∧ HRel w0 H' ρ' w' ∧ Step ρ H ρ' H'

theorem alloc_ptr {ty : TypeId} {cs : List Value} {C : Array Value} {ρ' : Map} (hn : ρ' H.n = ⟨w.heap.size, 0, C.size⟩) :
    VRel ρ' (H.new ⟨true, ty, cs⟩) (.pointer (some ⟨H.n, 0, some cs.length⟩)) (.pointer (some ⟨w.heap.size, 0, none⟩)) := by
  refine .ptr (by simp [Heap.new]) fun b hb => ?_
  simp only [Heap.new, if_true, Option.some.injEq] at hb
  subst hb
  exact ⟨Nat.le_refl _, fun _ => by simp [addrOf, hn]⟩
theorem alloc_slice {ty : TypeId} {cs : List Value} {C : Array Value} {ρ' : Map} (n : Nat) (hn : n ≤ cs.length) (hC : cs.length = C.size) (hρ : ρ' H.n = ⟨w.heap.size, 0, C.size⟩) :
    VRel ρ' (H.new ⟨true, ty, cs⟩) (.slice (some ⟨H.n, 0, none⟩) n cs.length) (.slice (some ⟨w.heap.size, 0, none⟩) n cs.length) := by
  refine .slice (by simp [Heap.new]) hn (Nat.le_refl _) fun b hb => ?_
  simp only [Heap.new, if_true, Option.some.injEq] at hb
  subst hb
  refine ⟨by simp, fun _ => ?_⟩
  unfold SliceOk
  simp only [if_true]
  exact .inl ⟨by simp [addrOf, hρ], by simp [hρ, hC]⟩

theorem new_sound {t : TypeId} {i : TypeInfo} {z : Value} (hi : P.info? t = some i) (hz : i.zero = some z) (hc : z.cells.all constOk = true) (hm : z.cells.size ≤ 4096) {o : Oper} (ho : o.op = .alloc t) (hr : HRel w0 H ρ w) :
    EffOk P o a w0 w ρ H (.pointer (some ⟨H.n, 0, some z.cells.toList.length⟩)) (H.new ⟨true, t, z.cells.toList⟩) := by
  obtain ⟨ρ', h1, h2, h3⟩ := hr.alloc t z.cells.toList z.cells (by simp) (by omega) (fun j v hv => by
    simp only [Array.getElem?_toList] at hv
    exact ⟨v, hv, constOk_cell (Array.all_eq_true_iff_forall_mem.1 hc v (Array.mem_of_getElem? hv)) _ _⟩)
  refine ⟨.value (.pointer (some ⟨w.heap.size, 0, none⟩)), _, _, ρ', ?_, .inl rfl, alloc_ptr h3, h1, h2⟩
  simp [execOp, ho, Instr.alloc, zeroValue, typeInfo, hi, hz, newVar, newRow, newObj, Sem.run]

theorem box_sound {t : TypeId} {x : Operand} (hx : opndOk x = true) {o : Oper} (ho : o.op = .box t x) (hf : FRel ρ H φ a) (hr : HRel w0 H ρ w)
    (hs : solid (φ.ev x) = true) (hm : (vcells (φ.ev x)).length ≤ 4096) (h1 : (vcells (φ.ev x)).all one = true) :
    EffOk P o a w0 w ρ H (.pointer (some ⟨H.n, 0, some (vcells (φ.ev x)).length⟩)) (H.new ⟨true, t, vcells (φ.ev x)⟩) := by
  obtain ⟨hl, hc⟩ := vcells_rel (hf.ev hx) hs
  obtain ⟨ρ', g1, g2, g3⟩ := hr.alloc t (vcells (φ.ev x)) (a.eval x).cells (by omega) (by omega) (fun j v hv => by
    have hj : j < (a.eval x).cells.size := by rw [← hl]; exact (List.getElem?_eq_some_iff.1 hv).1
    exact ⟨_, Array.getElem?_eq_getElem hj, (hc j v _ hv (Array.getElem?_eq_getElem hj)).cell (List.all_eq_true.1 h1 v (List.mem_of_getElem? hv))⟩)
  refine ⟨.value (.pointer (some ⟨w.heap.size, 0, none⟩)), _, _, ρ', ?_, .inl rfl, alloc_ptr g3, g1, g2⟩
  simp [execOp, ho, Instr.box, newVar, newRow, newObj, Sem.run]

/-- A list of parts, filled in. -/
theorem fill_sound : ∀ (parts : List (Nat × Value)) (us : List (Nat × Value)) (cs : List Value) (C : Array Value) (r : List Value),
    parts.length = us.length → (∀ (j : Nat) (p q : Nat × Value), parts[j]? = some p → us[j]? = some q → p.1 = q.1 ∧ VRel ρ H p.2 q.2) →
    cs.length = C.size → (∀ (j : Nat) (v : Value), cs[j]? = some v → ∃ u, C[j]? = some u ∧ CRel ρ H v u) → afillS cs parts = some r →
    ∃ D : Array Value, Instr.fill (fun i => some (i * 1, 1)) C us = some D ∧ r.length = D.size ∧ D.size = C.size ∧ ∀ (j : Nat) (v : Value), r[j]? = some v → ∃ u, D[j]? = some u ∧ CRel ρ H v u := by
  intro parts
  induction parts with
  | nil =>
    intro us cs C r hl _ hC hc h
    cases us with
    | nil => cases h; exact ⟨C, rfl, hC, rfl, hc⟩
    | cons _ _ => cases hl
  | cons p ps ih =>
    intro us cs C r hl hp hC hc h
    cases us with
    | nil => cases hl
    | cons q qs =>
      obtain ⟨i, v⟩ := p
      obtain ⟨i', u⟩ := q
      obtain ⟨e, hv⟩ := hp 0 _ _ rfl rfl
      simp only at e hv
      subst e
      simp only [afillS] at h
      split at h
      · rename_i hone
        have hcr : CRel ρ H v u := hv.cell hone.1
        have hcells : u.cells = #[u] := by
          have := hcr.2
          cases u <;> first | rfl | cases this
        obtain ⟨D, h1, h2, h3, h4⟩ := ih qs (cs.set i v) (C.setIfInBounds i u) r (by simpa using hl) (fun j p q hj hq => hp (j + 1) p q hj hq) (by simpa using hC) (fun j v' hv' => by
          rw [List.getElem?_set] at hv'
          by_cases hij : i = j
          · subst hij
            simp only [if_true] at hv'
            rw [if_pos hone.2] at hv'
            cases hv'
            exact ⟨u, by simp [← hC, hone.2], hcr⟩
          · rw [if_neg hij] at hv'
            rw [Array.getElem?_setIfInBounds_ne hij]
            exact hc j v' hv') h
        refine ⟨D, ?_, h2, by simpa using h3, h4⟩
        have hlt : i + 1 ≤ C.size := by omega
        simp only [Instr.fill, hcells, Nat.mul_one]
        rw [if_neg (by simp; omega)]
        simpa using h1
      · cases h

theorem bsl_sound {t : TypeId} {len : Nat} {parts : Array (Nat × Operand)} {e : TypeId} {bytes : Nat} {z : Value} (ht : rowT P t = some (e, bytes, z)) (hlen : len ≤ 4096) (hp : parts.all (fun p => opndOk p.2) = true)
    {o : Oper} (ho : o.op = .buildSlice t len parts) (hf : FRel ρ H φ a) (hr : HRel w0 H ρ w) {cs : List Value} (h : afillS (List.replicate len z) (parts.toList.map fun p => (p.1, φ.ev p.2)) = some cs) :
    EffOk P o a w0 w ρ H (.slice (some ⟨H.n, 0, none⟩) len len) (H.new ⟨true, e, cs⟩) := by
  have T := rowT_spec ht
  obtain ⟨i, hi, hz, hsz, hby⟩ := T.info
  have hzc : z.cells = #[z] := by
    have := constOk_one T.const
    cases z <;> first | rfl | cases this
  have hbase : ((Array.range (len * 1)).map (fun j => z.cells[j % z.cells.size]!)) = Array.replicate len z := by
    apply Array.ext
    · simp
    · intro j h1 h2
      simp [hzc, Nat.mod_one]
  obtain ⟨D, h1, h2, h3, h4⟩ := fill_sound (ρ := ρ) (H := H) (parts.toList.map fun p => (p.1, φ.ev p.2)) (parts.map fun (j, x) => (j, a.eval x)).toList (List.replicate len z) (Array.replicate len z) cs (by simp)
    (fun j p q hj hq => by
      simp only [List.getElem?_map, Array.getElem?_toList, Array.getElem?_map] at hj hq
      cases hx : parts[j]? with
      | none => rw [hx] at hj; cases hj
      | some x =>
        rw [hx] at hj hq
        cases hj; cases hq
        exact ⟨rfl, hf.ev (Array.all_eq_true_iff_forall_mem.1 hp x (Array.mem_of_getElem? hx))⟩)
    (by simp) (fun j v hv => by
      rw [List.getElem?_replicate] at hv
      split at hv
      · rename_i hj
        cases hv
        exact ⟨z, by simp [hj], constOk_cell T.const _ _⟩
      · cases hv) h
  have hDl : D.size = len := by simpa using h3
  obtain ⟨ρ', g1, g2, g3⟩ := hr.alloc e cs D (by omega) (by omega) h4
  have hcl : cs.length = len := by omega
  have hsl : VRel ρ' (H.new ⟨true, e, cs⟩) (.slice (some ⟨H.n, 0, none⟩) len len) (.slice (some ⟨w.heap.size, 0, none⟩) len len) := by
    have := alloc_slice (H := H) (w := w) (ty := e) (ρ' := ρ') len (by omega) h2 g3
    rwa [hcl] at this
  refine ⟨.value (.slice (some ⟨w.heap.size, 0, none⟩) len len), _, _, ρ', ?_, .inl rfl, hsl, g1, g2⟩
  have hfill : Instr.fill (fun i => some (i * 1, 1)) (Array.replicate len z) (parts.map fun (j, x) => (j, a.eval x)).toList = some D := h1
  have hlim : ¬ (len * 1 > 2 ^ 24) := by omega
  by_cases hl0 : len = 0
  · subst hl0
    have hz0 : ((Array.range (0 * 1)).map (fun j => (#[] : Array Value)[j % (#[] : Array Value).size]!)) = Array.replicate 0 z := by simp
    simp only [execOp, ho, Instr.buildSlice, Sem.run_bind, run_underlying T.under, Result.andThen_ok, sizeOf, typeInfo]
    simp [hi, hsz, newRow, newObj]
    have hr0 : Array.map (fun _ : Nat => (default : Value)) (Array.range 0) = #[] := by rw [Array.range_zero', Array.map_empty]
    have hf' : Instr.fill (fun i => some (i, 1)) #[] ((parts.map fun (j, x) => (j, a.eval x)).toList) = some D := by simpa using hfill
    simp at hf'
    rw [hr0, hf']
    rfl
  · simp only [execOp, ho, Instr.buildSlice, Sem.run_bind, run_underlying T.under, Result.andThen_ok, sizeOf, typeInfo]
    simp [hi, hsz, hl0, zeroValue, typeInfo, hz]
    rw [if_neg (by omega)]
    have hb' := hbase
    simp only [Nat.mul_one] at hb'
    have hf' : Instr.fill (fun i => some (i, 1)) (Array.replicate len z) ((parts.map fun (j, x) => (j, a.eval x)).toList) = some D := by simpa using hfill
    simp at hf'
    simp [hb', hf', newRow, newObj, Sem.run]

theorem mks_sound {t : TypeId} {l c : Operand} {e : TypeId} {bytes : Nat} {z : Value} (hl : opndOk l = true) (hc : opndOk c = true) (ht : rowT P t = some (e, bytes, z))
    {o : Oper} (ho : o.op = .makeSlice t l c) (hf : FRel ρ H φ a) (hr : HRel w0 H ρ w) {n m : Int} (e1 : φ.ev l = .int .i64 n) (e2 : φ.ev c = .int .i64 m) (h0 : 0 ≤ n) (h1 : n = m) (h2 : n * bytes ≤ 281474976710656) :
    EffOk P o a w0 w ρ H (.slice (some ⟨H.n, 0, none⟩) n.toNat n.toNat) (H.new ⟨true, e, List.replicate n.toNat z⟩) := by
  subst h1
  have T := rowT_spec ht
  obtain ⟨i, hi, hz, hsz, hby⟩ := T.info
  obtain ⟨k, rfl⟩ := Int.eq_ofNat_of_zero_le h0
  have hzc : z.cells = #[z] := by
    have := constOk_one T.const
    cases z <;> first | rfl | cases this
  have v1 := hf.ev hl
  have v2 := hf.ev hc
  rw [e1] at v1
  rw [e2] at v2
  have u1 : a.eval l = .int .i64 (k : Int) := by generalize a.eval l = u at v1; cases v1; rfl
  have u2 : a.eval c = .int .i64 (k : Int) := by generalize a.eval c = u at v2; cases v2; rfl
  have hkb : bytes * k ≤ 281474976710656 := by
    have : ((bytes * k : Nat) : Int) ≤ 281474976710656 := by push_cast; rw [Int.mul_comm]; exact h2
    omega
  have hk : k ≤ 281474976710656 := Nat.le_trans (Nat.le_mul_of_pos_left k T.pos) hkb
  have hrun := run_make_row' (P := P) t e z bytes T.under (by simp [hi, hz, hsz, hby]) hzc .i64 .i64 k hkb (by omega) w
  have hmc : ∀ j, j < k → (madeCells #[z] k)[j]? = some z := fun j hj => by simp [madeCells, hj, Nat.mod_one]
  obtain ⟨ρ', g1, g2, g3⟩ := hr.alloc e (List.replicate k z) (madeCells #[z] k) (by simp [size_madeCells]) (by rw [size_madeCells]; omega) (fun j v hv => by
    rw [List.getElem?_replicate] at hv
    split at hv
    · rename_i hj
      cases hv
      exact ⟨z, hmc j hj, constOk_cell T.const _ _⟩
    · cases hv)
  rw [Int.toNat_natCast]
  have hsl := alloc_slice (H := H) (w := w) (ty := e) (cs := List.replicate k z) (C := madeCells #[z] k) (ρ' := ρ') k (by simp) (by simp [size_madeCells]) g3
  simp only [List.length_replicate] at hsl
  refine ⟨.value (.slice (some ⟨w.heap.size, 0, none⟩) k k), _, _, ρ', ?_, .inl rfl, hsl, g1, g2⟩
  simp [execOp, ho, u1, u2, hrun]

/-- Some cells of a block of the call's own are overwritten. -/
theorem row_set {i : Nat} {b : Blk} (hr : HRel w0 H ρ w) (hb : H.blk i = some b) (hown : b.own = true) (o : Nat) (vs us : List Value) (hlen : vs.length = us.length) (hfit : o + vs.length ≤ b.cs.length)
    (hrel : ∀ (j : Nat) (v : Value), vs[j]? = some v → ∃ u, us[j]? = some u ∧ CRel ρ H v u) :
    (storeCells (addrOf (ρ i) o) us).run P w = .ok () (w.setRow (ρ i).blk ((match w.heap[(ρ i).blk]? with | some (.cells C _ _) => C.toList | _ => []).take o ++ us ++ (match w.heap[(ρ i).blk]? with | some (.cells C _ _) => C.toList | _ => []).drop (o + us.length)).toArray) ∧
    HRel w0 (H.put i ⟨true, b.ty, b.cs.take o ++ vs ++ b.cs.drop (o + vs.length)⟩) ρ (w.setRow (ρ i).blk ((match w.heap[(ρ i).blk]? with | some (.cells C _ _) => C.toList | _ => []).take o ++ us ++ (match w.heap[(ρ i).blk]? with | some (.cells C _ _) => C.toList | _ => []).drop (o + us.length)).toArray) ∧
    Step ρ H ρ (H.put i ⟨true, b.ty, b.cs.take o ++ vs ++ b.cs.drop (o + vs.length)⟩) := by
  obtain ⟨h0, h1, C, hC, h2, hm, h3, h4⟩ := hr.own i b hb hown
  simp only [hC]
  have hlcs : (b.cs.take o ++ vs ++ b.cs.drop (o + vs.length)).length = b.cs.length := by simp; omega
  have hst := Step.put (ρ := ρ) hb hown hlcs
  have hsz : (C.toList.take o ++ us ++ C.toList.drop (o + us.length)).toArray.size = C.size := by simp; omega
  have hadd : addrOf (ρ i) o = ⟨(ρ i).blk, o, none⟩ := by simp [addrOf, h0]
  have hone : ∀ u ∈ us, u.oneCell' = true := fun u hu => by
    obtain ⟨j, hj⟩ := List.getElem?_of_mem hu
    have hjl : j < vs.length := by rw [hlen]; exact (List.getElem?_eq_some_iff.1 hj).1
    obtain ⟨u', hu', hr'⟩ := hrel j _ (List.getElem?_eq_getElem hjl)
    rw [hj] at hu'
    cases hu'
    exact hr'.2
  have hrow := setRow_heap w (ρ i).blk C (C.toList.take o ++ us ++ C.toList.drop (o + us.length)).toArray b.ty (0, 0) hC
  refine ⟨?_, ?_, hst⟩
  · rw [hadd]
    have := run_storeCells_at P (ρ i).blk o b.ty us 0 C w hC (by omega) hone
    simpa using this
  · have hρ : (fun k => if k = i then ρ i else ρ k) = ρ := by funext k; by_cases hk : k = i <;> simp [hk]
    have key := hr.update hb hown (b.cs.take o ++ vs ++ b.cs.drop (o + vs.length)) (by omega) (ρ i) h0 h1 (C.toList.take o ++ us ++ C.toList.drop (o + us.length)).toArray hrow (by omega) (by omega) (by omega) (.inl rfl)
      (w' := w.setRow (ρ i).blk (C.toList.take o ++ us ++ C.toList.drop (o + us.length)).toArray) (fun j v hv => by
        rw [hρ]
        have hcase : ∃ u, (C.toList.take o ++ us ++ C.toList.drop (o + us.length))[j]? = some u ∧ CRel ρ H v u := by
          by_cases hj1 : j < o
          · rw [List.append_assoc, List.getElem?_append_left (by simp; omega), List.getElem?_take_of_lt hj1] at hv
            obtain ⟨u, hu, hr'⟩ := h4 j v hv
            refine ⟨u, ?_, hr'⟩
            rw [List.append_assoc, List.getElem?_append_left (by simp; omega), List.getElem?_take_of_lt hj1]
            simpa using hu
          · by_cases hj2 : j < o + vs.length
            · rw [List.append_assoc, List.getElem?_append_right (by simp; omega), List.getElem?_append_left (by simp; omega)] at hv
              have e : (b.cs.take o).length = o := by simp; omega
              rw [e] at hv
              obtain ⟨u, hu, hr'⟩ := hrel (j - o) v hv
              refine ⟨u, ?_, hr'⟩
              have e' : (C.toList.take o).length = o := by simp; omega
              rw [List.append_assoc, List.getElem?_append_right (by omega), List.getElem?_append_left (by omega), e']
              exact hu
            · have e : (b.cs.take o ++ vs).length = o + vs.length := by simp; omega
              rw [List.getElem?_append_right (by omega), e, List.getElem?_drop] at hv
              obtain ⟨u, hu, hr'⟩ := h4 _ v hv
              refine ⟨u, ?_, hr'⟩
              have e' : (C.toList.take o ++ us).length = o + us.length := by simp; omega
              rw [List.getElem?_append_right (by omega), e', List.getElem?_drop, ← hlen]
              simpa using hu
        obtain ⟨u, hu, hr'⟩ := hcase
        exact ⟨u, by simpa using hu, hr'.step hst⟩)
      ⟨hr.below.os, hr.below.tape, hr.below.output, by rw [setRow_size]; exact hr.below.size, fun k hk => by rw [setRow_other _ _ _ _ (by omega)]; exact hr.below.block k hk⟩
      (fun k _ hk => setRow_other _ _ _ _ hk)
    rw [hρ] at key
    exact key.1

theorem stn_sound {t : TypeId} {x v : Operand} {n : Nat} (hx : opndOk x = true) (hv : opndOk v = true) (hs : sizeT P t = some n) {o : Oper} (ho : o.op = .store t x v) (hf : FRel ρ H φ a) (hr : HRel w0 H ρ w)
    {h p t' : Nat} {b : Blk} (e1 : φ.ev x = .pointer (some ⟨h, p, some t'⟩)) (hb : H.blk h = some b) (hown : b.own = true) (hl : b.cs.length = t') (hfit : p + n ≤ t') (hsol : solid (φ.ev v) = true)
    (hvl : (vcells (φ.ev v)).length = n) (hone : (vcells (φ.ev v)).all one = true) :
    EffOk P o a w0 w ρ H undef (H.put h ⟨true, b.ty, b.cs.take p ++ vcells (φ.ev v) ++ b.cs.drop (p + n)⟩) := by
  have v1 := hf.ev hx
  rw [e1] at v1
  have hptr := ptr_live v1 hb hl
  obtain ⟨hl', hc⟩ := vcells_rel (hf.ev hv) hsol
  obtain ⟨g1, g2, g3⟩ := row_set (P := P) hr hb hown p (vcells (φ.ev v)) (a.eval v).cells.toList (by simpa using hl') (by omega) (fun j u hu => by
    have hj : j < (a.eval v).cells.size := by rw [← hl']; exact (List.getElem?_eq_some_iff.1 hu).1
    exact ⟨_, by rw [Array.getElem?_toList]; exact Array.getElem?_eq_getElem hj, (hc j u _ hu (Array.getElem?_eq_getElem hj)).cell (List.all_eq_true.1 hone u (List.mem_of_getElem? hu))⟩)
  rw [hvl] at g2 g3
  refine ⟨.skip, undef, _, ρ, ?_, .inr ⟨rfl, rfl⟩, .tuple rfl (by simp), g2, g3⟩
  simp only [execOp, ho, Instr.storeAt, hptr, Instr.sureAddr, storeVar, Sem.run_bind, Sem.run_pure, Result.andThen_ok, run_sizeT hs]
  rw [if_neg (by omega)]
  simp only [Result.andThen_ok, g1]

theorem append_zero {t ty e : TypeId} {i : TypeInfo} (hu : P.underlying t = some (.slice e)) (hi : P.info? e = some i) {B A : Option Addr} {n cap m : Nat} (hn : n ≤ cap) :
    (Builtin.append_ #[t, t] ty #[.slice B n cap, .slice A 0 m]).run P w = .ok (.slice B n cap) w := by
  have hf : (Builtin.firstCells i.size 0 (.slice A 0 m)).run P w = .ok #[] w := by
    cases A <;> simp [Builtin.firstCells, loadCells, loadCellsFrom]
  have hst : ∀ (ad : Addr), (storeCells ad []).run P w = .ok () w := fun ad => by simp [storeCells]
  cases B <;> simp [Builtin.append_, run_underlying hu, sizeOf, typeInfo, hi, Builtin.lenOf, hf, hn, hst]

/-- The cells that a live slice leads to. -/
theorem readSl_cells (hr : HRel w0 H ρ w) {v u : Value} {news : List Value} (h : readSl H v = some news) (hv : VRel ρ H v u) :
    ∃ A m c, u = .slice A m c ∧ m ≤ c ∧ news.length = m ∧ (0 < m → ∃ (ad : Addr) (us : List Value), A = some ad ∧ us.length = m ∧ (∀ (j : Nat) (x : Value), us[j]? = some x → w.cell? (ad.add j) = some x) ∧ ∀ (j : Nat) (x : Value), news[j]? = some x → ∃ y, us[j]? = some y ∧ CRel ρ H x y) := by
  cases hv with
  | nilslice =>
    simp only [readSl] at h
    cases h
    exact ⟨none, 0, 0, rfl, Nat.le_refl _, rfl, fun h => by omega⟩
  | @slice g o n t A c hlt hnt htc hcc =>
    simp only [readSl] at h
    split at h
    · rename_i b hb
      split at h
      · rename_i hl
        cases h
        · skip
          refine ⟨A, n, c, rfl, by omega, by simp; omega, fun hn => ?_⟩
          have hA : A = some (addrOf (ρ g) o) := by
            have hso := (hcc b hb).2 hl
            unfold SliceOk at hso
            split at hso
            · rcases hso with hso | hso
              · exact hso.1
              · omega
            · rcases hso with hso | hso
              · omega
              · exact hso
          have hcell : ∀ j, j < n → ∃ u, w.cell? (addrOf (ρ g) (o + j)) = some u ∧ ∀ v, b.cs[o + j]? = some v → CRel ρ H v u := fun j hj => by
            obtain ⟨u, hu, hr'⟩ := hr.cell hb (j := o + j) (v := b.cs[o + j]'(by omega)) (List.getElem?_eq_getElem (by omega))
            refine ⟨u, hu, fun v hv => ?_⟩
            rw [List.getElem?_eq_getElem (by omega)] at hv
            cases hv
            exact hr'
          refine ⟨addrOf (ρ g) o, (List.range n).map fun j => (w.cell? (addrOf (ρ g) (o + j))).getD undef, hA, by simp, fun j x hx => ?_, fun j x hx => ?_⟩
          · rw [List.getElem?_map] at hx
            by_cases hj : j < n
            · rw [List.getElem?_range hj] at hx
              obtain ⟨u, hu, _⟩ := hcell j hj
              rw [addrOf_add, hu]
              simp only [Option.map_some, hu, Option.getD_some] at hx
              exact hx
            · rw [List.getElem?_eq_none (by simp; omega)] at hx; cases hx
          · have hj : j < n := by
              have := (List.getElem?_eq_some_iff.1 hx).1
              simp at this; omega
            rw [List.getElem?_take_of_lt hj, List.getElem?_drop] at hx
            obtain ⟨u, hu, hcr⟩ := hcell j hj
            refine ⟨u, ?_, hcr x hx⟩
            rw [List.getElem?_map, List.getElem?_range hj]
            simp [hu]
      · cases h
    · cases h
  | _ => simp only [readSl] at h; cases h

theorem put_self {i : Nat} {b : Blk} (hb : H.blk i = some b) (hown : b.own = true) : H.put i ⟨true, b.ty, b.cs⟩ = H := by
  cases H with
  | mk n blk =>
    simp only [Heap.put, Heap.mk.injEq, true_and]
    funext k
    by_cases hk : k = i
    · subst hk
      simp only [if_true]
      have hb' : blk k = some b := hb
      rw [hb']
      cases b
      simp only at hown
      subst hown
      rfl
    · simp [hk]

theorem run_append {t ty : TypeId} {s x : Operand} {o : Oper} (ho : o.op = .call { callee := .builtin .append, args := #[s, x], argTypes := #[t, t] }) (hty : o.type = ty) {r : Value} {w' : World}
    (h : (Builtin.append_ #[t, t] ty #[a.eval s, a.eval x]).run P w = .ok r w') : (execOp a.eval o).run P w = .ok (.value r) w' := by
  subst hty
  simp [execOp, ho, resolve, invoke, builtin, h]

theorem app_sound {t : TypeId} {s x : Operand} {e : TypeId} {bytes : Nat} {z : Value} (hs : opndOk s = true) (hx : opndOk x = true) (ht : rowT P t = some (e, bytes, z))
    {o : Oper} (ho : o.op = .call { callee := .builtin .append, args := #[s, x], argTypes := #[t, t] }) (hf : FRel ρ H φ a) (hr : HRel w0 H ρ w) {v : Value} {H' : Heap} (h : aeff (.app e bytes s x) φ H = some (v, H')) :
    EffOk P o a w0 w ρ H v H' := by
  have T := rowT_spec ht
  obtain ⟨i, hi, hz, hsz, hby⟩ := T.info
  have hzs : z.cells.size = 1 := by
    have := constOk_one T.const
    cases z <;> first | rfl | cases this
  simp only [aeff] at h
  split at h
  · cases h
  · rename_i news hnews
    obtain ⟨A, m, c, hxv, hmc, hnl, hcells⟩ := readSl_cells hr hnews (hf.ev hx)
    have hsv := hf.ev hs
    split at h
    · -- nil
      rename_i n0 c0 e1
      rw [e1] at hsv
      have hse : a.eval s = .slice none 0 0 := by generalize a.eval s = u at hsv; cases hsv; rfl
      split at h
      · rename_i hnil
        cases h
        have hm0 : m = 0 := by rw [← hnl, hnil]; rfl
        subst hm0
        refine ⟨.value (.slice none 0 0), _, _, ρ, run_append ho rfl ?_, .inl rfl, .nilslice, hr, Step.refl _ _⟩
        rw [hse, hxv]
        exact append_zero T.under hi (Nat.le_refl _)
      · rename_i hnil
        split at h
        · rename_i hlim
          cases h
          have hm0 : 0 < m := by
            rcases Nat.eq_zero_or_pos m with h0 | h0
            · exact absurd (List.eq_nil_of_length_eq_zero (hnl.trans h0)) hnil
            · exact h0
          obtain ⟨ad, us, rfl, husl, hus, hrel⟩ := hcells hm0
          have hlen : m * bytes ≤ 140737488355328 := by rw [← hnl]; exact hlim
          have hmm : m ≤ 140737488355328 := Nat.le_trans (Nat.le_mul_of_pos_right _ T.pos) hlen
          have hone : ∀ u ∈ us, u.oneCell' = true := fun u hu => by
            obtain ⟨j, hj⟩ := List.getElem?_of_mem hu
            have hjl : j < news.length := by rw [hnl, ← husl]; exact (List.getElem?_eq_some_iff.1 hj).1
            obtain ⟨u', hu', hr'⟩ := hrel j _ (List.getElem?_eq_getElem hjl)
            rw [hj] at hu'
            cases hu'
            exact hr'.2
          obtain ⟨v', w', hrun, hown', hg, hnil', hat⟩ := run_append_own_at (P := P) w w0.heap.size t o.type e i z 1 bytes T.under hi hz hsz hby hzs (by omega) (.slice none 0 0) 0 [] ⟨rfl, .inl ⟨rfl, rfl⟩⟩ ad m c us (by omega) hus hone (by simp only [maxLen]; omega) (by rw [Nat.zero_add]; exact hlen) hr.size
          obtain ⟨hl1, hcase⟩ := hown'
          rcases hcase with ⟨rfl, h0⟩ | ⟨g, cap, cur, rfl, hg0, hgh, hcap, hcm, hcs, htake⟩
          · omega
          · have hgeq : g = w.heap.size := by
              rcases hat with hat | hat
              · simp [Value.ownBlock] at hat
              · simpa [Value.ownBlock] using hat
            subst hgeq
            obtain ⟨ρ', g1, g2, g3⟩ := hr.allocs e news cur (by omega) (by simp only [maxLen] at hcm; omega) hgh (fun k hk => hg.block k hk (by simp [Value.ownBlock])) hg.os hg.tape hg.output hg.size (fun j x hx => by
              obtain ⟨y, hy, hr'⟩ := hrel j x hx
              refine ⟨y, ?_, hr'⟩
              have hj : j < m := by rw [← husl]; exact (List.getElem?_eq_some_iff.1 hy).1
              have : (cur.toList.take ((0 + m) * 1))[j]? = some y := by rw [htake]; simpa using hy
              rw [List.getElem?_take_of_lt (by omega)] at this
              simpa using this)
            refine ⟨.value (.slice (some ⟨w.heap.size, 0, none⟩) (0 + m) cap), _, _, ρ', run_append ho rfl (by rw [hse, hxv]; exact hrun), .inl rfl, ?_, g1, g2⟩
            rw [hnl, Nat.zero_add]
            refine .slice (by simp [Heap.new]) (Nat.le_refl _) (by omega) fun b hb => ?_
            simp only [Heap.new, if_true, Option.some.injEq] at hb
            subst hb
            refine ⟨by simp [hnl], fun _ => ?_⟩
            unfold SliceOk
            simp only [if_true]
            exact .inl ⟨by simp [addrOf, g3], by simp [g3]; omega⟩
        · cases h
    · -- a block of the call's own
      rename_i g n t0 e1
      split at h
      · rename_i b hb
        split at h
        · rename_i hcond
          obtain ⟨hown, hty, hn, ht0, hlim⟩ := hcond
          cases h
          rw [e1] at hsv
          obtain ⟨k0, k1, C, hC, k2, km, k3, k4⟩ := hr.own g b hb hown
          generalize hse : a.eval s = u at hsv
          cases hsv with
          | @slice _ _ _ _ B cap hlt hnt htc hcc =>
            have hso := (hcc b hb).2 (by omega)
            unfold SliceOk at hso
            rw [if_pos hown] at hso
            rcases hso with ⟨hB, hroom⟩ | hso
            case inr => omega
            subst hB
            have hadr : addrOf (ρ g) 0 = ⟨(ρ g).blk, 0, none⟩ := by simp [addrOf, k0]
            rcases Nat.eq_zero_or_pos m with hm0 | hm0
            · have hnil : news = [] := List.eq_nil_of_length_eq_zero (hnl.trans hm0)
              subst hnil
              subst hm0
              simp only [List.append_nil, List.length_nil, Nat.add_zero]
              rw [put_self hb hown]
              refine ⟨.value (.slice (some (addrOf (ρ g) 0)) n cap), _, _, ρ, run_append ho rfl (by rw [hse, hxv]; exact append_zero T.under hi (by omega)), .inl rfl, ?_, hr, Step.refl _ _⟩
              refine .slice hlt (Nat.le_refl _) (by omega) fun b' hb' => ?_
              rw [hb] at hb'
              cases hb'
              refine ⟨by omega, fun _ => ?_⟩
              unfold SliceOk
              rw [if_pos hown]
              exact .inl ⟨rfl, hroom⟩
            · obtain ⟨ad, us, rfl, husl, hus, hrel⟩ := hcells hm0
              have hlen : (n + m) * bytes ≤ 140737488355328 := by rw [← hnl]; exact hlim
              have hmm : n + m ≤ 140737488355328 := Nat.le_trans (Nat.le_mul_of_pos_right _ T.pos) hlen
              have hone : ∀ u ∈ us, u.oneCell' = true := fun u hu => by
                obtain ⟨j, hj⟩ := List.getElem?_of_mem hu
                have hjl : j < news.length := by rw [hnl, ← husl]; exact (List.getElem?_eq_some_iff.1 hj).1
                obtain ⟨u', hu', hr'⟩ := hrel j _ (List.getElem?_eq_getElem hjl)
                rw [hj] at hu'
                cases hu'
                exact hr'.2
              have hor : w.ownsRow w0.heap.size e 1 (.slice (some ⟨(ρ g).blk, 0, none⟩) n cap) n (C.toList.take n) :=
                ⟨by simp; omega, .inr ⟨(ρ g).blk, cap, C, rfl, k1, by rw [hC, hty], by omega, by simp only [maxLen]; omega, by omega, by simp⟩⟩
              obtain ⟨v', w', hrun, hown', hgr, hnil', hat⟩ := run_append_own_at (P := P) w w0.heap.size t o.type e i z 1 bytes T.under hi hz hsz hby hzs (by omega) _ n _ hor ad m c us (by omega) hus hone (by simp only [maxLen]; omega) (by omega) hr.size
              obtain ⟨hl1, hcase⟩ := hown'
              rcases hcase with ⟨rfl, h0⟩ | ⟨g', cap', cur, rfl, hg0, hgh, hcap, hcm, hcs, htake⟩
              · omega
              · have hg' : g' = (ρ g).blk ∨ g' = w.heap.size := by simpa [Value.ownBlock] using hat
                have hblt : (ρ g).blk < w.heap.size := (Array.getElem?_eq_some_iff.1 hC).1
                have hst : Step ρ H (fun k => if k = g then ⟨g', 0, cap'⟩ else ρ k) (H.put g ⟨true, b.ty, b.cs ++ news⟩) := by
                  refine ⟨Nat.le_refl _, fun k b' hk hb' => ?_⟩
                  by_cases hki : k = g
                  · subst hki
                    simp only [Heap.put, if_true, Option.some.injEq] at hb'
                    subst hb'
                    exact ⟨b, hb, by simp, hown.symm, fun e => by simp only [List.length_append] at e; omega⟩
                  · simp only [Heap.put, if_neg hki] at hb'
                    exact ⟨b', hb', Nat.le_refl _, rfl, fun _ => by simp [hki]⟩
                have hbel : Below w0.heap.size w0 w' := ⟨hgr.os.trans hr.below.os, hgr.tape.trans hr.below.tape, hgr.output.trans hr.below.output, Nat.le_trans hr.below.size hgr.size,
                  fun k hk => (hgr.block k (Nat.lt_of_lt_of_le hk hr.size) (by simp [Value.ownBlock]; omega)).trans (hr.below.block k hk)⟩
                obtain ⟨q1, q2⟩ := hr.update hb hown (b.cs ++ news) (by simp) ⟨g', 0, cap'⟩ rfl hg0 cur (by rw [hgh, hty]) (by simp only; omega) (by simp only [maxLen] at hcm; omega) (by simp; omega)
                  (.inr ⟨by simp; omega, by simpa using hg'.imp id (fun e => by omega)⟩) (fun j x hx => by
                    by_cases hj : j < n
                    · rw [List.getElem?_append_left (by omega)] at hx
                      obtain ⟨u, hu, hr'⟩ := k4 j x hx
                      refine ⟨u, ?_, hr'.step hst⟩
                      have : (cur.toList.take ((n + m) * 1))[j]? = some u := by
                        rw [htake, List.getElem?_append_left (by simp; omega), List.getElem?_take_of_lt hj]
                        simpa using hu
                      rw [List.getElem?_take_of_lt (by omega)] at this
                      simpa using this
                    · rw [List.getElem?_append_right (by omega)] at hx
                      obtain ⟨y, hy, hr'⟩ := hrel (j - b.cs.length) x hx
                      refine ⟨y, ?_, hr'.step hst⟩
                      have hjl : j - b.cs.length < m := by rw [← husl]; exact (List.getElem?_eq_some_iff.1 hy).1
                      have e' : (C.toList.take n).length = n := by simp; omega
                      have : (cur.toList.take ((n + m) * 1))[j]? = some y := by
                        rw [htake, List.getElem?_append_right (by omega), e', hn]
                        exact hy
                      rw [List.getElem?_take_of_lt (by omega)] at this
                      simpa using this) hbel (fun k hk hne => hgr.block k hk (by simpa [Value.ownBlock] using hne))
                refine ⟨.value (.slice (some ⟨g', 0, none⟩) (n + m) cap'), _, _, _, run_append ho rfl (by rw [hse, hxv, hadr]; exact hrun), .inl rfl, ?_, q1, q2⟩
                rw [hnl]
                refine .slice hlt (Nat.le_refl _) (by omega) fun b' hb' => ?_
                simp only [Heap.put, if_true, Option.some.injEq] at hb'
                subst hb'
                refine ⟨by simp; omega, fun _ => ?_⟩
                unfold SliceOk
                simp only [if_true]
                exact .inl ⟨by simp [addrOf], by simp⟩
        · cases h
      · cases h
    · cases h

theorem run_copy {t t' ty : TypeId} {d s : Operand} {o : Oper} (ho : o.op = .call { callee := .builtin .copy, args := #[d, s], argTypes := #[t, t'] }) (hty : o.type = ty) {r : Value} {w' : World}
    (h : (Builtin.copy_ #[t, t'] ty #[a.eval d, a.eval s]).run P w = .ok r w') : (execOp a.eval o).run P w = .ok (.value r) w' := by
  subst hty
  simp [execOp, ho, resolve, invoke, builtin, h]
theorem copy_zero {t t' ty e : TypeId} {i : TypeInfo} (hu : P.underlying t = some (.slice e)) (hi : P.info? e = some i) {B A : Option Addr} {n cap m c : Nat} (h0 : n = 0 ∨ m = 0) :
    (Builtin.copy_ #[t, t'] ty #[.slice B n cap, .slice A m c]).run P w = .ok (goInt 0) w := by
  have hmin : Nat.min m n = 0 := by rcases h0 with h0 | h0 <;> subst h0 <;> simp
  have hf : (Builtin.firstCells i.size 0 (.slice A m c)).run P w = .ok #[] w := by
    cases A <;> simp [Builtin.firstCells, loadCells, loadCellsFrom]
  have hst : ∀ (ad : Addr), (storeCells ad []).run P w = .ok () w := fun ad => by simp [storeCells]
  have hmin' : min m n = 0 := hmin
  cases B <;> simp [Builtin.copy_, run_underlying hu, sizeOf, typeInfo, hi, Builtin.lenOf, hmin, hmin', hf, hst]

theorem cpy_sound {t t' : TypeId} {d s : Operand} {e : TypeId} {bytes : Nat} {z : Value} (hd : opndOk d = true) (hs : opndOk s = true) (ht : rowT P t = some (e, bytes, z))
    {o : Oper} (ho : o.op = .call { callee := .builtin .copy, args := #[d, s], argTypes := #[t, t'] }) (hf : FRel ρ H φ a) (hr : HRel w0 H ρ w) {v : Value} {H' : Heap} (h : aeff (.cpy d s) φ H = some (v, H')) :
    EffOk P o a w0 w ρ H v H' := by
  have T := rowT_spec ht
  obtain ⟨i, hi, hz, hsz, hby⟩ := T.info
  simp only [aeff] at h
  split at h
  · cases h
  · rename_i src hsrc
    obtain ⟨A, m, c, hsv, hmc, hsl, hcells⟩ := readSl_cells hr hsrc (hf.ev hs)
    have hdv := hf.ev hd
    split at h
    · rename_i n0 c0 e1
      cases h
      rw [e1] at hdv
      have hde : a.eval d = .slice none 0 0 := by generalize a.eval d = u at hdv; cases hdv; rfl
      exact ⟨.value (.int .i64 0), _, _, ρ, run_copy ho rfl (by rw [hde, hsv]; exact copy_zero T.under hi (.inl rfl)), .inl rfl, .int _ _, hr, Step.refl _ _⟩
    · rename_i g p n t0 e1
      split at h
      · rename_i b hb
        split at h
        · rename_i hcond
          obtain ⟨hown, hl, hnt0⟩ := hcond
          cases h
          rw [e1] at hdv
          generalize hde : a.eval d = u at hdv
          cases hdv with
          | @slice _ _ _ _ B cap hlt hnt htc hcc =>
            by_cases h0 : n = 0 ∨ m = 0
            · have hmin : min src.length n = 0 := by omega
              have htk : src.take n = [] := by
                rcases h0 with h0 | h0
                · subst h0; rfl
                · rw [List.eq_nil_of_length_eq_zero (hsl.trans h0)]; simp
              have hb' : b.cs.take p ++ src.take n ++ b.cs.drop (p + min src.length n) = b.cs := by rw [hmin, htk]; simp
              rw [hb', put_self hb hown, hmin]
              exact ⟨.value (.int .i64 0), _, _, ρ, run_copy ho rfl (by rw [hde, hsv]; exact copy_zero T.under hi h0), .inl rfl, .int _ _, hr, Step.refl _ _⟩
            · have hm0 : 0 < m := by omega
              obtain ⟨ad, us, rfl, husl, hus, hrel⟩ := hcells hm0
              have hB : B = some (addrOf (ρ g) p) := by
                have hso := (hcc b hb).2 (by omega)
                unfold SliceOk at hso
                rw [if_pos hown] at hso
                rcases hso with hso | hso
                · exact hso.1
                · omega
              subst hB
              have hmin : (us.take n).length = Nat.min m n := by
                rw [List.length_take, husl]
                exact Nat.min_comm _ _
              obtain ⟨g1, g2, g3⟩ := row_set (P := P) hr hb hown p (src.take n) (us.take n) (by simp; omega) (by simp; omega) (fun j x hx => by
                have hj : j < n := by have := (List.getElem?_eq_some_iff.1 hx).1; simp at this; omega
                rw [List.getElem?_take_of_lt hj] at hx
                obtain ⟨y, hy, hr'⟩ := hrel j x hx
                exact ⟨y, by rw [List.getElem?_take_of_lt hj]; exact hy, hr'⟩)
              have hlt' : (src.take n).length = min src.length n := by rw [List.length_take, Nat.min_comm]
              rw [hlt'] at g2 g3
              have hcp : (Builtin.firstCells 1 (Nat.min m n) (.slice (some ad) m c)).run P w = .ok (us.take n).toArray w := by
                have := run_loadCells_list (P := P) w ad (us.take n) (fun j x hx => by
                  have hj : j < n := by have := (List.getElem?_eq_some_iff.1 hx).1; simp at this; omega
                  rw [List.getElem?_take_of_lt hj] at hx
                  exact hus j x hx)
                rw [hmin] at this
                simpa [Builtin.firstCells] using this
              refine ⟨.value (.int .i64 (min src.length n : Nat)), _, _, ρ, run_copy ho rfl ?_, .inl rfl, .int _ _, g2, g3⟩
              rw [hde, hsv]
              have hmm : ((Nat.min m n : Nat) : Int) = ((min src.length n : Nat) : Int) := by rw [hsl]
              have hcp' : (Builtin.firstCells 1 (min m n) (.slice (some ad) m c)).run P w = .ok (us.take n).toArray w := hcp
              simp [Builtin.copy_, run_underlying T.under, Builtin.lenOf, sizeOf, typeInfo, hi, hsz, hcp', g1, goInt, hsl]
        · cases h
      · cases h
    · cases h

theorem aeff_sound {o : Oper} {ao : AOp} (hc : CE P o.op ao) (hf : FRel ρ H φ a) (hr : HRel w0 H ρ w) {v : Value} {H' : Heap} (h : aeff ao φ H = some (v, H')) : EffOk P o a w0 w ρ H v H' := by
  generalize ho : o.op = op at hc
  cases hc with
  | new h1 h2 h3 h4 => cases h; exact new_sound h1 h2 h3 h4 ho hr
  | box h1 =>
    simp only [aeff] at h
    split at h
    · rename_i hc; cases h; exact box_sound h1 ho hf hr hc.1 hc.2.1 hc.2.2
    · cases h
  | bsl h1 h2 h3 =>
    simp only [aeff] at h
    split at h
    · rename_i cs hcs; cases h; exact bsl_sound h1 h2 h3 ho hf hr hcs
    · cases h
  | mks h1 h2 h3 =>
    simp only [aeff] at h
    split at h
    · rename_i n m e1 e2
      split at h
      · rename_i hc; cases h; exact mks_sound h1 h2 h3 ho hf hr e1 e2 hc.1 hc.2.1 hc.2.2
      · cases h
    · cases h
  | @st t x y h1 h2 h3 h4 =>
    simp only [aeff] at h
    split at h
    · rename_i g p t' e1
      split at h
      · rename_i b hb
        split at h
        · rename_i hc
          obtain ⟨c1, c2, c3, c4⟩ := hc
          cases h
          have hvc : vcells (φ.ev y) = [φ.ev y] := by
            generalize φ.ev y = u at c4
            cases u <;> first | rfl | cases c4
          have hsol : solid (φ.ev y) = true := by
            generalize φ.ev y = u at c4
            cases u <;> first | rfl | (rename_i r; cases r <;> first | rfl | cases c4)
          have := stn_sound (n := 1) h1 h2 h4 ho hf hr e1 hb c1 c2 (by omega) hsol (by rw [hvc]; rfl) (by rw [hvc]; simp [c4])
          rw [hvc] at this
          rw [List.set_eq_take_append_cons_drop, if_pos (by omega)]
          simpa using this
        · cases h
      · cases h
    · cases h
  | @stn t x y n h1 h2 h3 =>
    simp only [aeff] at h
    split at h
    · rename_i g p t' e1
      split at h
      · rename_i b hb
        split at h
        · rename_i hc
          obtain ⟨c1, c2, c3, c4, c5, c6⟩ := hc
          cases h
          exact stn_sound h1 h2 h3 ho hf hr e1 hb c1 c2 c3 c4 c5 c6
        · cases h
      · cases h
    · cases h
  | app h1 h2 h3 => exact app_sound h1 h2 h3 ho hf hr h
  | cpy h1 h2 h3 => exact cpy_sound h1 h2 h3 ho hf hr h
end
end Go.Gx
