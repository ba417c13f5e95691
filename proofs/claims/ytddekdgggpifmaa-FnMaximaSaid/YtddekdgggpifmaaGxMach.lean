/-
  An abstract machine: values with canonical NaNs, a heap of numbered blocks ('handles'); how it stands to the world.
-/
import Derived.Test.YtddekdgggpifmaaGxFloat
import Derived.Below
import Derived.Laws.World
import Derived.Deep.Draws
import Derived.Laws.AppendOwn
import Derived.Laws.CopyRow
import Derived.Maps.AppendAt
namespace Go.Gx
set_option linter.unusedSimpArgs false
set_option linter.unusedVariables false
open Go.RowKit (Below)

/-- A value of which nothing is known. -/
def junk : Value := .map none

structure Blk where
  own : Bool
  ty : TypeId
  cs : List Value

structure Heap where
  n : Nat
  blk : Nat → Option Blk

def Heap.new (H : Heap) (b : Blk) : Heap := ⟨H.n + 1, fun i => if i = H.n then some b else H.blk i⟩
def Heap.put (H : Heap) (h : Nat) (b : Blk) : Heap := ⟨H.n, fun i => if i = h then some b else H.blk i⟩

structure Loc where
  blk : Nat
  off : Nat
  room : Nat
abbrev Map := Nat → Loc

def addrOf (l : Loc) (o : Nat) : Addr := ⟨l.blk, l.off + o, none⟩

/-- A slice's header over a block. -/
def SliceOk (own : Bool) (l : Loc) (o n : Nat) (A : Option Addr) (c : Nat) : Prop :=
  if own = true then (A = some (addrOf l o) ∧ o + c = l.room) ∨ (n = 0 ∧ c = 0 ∧ 0 < o)
  else n = 0 ∨ A = some (addrOf l o)

inductive VRel (ρ : Map) (H : Heap) : Value → Value → Prop
  | junk (v : Value) : VRel ρ H (.map none) v
  | bool (b : Bool) : VRel ρ H (.bool b) (.bool b)
  | int (k : IntKind) (n : Int) : VRel ρ H (.int k n) (.int k n)
  | str (s : ByteArray) : VRel ρ H (.string s) (.string s)
  | float {k : FloatKind} {x b : Nat} : FW k x b → VRel ρ H (.float k x) (.float k b)
  | complex {k : FloatKind} {x y a b : Nat} : FW k x a → FW k y b → VRel ρ H (.complex k x y) (.complex k a b)
  | nilptr : VRel ρ H (.pointer none) (.pointer none)
  | ptr {h o t : Nat} {A : Addr} : h < H.n → (∀ b, H.blk h = some b → t ≤ b.cs.length ∧ (b.cs.length = t → A = addrOf (ρ h) o)) →
      VRel ρ H (.pointer (some ⟨h, o, some t⟩)) (.pointer (some A))
  | nilslice : VRel ρ H (.slice none 0 0) (.slice none 0 0)
  | slice {h o n t : Nat} {A : Option Addr} {c : Nat} : h < H.n → n ≤ t → t ≤ c →
      (∀ b, H.blk h = some b → o + t ≤ b.cs.length ∧ (b.cs.length = o + t → SliceOk b.own (ρ h) o n A c)) →
      VRel ρ H (.slice (some ⟨h, o, none⟩) n t) (.slice A n c)
  | agg {cs ds : Array Value} : cs.size = ds.size → (∀ (i : Nat) (c d : Value), cs[i]? = some c → ds[i]? = some d → VRel ρ H c d) → VRel ρ H (.agg cs) (.agg ds)
  | tuple {cs ds : Array Value} : cs.size = ds.size → (∀ (i : Nat) (c d : Value), cs[i]? = some c → ds[i]? = some d → VRel ρ H c d) → VRel ρ H (.tuple cs) (.tuple ds)
  | func {f : Fn} {cs ds es fs : Array Value} : cs.size = ds.size → (∀ (i : Nat) (c d : Value), cs[i]? = some c → ds[i]? = some d → VRel ρ H c d) →
      es.size = fs.size → (∀ (i : Nat) (c d : Value), es[i]? = some c → fs[i]? = some d → VRel ρ H c d) → VRel ρ H (.func f cs es) (.func f ds fs)

/-- From one state to a later one. -/
structure Step (ρ : Map) (H : Heap) (ρ' : Map) (H' : Heap) : Prop where
  n : H.n ≤ H'.n
  blk : ∀ h b', h < H.n → H'.blk h = some b' → ∃ b, H.blk h = some b ∧ b.cs.length ≤ b'.cs.length ∧ b'.own = b.own ∧ (b.cs.length = b'.cs.length → ρ' h = ρ h)

theorem Step.refl (ρ : Map) (H : Heap) : Step ρ H ρ H := ⟨Nat.le_refl _, fun _ b' _ hb => ⟨b', hb, Nat.le_refl _, rfl, fun _ => rfl⟩⟩
theorem Step.trans {ρ ρ' ρ'' : Map} {H H' H'' : Heap} (h : Step ρ H ρ' H') (k : Step ρ' H' ρ'' H'') : Step ρ H ρ'' H'' := by
  refine ⟨Nat.le_trans h.n k.n, fun i b'' hi hb => ?_⟩
  obtain ⟨b', hb', h1, h2, h3⟩ := k.blk i b'' (Nat.lt_of_lt_of_le hi h.n) hb
  obtain ⟨b, hb0, g1, g2, g3⟩ := h.blk i b' hi hb'
  exact ⟨b, hb0, Nat.le_trans g1 h1, h2.trans g2, fun e => (h3 (by omega)).trans (g3 (by omega))⟩

theorem VRel.step {ρ ρ' : Map} {H H' : Heap} (s : Step ρ H ρ' H') {v u : Value} (h : VRel ρ H v u) : VRel ρ' H' v u := by
  induction h with
  | junk v => exact .junk v
  | bool b => exact .bool b
  | int k n => exact .int k n
  | str x => exact .str x
  | float h => exact .float h
  | complex h1 h2 => exact .complex h1 h2
  | nilptr => exact .nilptr
  | @ptr h o t A hlt hb =>
    refine .ptr (Nat.lt_of_lt_of_le hlt s.n) fun b' hb' => ?_
    obtain ⟨b, hb0, h1, h2, h3⟩ := s.blk h b' hlt hb'
    obtain ⟨g1, g2⟩ := hb b hb0
    refine ⟨by omega, fun e => ?_⟩
    rw [h3 (by omega)]
    exact g2 (by omega)
  | nilslice => exact .nilslice
  | @slice h o n t A c hlt hn ht hb =>
    refine .slice (Nat.lt_of_lt_of_le hlt s.n) hn ht fun b' hb' => ?_
    obtain ⟨b, hb0, h1, h2, h3⟩ := s.blk h b' hlt hb'
    obtain ⟨g1, g2⟩ := hb b hb0
    refine ⟨by omega, fun e => ?_⟩
    rw [h3 (by omega), h2]
    exact g2 (by omega)
  | agg hs _ ih => exact .agg hs ih
  | tuple hs _ ih => exact .tuple hs ih
  | func hs _ hs' _ ih ih' => exact .func hs ih hs' ih'

/-- What lies in one cell. -/
def CRel (ρ : Map) (H : Heap) (v u : Value) : Prop := VRel ρ H v u ∧ u.oneCell' = true
theorem CRel.step {ρ ρ' : Map} {H H' : Heap} (s : Step ρ H ρ' H') {v u : Value} (h : CRel ρ H v u) : CRel ρ' H' v u := ⟨h.1.step s, h.2⟩
/-- The value of one cell. -/
def one : Value → Bool
  | .agg _ | .tuple _ | .map none => false
  | _ => true
theorem VRel.cell {ρ : Map} {H : Heap} {v u : Value} (h : VRel ρ H v u) (h1 : one v = true) : CRel ρ H v u := by
  refine ⟨h, ?_⟩
  cases h <;> first | rfl | (simp [one] at h1)

structure HRel (w0 : World) (H : Heap) (ρ : Map) (w : World) : Prop where
  below : Below w0.heap.size w0 w
  lt : ∀ h b, H.blk h = some b → h < H.n
  own : ∀ h b, H.blk h = some b → b.own = true → (ρ h).off = 0 ∧ w0.heap.size ≤ (ρ h).blk ∧ ∃ C : Array Value, w.heap[(ρ h).blk]? = some (.cells C b.ty (0, 0)) ∧ C.size = (ρ h).room ∧ C.size ≤ 9223372036854775807 ∧ b.cs.length ≤ C.size ∧
    ∀ (i : Nat) (v : Value), b.cs[i]? = some v → ∃ u, C[i]? = some u ∧ CRel ρ H v u
  inp : ∀ h b, H.blk h = some b → b.own = false → ∀ (i : Nat) (v : Value), b.cs[i]? = some v → ∃ u, w0.cell? (addrOf (ρ h) i) = some u ∧ CRel ρ H v u
  inj : ∀ h h' b b', H.blk h = some b → b.own = true → H.blk h' = some b' → b'.own = true → (ρ h).blk = (ρ h').blk → h = h'

theorem HRel.size {w0 : World} {H : Heap} {ρ : Map} {w : World} (h : HRel w0 H ρ w) : w0.heap.size ≤ w.heap.size := h.below.size

/-- Only the heap counts. -/
theorem HRel.congr {w0 : World} {H : Heap} {ρ : Map} {w w' : World} (h : HRel w0 H ρ w) (hh : w'.heap = w.heap) (ht : w'.tape = w.tape) (ho : w'.os = w.os) (hp : w'.output = w.output) : HRel w0 H ρ w' :=
  ⟨⟨ho.trans h.below.os, ht.trans h.below.tape, hp.trans h.below.output, by rw [hh]; exact h.below.size, fun k hk => by rw [hh]; exact h.below.block k hk⟩,
    h.lt, fun i b hb hown => by rw [hh]; exact h.own i b hb hown, h.inp, h.inj⟩
theorem HRel.drewN {w0 : World} {H : Heap} {ρ : Map} {w : World} (h : HRel w0 H ρ w) (n : Nat) : HRel w0 H ρ (w.drewN n) := h.congr rfl rfl rfl rfl

/-- A cell that is read. -/
theorem HRel.cell {w0 : World} {H : Heap} {ρ : Map} {w : World} (h : HRel w0 H ρ w) {i : Nat} {b : Blk} (hb : H.blk i = some b) {j : Nat} {v : Value} (hv : b.cs[j]? = some v) :
    ∃ u, w.cell? (addrOf (ρ i) j) = some u ∧ CRel ρ H v u := by
  cases hown : b.own with
  | true =>
    obtain ⟨h0, _, C, hC, _, _, _, hc⟩ := h.own i b hb hown
    obtain ⟨u, hu, hr⟩ := hc j v hv
    exact ⟨u, by simp [addrOf, World.cell?, hC, h0, hu], hr⟩
  | false =>
    obtain ⟨u, hu, hr⟩ := h.inp i b hb hown j v hv
    refine ⟨u, ?_, hr⟩
    rw [h.below.cell (World.block_lt_of_cell? _ _ hu), hu]

/-- A new block. -/
theorem HRel.allocs {w0 : World} {H : Heap} {ρ : Map} {w w' : World} (h : HRel w0 H ρ w) (ty : TypeId) (cs : List Value) (C : Array Value) (hl : cs.length ≤ C.size) (hm : C.size ≤ 9223372036854775807)
    (hC : w'.heap[w.heap.size]? = some (.cells C ty (0, 0))) (hold : ∀ k, k < w.heap.size → w'.heap[k]? = w.heap[k]?) (ho : w'.os = w.os) (ht : w'.tape = w.tape) (hp : w'.output = w.output) (hz : w.heap.size ≤ w'.heap.size)
    (hc : ∀ (i : Nat) (v : Value), cs[i]? = some v → ∃ u, C[i]? = some u ∧ CRel ρ H v u) :
    ∃ ρ', HRel w0 (H.new ⟨true, ty, cs⟩) ρ' w' ∧ Step ρ H ρ' (H.new ⟨true, ty, cs⟩) ∧ ρ' H.n = ⟨w.heap.size, 0, C.size⟩ := by
  let ρ' : Map := fun i => if i = H.n then ⟨w.heap.size, 0, C.size⟩ else ρ i
  have hs : Step ρ H ρ' (H.new ⟨true, ty, cs⟩) := by
    refine ⟨by simp [Heap.new], fun i b' hi hb => ?_⟩
    have hne : i ≠ H.n := by omega
    simp only [Heap.new, if_neg hne] at hb
    exact ⟨b', hb, Nat.le_refl _, rfl, fun _ => by simp [ρ', hne]⟩
  have hbel : Below w0.heap.size w0 w' := ⟨ho.trans h.below.os, ht.trans h.below.tape, hp.trans h.below.output, Nat.le_trans h.below.size hz, fun k hk => (hold k (Nat.lt_of_lt_of_le hk h.size)).trans (h.below.block k hk)⟩
  refine ⟨ρ', ⟨hbel, fun i b hb => ?_, fun i b hb hown => ?_, fun i b hb hown j v hv => ?_, fun i j b b' hb hown hb' hown' e => ?_⟩, hs, by simp [ρ']⟩
  · by_cases hi : i = H.n
    · subst hi; simp [Heap.new]
    · simp only [Heap.new, if_neg hi] at hb
      have := h.lt i b hb
      simp only [Heap.new]; omega
  · by_cases hi : i = H.n
    · subst hi
      simp only [Heap.new, if_true, Option.some.injEq] at hb
      subst hb
      refine ⟨by simp [ρ'], by simp [ρ']; exact h.size, C, ?_, by simp [ρ'], hm, hl, fun j v hv => ?_⟩
      · simp only [ρ', if_true]
        exact hC
      · obtain ⟨u, hu, hr⟩ := hc j v hv
        exact ⟨u, hu, hr.step hs⟩
    · simp only [Heap.new, if_neg hi] at hb
      obtain ⟨h0, h1, D, hD, h2, hm', h3, h4⟩ := h.own i b hb hown
      have hlt : (ρ i).blk < w.heap.size := (Array.getElem?_eq_some_iff.1 hD).1
      refine ⟨by simp [ρ', hi, h0], by simp [ρ', hi, h1], D, ?_, by simp [ρ', hi, h2], hm', h3, fun j v hv => ?_⟩
      · simp only [ρ', if_neg hi]
        rw [hold _ hlt]
        exact hD
      · obtain ⟨u, hu, hr⟩ := h4 j v hv
        exact ⟨u, hu, hr.step hs⟩
  · by_cases hi : i = H.n
    · subst hi
      simp only [Heap.new, if_true, Option.some.injEq] at hb
      subst hb
      cases hown
    · simp only [Heap.new, if_neg hi] at hb
      obtain ⟨u, hu, hr⟩ := h.inp i b hb hown j v hv
      exact ⟨u, by simpa [ρ', hi] using hu, hr.step hs⟩
  · have key : ∀ i b, H.blk i = some b → b.own = true → (ρ i).blk < w.heap.size := fun i b hb hown => by
      obtain ⟨_, _, D, hD, _⟩ := h.own i b hb hown
      exact (Array.getElem?_eq_some_iff.1 hD).1
    by_cases hi : i = H.n
    · by_cases hj : j = H.n
      · omega
      · subst hi
        simp only [Heap.new, if_neg hj] at hb'
        have := key j b' hb' hown'
        simp only [ρ', if_true, if_neg hj] at e
        omega
    · simp only [Heap.new, if_neg hi] at hb
      by_cases hj : j = H.n
      · subst hj
        have := key i b hb hown
        simp only [ρ', if_true, if_neg hi] at e
        omega
      · simp only [Heap.new, if_neg hj] at hb'
        simp only [ρ', if_neg hi, if_neg hj] at e
        exact h.inj i j b b' hb hown hb' hown' e
theorem HRel.alloc {w0 : World} {H : Heap} {ρ : Map} {w : World} (h : HRel w0 H ρ w) (ty : TypeId) (cs : List Value) (C : Array Value) (hl : cs.length ≤ C.size) (hm : C.size ≤ 9223372036854775807)
    (hc : ∀ (i : Nat) (v : Value), cs[i]? = some v → ∃ u, C[i]? = some u ∧ CRel ρ H v u) :
    ∃ ρ', HRel w0 (H.new ⟨true, ty, cs⟩) ρ' (w.alloc (.cells C ty)) ∧ Step ρ H ρ' (H.new ⟨true, ty, cs⟩) ∧ ρ' H.n = ⟨w.heap.size, 0, C.size⟩ := by
  refine h.allocs ty cs C hl hm ?_ (fun k hk => ?_) rfl rfl rfl (by simp) hc
  · show (w.heap.push _)[w.heap.size]? = _
    simp
  · show (w.heap.push _)[k]? = _
    rw [Array.getElem?_push, if_neg (by omega)]

/-- A block of the call's own takes other contents, and perhaps another place. 'C'': its cells now. -/
theorem HRel.update {w0 : World} {H : Heap} {ρ : Map} {w w' : World} (h : HRel w0 H ρ w) {i : Nat} {b : Blk} (hb : H.blk i = some b) (hown : b.own = true)
    (cs : List Value) (hl : b.cs.length ≤ cs.length) (l : Loc) (hoff : l.off = 0) (hge : w0.heap.size ≤ l.blk) (C : Array Value)
    (hC : w'.heap[l.blk]? = some (.cells C b.ty (0, 0))) (hroom : C.size = l.room) (hm : C.size ≤ 9223372036854775807) (hlen : cs.length ≤ C.size)
    (hsame : l = ρ i ∨ (b.cs.length < cs.length ∧ (l.blk = (ρ i).blk ∨ w.heap.size ≤ l.blk)))
    (hc : ∀ (j : Nat) (v : Value), cs[j]? = some v → ∃ u, C[j]? = some u ∧ CRel (fun k => if k = i then l else ρ k) (H.put i ⟨true, b.ty, cs⟩) v u)
    (hbel : Below w0.heap.size w0 w') (hother : ∀ k, k < w.heap.size → k ≠ (ρ i).blk → w'.heap[k]? = w.heap[k]?) :
    HRel w0 (H.put i ⟨true, b.ty, cs⟩) (fun k => if k = i then l else ρ k) w' ∧ Step ρ H (fun k => if k = i then l else ρ k) (H.put i ⟨true, b.ty, cs⟩) := by
  have hs : Step ρ H (fun k => if k = i then l else ρ k) (H.put i ⟨true, b.ty, cs⟩) := by
    refine ⟨Nat.le_refl _, fun k b' hk hb' => ?_⟩
    by_cases hki : k = i
    · subst hki
      simp only [Heap.put, if_true, Option.some.injEq] at hb'
      subst hb'
      refine ⟨b, hb, hl, hown.symm, fun e => ?_⟩
      rcases hsame with hsame | ⟨hlt, _⟩
      · simp [hsame]
      · simp only at e; omega
    · simp only [Heap.put, if_neg hki] at hb'
      exact ⟨b', hb', Nat.le_refl _, rfl, fun _ => by simp [hki]⟩
  have key : ∀ k b', H.blk k = some b' → b'.own = true → (ρ k).blk < w.heap.size := fun k b' hb' hown' => by
    obtain ⟨_, _, D, hD, _⟩ := h.own k b' hb' hown'
    exact (Array.getElem?_eq_some_iff.1 hD).1
  refine ⟨⟨hbel, fun k b' hb' => ?_, fun k b' hb' hown' => ?_, fun k b' hb' hown' j v hv => ?_, fun k k' b1 b2 hb1 ho1 hb2 ho2 e => ?_⟩, hs⟩
  · by_cases hki : k = i
    · subst hki; exact h.lt k b hb
    · simp only [Heap.put, if_neg hki] at hb'; exact h.lt k b' hb'
  · by_cases hki : k = i
    · subst hki
      simp only [Heap.put, if_true, Option.some.injEq] at hb'
      subst hb'
      simp only [if_true]
      exact ⟨hoff, hge, C, hC, hroom, hm, hlen, hc⟩
    · simp only [Heap.put, if_neg hki] at hb'
      obtain ⟨h0, h1, D, hD, h2, hm', h3, h4⟩ := h.own k b' hb' hown'
      simp only [if_neg hki]
      refine ⟨h0, h1, D, ?_, h2, hm', h3, fun j v hv => ?_⟩
      · rw [hother _ (key k b' hb' hown') (fun e => hki (h.inj k i b' b hb' hown' hb hown e))]
        exact hD
      · obtain ⟨u, hu, hr⟩ := h4 j v hv
        exact ⟨u, hu, hr.step hs⟩
  · have hki : k ≠ i := by
      rintro rfl
      simp only [Heap.put, if_true, Option.some.injEq] at hb'
      subst hb'
      cases hown'
    simp only [Heap.put, if_neg hki] at hb'
    obtain ⟨u, hu, hr⟩ := h.inp k b' hb' hown' j v hv
    exact ⟨u, by simpa [hki] using hu, hr.step hs⟩
  · have own_of : ∀ k b', (H.put i ⟨true, b.ty, cs⟩).blk k = some b' → k ≠ i → H.blk k = some b' := fun k b' hb' hki => by simpa [Heap.put, hki] using hb'
    by_cases hk : k = i
    · by_cases hk' : k' = i
      · omega
      · have hb2' := own_of k' b2 hb2 hk'
        simp only [hk, if_true, if_neg hk'] at e
        rcases hsame with hsame | ⟨_, hnew | hnew⟩
        · rw [hsame] at e
          exact absurd (h.inj i k' b b2 hb hown hb2' ho2 e).symm hk'
        · rw [hnew] at e
          exact absurd (h.inj i k' b b2 hb hown hb2' ho2 e).symm hk'
        · have := key k' b2 hb2' ho2
          omega
    · have hb1' := own_of k b1 hb1 hk
      by_cases hk' : k' = i
      · simp only [hk', if_true, if_neg hk] at e
        rcases hsame with hsame | ⟨_, hnew | hnew⟩
        · rw [hsame] at e
          exact absurd (h.inj k i b1 b hb1' ho1 hb hown e) hk
        · rw [hnew] at e
          exact absurd (h.inj k i b1 b hb1' ho1 hb hown e) hk
        · have := key k b1 hb1' ho1
          omega
      · simp only [if_neg hk, if_neg hk'] at e
        exact h.inj k k' b1 b2 hb1' ho1 (own_of k' b2 hb2 hk') ho2 e

/-- A block's cells are overwritten in place. -/
theorem Step.put {ρ : Map} {H : Heap} {i : Nat} {b : Blk} (hb : H.blk i = some b) (hown : b.own = true) {cs : List Value} (hl : cs.length = b.cs.length) : Step ρ H ρ (H.put i ⟨true, b.ty, cs⟩) := by
  refine ⟨Nat.le_refl _, fun k b' hk hb' => ?_⟩
  by_cases hki : k = i
  · subst hki
    simp only [Heap.put, if_true, Option.some.injEq] at hb'
    subst hb'
    exact ⟨b, hb, by simp [hl], hown.symm, fun _ => rfl⟩
  · simp only [Heap.put, if_neg hki] at hb'
    exact ⟨b', hb', Nat.le_refl _, rfl, fun _ => rfl⟩

/-! ### frames -/
abbrev Frame := List (Nat × Value)
def Frame.get : Frame → Nat → Value
  | [], _ => junk
  | (s, v) :: r, t => if s = t then v else Frame.get r t
def Frame.ev (φ : Frame) : Operand → Value
  | .tmp t => φ.get t
  | .const v => v
  | .func f => .func (.func f) #[] #[]
  | .global _ => junk

def FRel (ρ : Map) (H : Heap) (φ : Frame) (a : Act) : Prop := ∀ t, VRel ρ H (φ.get t) (a.tmps.getD t undef)

theorem FRel.step {ρ ρ' : Map} {H H' : Heap} {φ : Frame} {a : Act} (h : FRel ρ H φ a) (s : Step ρ H ρ' H') : FRel ρ' H' φ a := fun t => (h t).step s
theorem FRel.put {ρ : Map} {H : Heap} {φ : Frame} {a : Act} (h : FRel ρ H φ a) {d : Nat} (hd : d < a.tmps.size) {v u : Value} (hv : VRel ρ H v u) : FRel ρ H ((d, v) :: φ) (a.put (some d) u) := by
  intro t
  simp only [Frame.get, Act.put]
  by_cases ht : d = t
  · subst ht
    simp [hd, hv]
  · rw [if_neg ht]
    have := h t
    simpa [Array.getD_eq_getD_getElem?, Array.getElem?_setIfInBounds_ne ht] using this

/-- A constant that reads the same everywhere. -/
def constOk : Value → Bool
  | .bool _ | .int _ _ | .string _ => true
  | .float k b => !nanB k b && decide (b < 2 ^ k.format.width)
  | .complex k a b => !nanB k a && decide (a < 2 ^ k.format.width) && !nanB k b && decide (b < 2 ^ k.format.width)
  | .pointer none => true
  | .slice none 0 0 => true
  | _ => false
theorem constOk_rel {v : Value} (h : constOk v = true) (ρ : Map) (H : Heap) : VRel ρ H v v := by
  unfold constOk at h
  split at h
  · exact .bool _
  · exact .int _ _
  · exact .str _
  · simp only [Bool.and_eq_true, Bool.not_eq_true', decide_eq_true_eq] at h
    exact .float (FW.of_num h.1 h.2)
  · simp only [Bool.and_eq_true, Bool.not_eq_true', decide_eq_true_eq] at h
    exact .complex (FW.of_num h.1.1.1 h.1.1.2) (FW.of_num h.1.2 h.2)
  · exact .nilptr
  · exact .nilslice
  · cases h
def opndOk : Operand → Bool
  | .tmp _ => true
  | .const v => constOk v
  | .func _ => true
  | .global _ => true
theorem FRel.ev {ρ : Map} {H : Heap} {φ : Frame} {a : Act} (h : FRel ρ H φ a) {x : Operand} (hx : opndOk x = true) : VRel ρ H (φ.ev x) (a.eval x) := by
  cases x with
  | tmp t => exact h t
  | const v => exact constOk_rel hx ρ H
  | func f => exact .func rfl (by simp) rfl (by simp)
  | global g => exact .junk _
end Go.Gx
