/-
  From the abstract machine to a law's row: arguments opened, the call's end.
-/
import Derived.Test.YtddekdgggpifmaaGxF32
import Derived.ProofKit
import Derived.OpenShut
import Derived.Laws.Cover2
import Derived.Lib.SmallJoins
import Derived.Deep.Slices
import Derived.Deep.Grids
import Derived.SizedLaws
namespace Go.Gx
set_option linter.unusedSimpArgs false
set_option linter.unusedVariables false
open Go.RowKit (Below)
open Go.ChangeShapes Go.WideShapes Go.ChangeAt Go.Joins Go.Deep

/-- The heap of the arguments' blocks. -/
def inHeap (ls : List (List Value)) : Heap := ⟨ls.length, fun i => (ls[i]?).map fun l => ⟨false, 0, l⟩⟩
def inMap (ls : List Loc) : Map := fun i => ls.getD i ⟨0, 0, 0⟩

theorem hrel_in {W : World} {ls : List (List Value)} {ρ : Map} (h : ∀ (j : Nat) (l : List Value), ls[j]? = some l → ∀ (i : Nat) (v : Value), l[i]? = some v → ∃ u, W.cell? (addrOf (ρ j) i) = some u ∧ CRel ρ (inHeap ls) v u) :
    HRel W (inHeap ls) ρ W := by
  have hb : ∀ j b, (inHeap ls).blk j = some b → b.own = false ∧ ls[j]? = some b.cs := by
    intro j b hb
    simp only [inHeap] at hb
    obtain ⟨l, hl, rfl⟩ := Option.map_eq_some_iff.1 hb
    exact ⟨rfl, hl⟩
  refine ⟨⟨rfl, rfl, rfl, Nat.le_refl _, fun _ _ => rfl⟩, fun j b hj => ?_, fun j b hj ho => ?_, fun j b hj _ i v hv => ?_, fun j j' b b' hj ho => ?_⟩
  · exact (List.getElem?_eq_some_iff.1 (hb j b hj).2).1
  · rw [(hb j b hj).1] at ho; cases ho
  · exact h j b.cs (hb j b hj).2 i v hv
  · rw [(hb j b hj).1] at ho; cases ho

theorem calls_law {P : Program} {f : FuncId} {args : List Value} {H : Heap} {S : Value → Heap → Prop} (h : ACalls P f args H S) (hS : ∀ r H', S r H' → r = .bool true) {ρ : Map} {W : World} (hr : HRel W H ρ W) {vals : Array Value} (hs : vals.size = args.length)
    (hv : ∀ (i : Nat) (v u : Value), args[i]? = some v → vals[i]? = some u → VRel ρ H v u) : Calls P f vals W fun e w' => e = .returned (.bool true) ∧ Below W.heap.size W w' := by
  refine (h.2 W ρ W vals hr hs hv).mono ?_
  rintro e w' ⟨r, u, H', ρ', rfl, hp, hru, hrel, _⟩
  have := hS r H' hp
  subst this
  cases hru
  exact ⟨rfl, hrel.below⟩

theorem rel_slice {ls : List (List Value)} {ρ : Map} {j n c : Nat} {A : Option Addr} {l : List Value} (hj : ls[j]? = some l) (hl : l.length = n) (hc : n ≤ c) (hA : n = 0 ∨ A = some (addrOf (ρ j) 0)) :
    VRel ρ (inHeap ls) (.slice (some ⟨j, 0, none⟩) n n) (.slice A n c) := by
  refine .slice (List.getElem?_eq_some_iff.1 hj).1 (Nat.le_refl _) hc fun b hb => ?_
  simp only [inHeap, hj, Option.map_some, Option.some.injEq] at hb
  subst hb
  refine ⟨by simp [hl], fun _ => ?_⟩
  simp only [SliceOk, Bool.false_eq_true, if_false]
  exact hA

theorem trod_float {H : Type} {enc : TypeId × Value → H} {P : Program} {w : World} {base : Nat} {spare : Nat → Bool} {held : Bool} {t : TypeId} {k : FloatKind} {fuel : Nat} {cs : List Value} {x : DataW H × List MemPlace} (ht : P.underlying t = some (.float k)) (h : DataW.trod enc P w base spare held fuel t cs = some x) :
    ∃ b, cs = [.float k b] ∧ x = (.lit (.float k b), []) ∧ (Lit.float k b).wf = true := by
  cases fuel with
  | zero => simp [DataW.trod] at h
  | succ m =>
    unfold DataW.trod at h
    rw [ht] at h
    split at h <;> simp_all
    all_goals (obtain ⟨h1, rfl⟩ := h; subst h1; simp_all)

section
variable {H : Type} {enc : TypeId × Value → H} {P : Program} {W : World} {base : Nat} {spare : Nat → Bool} {held : Bool}

def bitsOf : Value → Nat
  | .float _ b => b
  | _ => 0
/-- A slice of numbers of single precision, opened: where it lies, and its numbers up to the bits of a NaN. -/
theorem open_fs {t e : TypeId} {fuel : Nat} {cs : List Value} {x : DataW H × List MemPlace} (ht : P.underlying t = some (.slice e)) (he : P.underlying e = some (.float .f32)) (hc : P.cellsOf e = 1) (h : DataW.trod enc P W base spare held fuel t cs = some x) :
    ∃ (A : Option Addr) (c : Nat) (l : Loc) (xs : List Nat), cs = [.slice A xs.length c] ∧ xs.length ≤ c ∧ c ≤ maxLen ∧ (xs.length = 0 ∨ A = some (addrOf l 0)) ∧ W32 xs ∧
      ∀ (i x : Nat), xs[i]? = some x → ∃ b, W.cell? (addrOf l i) = some (.float .f32 b) ∧ FW .f32 x b := by
  rcases open_slice1 ht hc h with ⟨rfl, _⟩ | ⟨a, len, cap, m, n, V, D, Pl, rfl, _, hl, hm, hmm, _, hV⟩
  · exact ⟨none, 0, ⟨0, 0, 0⟩, [], rfl, by simp, by simp, .inl rfl, fun j => by simp, fun i x hx => by simp at hx⟩
  · have hlm : len ≤ m := by rw [hmm]; split <;> omega
    have hf : ∀ i, i < len → ∃ b, V i = .float .f32 b ∧ b < 2 ^ 32 ∧ W.cell? (a.add i) = some (.float .f32 b) := fun i hi => by
      obtain ⟨h1, h2⟩ := hV i (by omega)
      obtain ⟨b, hb, _, hw⟩ := trod_float he h2
      have hb' : V i = .float .f32 b := by simpa using hb
      rw [hb'] at h1
      exact ⟨b, hb', by simpa [Lit.wf] using hw, h1⟩
    refine ⟨some a, cap, ⟨a.block, a.off, 0⟩, (List.range len).map fun i => canon .f32 (bitsOf (V i)), by simp, by simpa using hl, hm, ?_, fun j => ?_, fun i x hx => ?_⟩
    · rcases Nat.eq_zero_or_pos len with h0 | h0
      · left; simp [h0]
      · right
        obtain ⟨b, _, _, hcell⟩ := hf 0 h0
        have hs : a.spot = none := by simpa [Addr.add] using World.cell?_spot hcell
        obtain ⟨ab, ao, as⟩ := a
        simp only at hs
        subst hs
        rfl
    · by_cases hj : j < len
      · obtain ⟨b, hb, hlt, _⟩ := hf j hj
        simp only [List.getD_eq_getElem?_getD, List.getElem?_map, List.getElem?_range hj, Option.map_some, Option.getD_some, hb, bitsOf]
        exact canon_lt (k := .f32) hlt
      · simp [List.getD_eq_getElem?_getD, List.getElem?_eq_none (l := List.range len) (i := j) (by simp; omega)]
    · have hi : i < len := by simpa using (List.getElem?_eq_some_iff.1 hx).1
      obtain ⟨b, hb, hlt, hcell⟩ := hf i hi
      simp only [List.getElem?_map, List.getElem?_range hi, Option.map_some, hb, bitsOf, Option.some.injEq] at hx
      obtain ⟨_, _, _, hcell0⟩ := hf 0 (by omega)
      have hs : a.spot = none := by simpa [Addr.add] using World.cell?_spot hcell0
      obtain ⟨ab, ao, as⟩ := a
      simp only at hs
      subst hs
      refine ⟨b, ?_, hx, hlt⟩
      rw [← hcell]
      congr 1
      simp only [addrOf, Addr.add]
      split
      · rename_i h0; subst h0; rfl
      · rfl
theorem rel_fs {l : Loc} {xs : List Nat} (hc : ∀ (i x : Nat), xs[i]? = some x → ∃ b, W.cell? (addrOf l i) = some (.float .f32 b) ∧ FW .f32 x b) (ρ : Map) (G : Heap) (i : Nat) (v : Value) (hv : (xs.map fv)[i]? = some v) :
    ∃ u, W.cell? (addrOf l i) = some u ∧ CRel ρ G v u := by
  rw [List.getElem?_map] at hv
  obtain ⟨x, hx, rfl⟩ := Option.map_eq_some_iff.1 hv
  obtain ⟨b, h1, h2⟩ := hc i x hx
  exact ⟨_, h1, .float h2, rfl⟩

theorem open_agg1 {r : Reach} {b0 : Nat} {t : TypeId} {f0 : Field} {v : Value} {d : DataW H} {p : List MemPlace} (hs : P.underlying t = some (.struct #[f0])) (hone : oneCellFields P #[f0] = true) (hC : P.cellsOf t = 1)
    (hv : Value.okWide P W r b0 t v) (h : DataW.Trod enc P W base spare held t v d p) :
    ∃ (v0 : Value) (y0 : DataW H × List MemPlace) (n : Nat), v = .agg #[v0] ∧ DataW.trod enc P W base spare held n f0.type [v0] = some y0 := by
  obtain ⟨cs, rfl, hsz⟩ := okWide_struct hs hv
  obtain ⟨c0, rfl⟩ : ∃ c0, cs = #[c0] := by
    obtain ⟨l⟩ := cs
    match l, hsz.trans hC with
    | [c0], _ => exact ⟨c0, rfl⟩
  obtain ⟨fuel, hf⟩ := h
  obtain ⟨y0, n, hx, _, h0⟩ := trod_struct1 hs hf
  obtain ⟨o0, k0⟩ := hone_of hone 0 f0 rfl
  exact ⟨c0, y0, n, rfl, by simpa [Value.cells, o0, k0] using h0⟩

/-- What is known of an opened slice of numbers. -/
structure FsAt (W : World) (A : Option Addr) (c : Nat) (l : Loc) (xs : List Nat) : Prop where
  len : xs.length ≤ c
  cap : c ≤ 9223372036854775807
  addr : xs.length = 0 ∨ A = some (addrOf l 0)
  word : W32 xs
  cell : ∀ (i x : Nat), xs[i]? = some x → ∃ b, W.cell? (addrOf l i) = some (.float .f32 b) ∧ FW .f32 x b
theorem open_fsC {t e : TypeId} {fuel : Nat} {v : Value} {x : DataW H × List MemPlace} (ht : P.underlying t = some (.slice e)) (he : P.underlying e = some (.float .f32)) (hc : P.cellsOf e = 1) (h : DataW.trod enc P W base spare held fuel t [v] = some x) :
    ∃ (A : Option Addr) (c : Nat) (l : Loc) (xs : List Nat), v = .slice A xs.length c ∧ FsAt W A c l xs := by
  obtain ⟨A, c, l, xs, h0, h1, h2, h3, h4, h5⟩ := open_fs ht he hc h
  exact ⟨A, c, l, xs, by simpa using h0, ⟨h1, h2, h3, h4, h5⟩⟩
theorem open_fsV {r : Reach} {b0 : Nat} {t e : TypeId} {v : Value} {d : DataW H} {p : List MemPlace} (ht : P.underlying t = some (.slice e)) (he : P.underlying e = some (.float .f32)) (hc : P.cellsOf e = 1)
    (hv : Value.okWide P W r b0 t v) (h : DataW.Trod enc P W base spare held t v d p) : ∃ (A : Option Addr) (c : Nat) (l : Loc) (xs : List Nat), v = .slice A xs.length c ∧ FsAt W A c l xs := by
  obtain ⟨a, n, c, rfl⟩ := okWide_slice ht hv
  obtain ⟨fuel, hf⟩ := h
  exact open_fsC ht he hc (by simpa [Value.cells] using hf)
theorem open_pairV {r : Reach} {b0 : Nat} {t : TypeId} {f0 : Field} {e : TypeId} {v : Value} {d : DataW H} {p : List MemPlace} (hs : P.underlying t = some (.struct #[f0])) (hone : oneCellFields P #[f0] = true) (hC : P.cellsOf t = 1) (ht : P.underlying f0.type = some (.slice e)) (he : P.underlying e = some (.float .f32)) (hc : P.cellsOf e = 1)
    (hv : Value.okWide P W r b0 t v) (h : DataW.Trod enc P W base spare held t v d p) : ∃ (A : Option Addr) (c : Nat) (l : Loc) (xs : List Nat), v = .agg #[.slice A xs.length c] ∧ FsAt W A c l xs := by
  obtain ⟨v0, y0, n, rfl, h0⟩ := open_agg1 hs hone hC hv h
  obtain ⟨A, c, l, xs, rfl, hx⟩ := open_fsC ht he hc h0
  exact ⟨A, c, l, xs, rfl, hx⟩
theorem open_pictureV {r : Reach} {b0 : Nat} {t : TypeId} {f0 f1 f2 : Field} {e : TypeId} {v : Value} {d : DataW H} {p : List MemPlace} (hs : P.underlying t = some (.struct #[f0, f1, f2])) (hone : oneCellFields P #[f0, f1, f2] = true) (hC : P.cellsOf t = 3)
    (h0 : P.underlying f0.type = some (.int .i64)) (h1 : P.underlying f1.type = some (.int .i64)) (ht : P.underlying f2.type = some (.slice e)) (he : P.underlying e = some (.float .f32)) (hc : P.cellsOf e = 1)
    (hv : Value.okWide P W r b0 t v) (h : DataW.Trod enc P W base spare held t v d p) : ∃ (a b : Int) (A : Option Addr) (c : Nat) (l : Loc) (xs : List Nat), v = .agg #[.int .i64 a, .int .i64 b, .slice A xs.length c] ∧ (Lit.int .i64 a).wf = true ∧ (Lit.int .i64 b).wf = true ∧ FsAt W A c l xs := by
  obtain ⟨v0, v1, v2, y0, y1, y2, n, rfl, _, _, g0, g1, g2⟩ := open_agg3 hs hone hC hv h
  obtain ⟨a, ha, _, wa⟩ := DataW.trod_int h0 g0
  obtain ⟨b, hb, _, wb⟩ := DataW.trod_int h1 g1
  obtain ⟨A, c, l, xs, rfl, hx⟩ := open_fsC ht he hc g2
  obtain rfl : v0 = .int .i64 a := by simpa using ha
  obtain rfl : v1 = .int .i64 b := by simpa using hb
  exact ⟨a, b, A, c, l, xs, rfl, wa, wb, hx⟩
theorem FsAt.max {A : Option Addr} {c : Nat} {l : Loc} {xs : List Nat} (h : FsAt W A c l xs) : xs.length ≤ 9223372036854775807 := Nat.le_trans h.len h.cap
theorem FsAt.rel {A : Option Addr} {c : Nat} {l : Loc} {xs : List Nat} (h : FsAt W A c l xs) {ls : List (List Value)} {ρ : Map} {j : Nat} (hj : ls[j]? = some (xs.map fv)) (hl : ρ j = l) : VRel ρ (inHeap ls) (.slice (some ⟨j, 0, none⟩) xs.length xs.length) (.slice A xs.length c) :=
  rel_slice hj (by simp) h.len (by rw [hl]; exact h.addr)
theorem FsAt.cells {A : Option Addr} {c : Nat} {l : Loc} {xs : List Nat} (h : FsAt W A c l xs) (ρ : Map) (G : Heap) (i : Nat) (v : Value) (hv : (xs.map fv)[i]? = some v) : ∃ u, W.cell? (addrOf l i) = some u ∧ CRel ρ G v u := rel_fs h.cell ρ G i v hv
theorem fs_in {ls : List (List Value)} {j : Nat} {xs : List Nat} (hj : ls[j]? = some (xs.map fv)) : FS (inHeap ls) (.slice (some ⟨j, 0, none⟩) xs.length xs.length) xs := by
  refine FS.own (own := false) (ty := 0) ?_ (List.getElem?_eq_some_iff.1 hj).1 rfl
  simp [inHeap, hj]
theorem rel_agg1 {ρ : Map} {G : Heap} {a u : Value} (h : VRel ρ G a u) : VRel ρ G (.agg #[a]) (.agg #[u]) := by
  refine .agg rfl fun i c d hc hd => ?_
  match i with
  | 0 => simp at hc hd; subst hc; subst hd; exact h
  | i + 1 => simp at hc
theorem rel_agg3 {ρ : Map} {G : Heap} {a u b w c x : Value} (h : VRel ρ G a u) (h1 : VRel ρ G b w) (h2 : VRel ρ G c x) : VRel ρ G (.agg #[a, b, c]) (.agg #[u, w, x]) := by
  refine .agg rfl fun i c d hc hd => ?_
  match i with
  | 0 => simp at hc hd; subst hc; subst hd; exact h
  | 1 => simp at hc hd; subst hc; subst hd; exact h1
  | 2 => simp at hc hd; subst hc; subst hd; exact h2
  | i + 3 => simp at hc
theorem wf_i64 {n : Int} (h : (Lit.int .i64 n).wf = true) : -9223372036854775808 ≤ n ∧ n ≤ 9223372036854775807 := by
  simpa [Lit.wf, IntKind.min, IntKind.max, IntKind.signed, IntKind.bits] using h
theorem wf_f32 {b : Nat} (h : (Lit.float .f32 b).wf = true) : b < 2 ^ 32 := by simpa [Lit.wf] using h
end

/-! ### all arguments together -/
def ArgsRel (ρ : Map) (H : Heap) (as us : List Value) : Prop := as.length = us.length ∧ ∀ (i : Nat) (v u : Value), as[i]? = some v → us[i]? = some u → VRel ρ H v u
theorem args_nil {ρ : Map} {H : Heap} : ArgsRel ρ H [] [] := ⟨rfl, fun i v u h => by simp at h⟩
theorem args_cons {ρ : Map} {H : Heap} {a u : Value} {as us : List Value} (h : VRel ρ H a u) (hs : ArgsRel ρ H as us) : ArgsRel ρ H (a :: as) (u :: us) :=
  ⟨by simp [hs.1], fun i v w hv hw => by
    cases i with
    | zero => simp at hv hw; subst hv; subst hw; exact h
    | succ i => exact hs.2 i v w (by simpa using hv) (by simpa using hw)⟩
def InFrom (W : World) (ρ : Map) (G : Heap) (k : Nat) (ls : List (List Value)) : Prop := ∀ (j : Nat) (l : List Value), ls[j]? = some l → ∀ (i : Nat) (v : Value), l[i]? = some v → ∃ u, W.cell? (addrOf (ρ (k + j)) i) = some u ∧ CRel ρ G v u
theorem in_nil {W : World} {ρ : Map} {G : Heap} {k : Nat} : InFrom W ρ G k [] := fun j l h => by simp at h
theorem in_cons {W : World} {ρ : Map} {G : Heap} {k : Nat} {l : List Value} {ls : List (List Value)} (h : ∀ (i : Nat) (v : Value), l[i]? = some v → ∃ u, W.cell? (addrOf (ρ k) i) = some u ∧ CRel ρ G v u) (hs : InFrom W ρ G (k + 1) ls) : InFrom W ρ G k (l :: ls) := by
  intro j m hm i v hv
  cases j with
  | zero => simp at hm; subst hm; simpa using h i v hv
  | succ j =>
    have := hs j m (by simpa using hm) i v hv
    rwa [show k + 1 + j = k + (j + 1) by omega] at this
theorem FsAt.here {W : World} {A : Option Addr} {c : Nat} {l : Loc} {xs : List Nat} (h : FsAt W A c l xs) {ρ : Map} {G : Heap} {k : Nat} (hl : ρ k = l) : ∀ (i : Nat) (v : Value), (xs.map fv)[i]? = some v → ∃ u, W.cell? (addrOf (ρ k) i) = some u ∧ CRel ρ G v u := by
  rw [hl]; exact h.cells ρ G
theorem calls_row {P : Program} {f : FuncId} {args us : List Value} {ls : List (List Value)} {ρ : Map} {W : World} (h : ACalls P f args (inHeap ls) fun r _ => r = .bool true) (hr : InFrom W ρ (inHeap ls) 0 ls) (hv : ArgsRel ρ (inHeap ls) args us) :
    Calls P f us.toArray W fun e w' => e = .returned (.bool true) ∧ Below W.heap.size W w' :=
  calls_law h (fun _ _ h => h) (hrel_in fun j l hj i v hv => by simpa using hr j l hj i v hv) (by simp [hv.1]) fun i v u h1 h2 => hv.2 i v u h1 (by simpa using h2)
end Go.Gx
