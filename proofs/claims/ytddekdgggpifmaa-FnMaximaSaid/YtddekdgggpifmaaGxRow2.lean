/-
  More kinds of arguments, opened: integers, truths, lists of lists, structs of these.
-/
import Derived.Test.YtddekdgggpifmaaGxRow
import Derived.Test.YtddekdgggpifmaaGxOwn
namespace Go.Gx
set_option linter.unusedSimpArgs false
set_option linter.unusedVariables false
open Go.RowKit (Below)
open Go.ChangeShapes Go.WideShapes Go.ChangeAt Go.Joins Go.Deep
section
variable {H : Type} {enc : TypeId × Value → H} {P : Program} {W : World} {base : Nat} {spare : Nat → Bool} {held : Bool}

theorem addr_first {a : Addr} {w : World} {u : Value} (h : w.cell? (a.add 0) = some u) : some a = some (addrOf ⟨a.block, a.off, 0⟩ 0) := by
  have hs : a.spot = none := by simpa [Addr.add] using World.cell?_spot h
  obtain ⟨ab, ao, as⟩ := a
  simp only at hs
  subst hs
  rfl
theorem addr_at {a : Addr} {w : World} {u : Value} (h : w.cell? (a.add 0) = some u) (i : Nat) : addrOf ⟨a.block, a.off, 0⟩ i = a.add i := by
  have hs : a.spot = none := by simpa [Addr.add] using World.cell?_spot h
  obtain ⟨ab, ao, as⟩ := a
  simp only at hs
  subst hs
  simp only [addrOf, Addr.add]
  split
  · rename_i h0; subst h0; rfl
  · rfl

/-! ### integers -/
structure IsAt (W : World) (A : Option Addr) (c : Nat) (l : Loc) (xs : List Int) : Prop where
  len : xs.length ≤ c
  cap : c ≤ 9223372036854775807
  addr : xs.length = 0 ∨ A = some (addrOf l 0)
  word : I64 xs
  cell : ∀ (i : Nat) (x : Int), xs[i]? = some x → W.cell? (addrOf l i) = some (.int .i64 x)
def intOf : Value → Int
  | .int _ n => n
  | _ => 0
theorem open_isC {t e : TypeId} {fuel : Nat} {v : Value} {x : DataW H × List MemPlace} (ht : P.underlying t = some (.slice e)) (he : P.underlying e = some (.int .i64)) (hc : P.cellsOf e = 1) (h : DataW.trod enc P W base spare held fuel t [v] = some x) :
    ∃ (A : Option Addr) (c : Nat) (l : Loc) (xs : List Int), v = .slice A xs.length c ∧ IsAt W A c l xs := by
  rcases open_slice1 ht hc h with ⟨h0, _⟩ | ⟨a, len, cap, m, n, V, D, Pl, h0, _, hl, hm, hmm, _, hV⟩
  · exact ⟨none, 0, ⟨0, 0, 0⟩, [], by simpa using h0, by simp, by simp, .inl rfl, fun j => by simp, fun i x hx => by simp at hx⟩
  · have hlm : len ≤ m := by rw [hmm]; split <;> omega
    have hf : ∀ i, i < len → ∃ b, V i = .int .i64 b ∧ (Lit.int .i64 b).wf = true ∧ W.cell? (a.add i) = some (.int .i64 b) := fun i hi => by
      obtain ⟨h1, h2⟩ := hV i (by omega)
      obtain ⟨b, hb, _, hw⟩ := DataW.trod_int he h2
      have hb' : V i = .int .i64 b := by simpa using hb
      rw [hb'] at h1
      exact ⟨b, hb', hw, h1⟩
    refine ⟨some a, cap, ⟨a.block, a.off, 0⟩, (List.range len).map fun i => intOf (V i), by simpa using h0, by simpa using hl, hm, ?_, fun j => ?_, fun i x hx => ?_⟩
    · rcases Nat.eq_zero_or_pos len with h0 | h0
      · left; simp [h0]
      · right
        obtain ⟨b, _, _, hcell⟩ := hf 0 h0
        exact addr_first hcell
    · by_cases hj : j < len
      · obtain ⟨b, hb, hlt, _⟩ := hf j hj
        simp only [List.getD_eq_getElem?_getD, List.getElem?_map, List.getElem?_range hj, Option.map_some, Option.getD_some, hb, intOf]
        exact wf_i64 hlt
      · simp [List.getD_eq_getElem?_getD, List.getElem?_eq_none (l := List.range len) (i := j) (by simp; omega)]
    · have hi : i < len := by simpa using (List.getElem?_eq_some_iff.1 hx).1
      obtain ⟨b, hb, hlt, hcell⟩ := hf i hi
      simp only [List.getElem?_map, List.getElem?_range hi, Option.map_some, hb, intOf, Option.some.injEq] at hx
      obtain ⟨_, _, _, hcell0⟩ := hf 0 (by omega)
      rw [addr_at hcell0, hcell, hx]
theorem open_isV {r : Reach} {b0 : Nat} {t e : TypeId} {v : Value} {d : DataW H} {p : List MemPlace} (ht : P.underlying t = some (.slice e)) (he : P.underlying e = some (.int .i64)) (hc : P.cellsOf e = 1)
    (hv : Value.okWide P W r b0 t v) (h : DataW.Trod enc P W base spare held t v d p) : ∃ (A : Option Addr) (c : Nat) (l : Loc) (xs : List Int), v = .slice A xs.length c ∧ IsAt W A c l xs := by
  obtain ⟨a, n, c, rfl⟩ := okWide_slice ht hv
  obtain ⟨fuel, hf⟩ := h
  exact open_isC ht he hc (by simpa [Value.cells] using hf)
theorem IsAt.max {A : Option Addr} {c : Nat} {l : Loc} {xs : List Int} (h : IsAt W A c l xs) : xs.length ≤ 9223372036854775807 := Nat.le_trans h.len h.cap
theorem IsAt.rel {A : Option Addr} {c : Nat} {l : Loc} {xs : List Int} (h : IsAt W A c l xs) {ls : List (List Value)} {ρ : Map} {j : Nat} (hj : ls[j]? = some (xs.map iv)) (hl : ρ j = l) : VRel ρ (inHeap ls) (.slice (some ⟨j, 0, none⟩) xs.length xs.length) (.slice A xs.length c) :=
  rel_slice hj (by simp) h.len (by rw [hl]; exact h.addr)
theorem IsAt.here {A : Option Addr} {c : Nat} {l : Loc} {xs : List Int} (h : IsAt W A c l xs) {ρ : Map} {G : Heap} {k : Nat} (hl : ρ k = l) : ∀ (i : Nat) (v : Value), (xs.map iv)[i]? = some v → ∃ u, W.cell? (addrOf (ρ k) i) = some u ∧ CRel ρ G v u := by
  intro i v hv
  rw [List.getElem?_map] at hv
  obtain ⟨x, hx, rfl⟩ := Option.map_eq_some_iff.1 hv
  exact ⟨_, by rw [hl]; exact h.cell i x hx, .int _ _, rfl⟩
theorem is_in {ls : List (List Value)} {j : Nat} {xs : List Int} (hj : ls[j]? = some (xs.map iv)) : IS (inHeap ls) (.slice (some ⟨j, 0, none⟩) xs.length xs.length) xs := by
  refine IS.own (own := false) (ty := 0) ?_ (List.getElem?_eq_some_iff.1 hj).1 rfl
  simp [inHeap, hj]
/-! ### a struct of a list and a number -/
theorem open_schemeV {r : Reach} {b0 : Nat} {t : TypeId} {f0 f1 : Field} {e : TypeId} {v : Value} {d : DataW H} {p : List MemPlace} (hs : P.underlying t = some (.struct #[f0, f1])) (hone : oneCellFields P #[f0, f1] = true) (hC : P.cellsOf t = 2)
    (ht : P.underlying f0.type = some (.slice e)) (he : P.underlying e = some (.float .f32)) (hc : P.cellsOf e = 1) (h1 : P.underlying f1.type = some (.float .f32))
    (hv : Value.okWide P W r b0 t v) (h : DataW.Trod enc P W base spare held t v d p) : ∃ (A : Option Addr) (c : Nat) (l : Loc) (xs : List Nat) (a : Nat), v = .agg #[.slice A xs.length c, .float .f32 a] ∧ (Lit.float .f32 a).wf = true ∧ FsAt W A c l xs := by
  obtain ⟨v0, v1, y0, y1, n, rfl, _, _, g0, g1⟩ := open_agg2 hs hone hC hv h
  obtain ⟨A, c, l, xs, rfl, hx⟩ := open_fsC ht he hc g0
  obtain ⟨a, ha, _, wa⟩ := trod_float h1 g1
  obtain rfl : v1 = .float .f32 a := by simpa using ha
  exact ⟨A, c, l, xs, a, rfl, wa, hx⟩
theorem rel_agg2 {ρ : Map} {G : Heap} {a u b w : Value} (h : VRel ρ G a u) (h1 : VRel ρ G b w) : VRel ρ G (.agg #[a, b]) (.agg #[u, w]) := by
  refine .agg rfl fun i c d hc hd => ?_
  match i with
  | 0 => simp at hc hd; subst hc; subst hd; exact h
  | 1 => simp at hc hd; subst hc; subst hd; exact h1
  | i + 2 => simp at hc
end
end Go.Gx
