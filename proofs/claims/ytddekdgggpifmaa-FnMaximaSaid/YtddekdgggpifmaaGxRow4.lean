/-
  Lists of bytes among the arguments, opened.
-/
import Derived.Test.YtddekdgggpifmaaGxRow3
import Derived.Test.YtddekdgggpifmaaGxBytes
namespace Go.Gx
set_option linter.unusedSimpArgs false
set_option linter.unusedVariables false
open Go.RowKit (Below)
open Go.ChangeShapes Go.WideShapes Go.ChangeAt Go.Joins Go.Deep
section
variable {H : Type} {enc : TypeId × Value → H} {P : Program} {W : World} {base : Nat} {spare : Nat → Bool} {held : Bool}
theorem wf_u8 {n : Int} (h : (Lit.int .u8 n).wf = true) : 0 ≤ n ∧ n ≤ 255 := by
  simpa [Lit.wf, IntKind.min, IntKind.max, IntKind.signed, IntKind.bits] using h
structure YsAt (W : World) (A : Option Addr) (c : Nat) (l : Loc) (xs : List Nat) : Prop where
  len : xs.length ≤ c
  cap : c ≤ 9223372036854775807
  addr : xs.length = 0 ∨ A = some (addrOf l 0)
  word : ∀ j, xs.getD j 0 < 256
  cell : ∀ (i x : Nat), xs[i]? = some x → W.cell? (addrOf l i) = some (.int .u8 (x : Int))
theorem open_ysC {t e : TypeId} {fuel : Nat} {v : Value} {x : DataW H × List MemPlace} (ht : P.underlying t = some (.slice e)) (he : P.underlying e = some (.int .u8)) (hc : P.cellsOf e = 1) (h : DataW.trod enc P W base spare held fuel t [v] = some x) :
    ∃ (A : Option Addr) (c : Nat) (l : Loc) (xs : List Nat), v = .slice A xs.length c ∧ YsAt W A c l xs := by
  rcases open_slice1 ht hc h with ⟨h0, _⟩ | ⟨a, len, cap, m, n, V, D, Pl, h0, _, hl, hm, hmm, _, hV⟩
  · exact ⟨none, 0, ⟨0, 0, 0⟩, [], by simpa using h0, by simp, by simp, .inl rfl, fun j => by simp, fun i x hx => by simp at hx⟩
  · have hlm : len ≤ m := by rw [hmm]; split <;> omega
    have hf : ∀ i, i < len → ∃ b : Nat, V i = .int .u8 (b : Int) ∧ b < 256 ∧ W.cell? (a.add i) = some (.int .u8 (b : Int)) := fun i hi => by
      obtain ⟨h1, h2⟩ := hV i (by omega)
      obtain ⟨b, hb, _, hw⟩ := DataW.trod_int he h2
      have hb' : V i = .int .u8 b := by simpa using hb
      obtain ⟨g0, g1⟩ := wf_u8 hw
      rw [hb'] at h1
      have hn : ((b.toNat : Nat) : Int) = b := by omega
      exact ⟨b.toNat, by rw [hn]; exact hb', by omega, by rw [hn]; exact h1⟩
    refine ⟨some a, cap, ⟨a.block, a.off, 0⟩, (List.range len).map fun i => (intOf (V i)).toNat, by simpa using h0, by simpa using hl, hm, ?_, fun j => ?_, fun i x hx => ?_⟩
    · rcases Nat.eq_zero_or_pos len with h0 | h0
      · left; simp [h0]
      · right
        obtain ⟨b, _, _, hcell⟩ := hf 0 h0
        exact addr_first hcell
    · by_cases hj : j < len
      · obtain ⟨b, hb, hlt, _⟩ := hf j hj
        simp only [List.getD_eq_getElem?_getD, List.getElem?_map, List.getElem?_range hj, Option.map_some, Option.getD_some, hb, intOf]
        omega
      · simp [List.getD_eq_getElem?_getD, List.getElem?_eq_none (l := List.range len) (i := j) (by simp; omega)]
    · have hi : i < len := by simpa using (List.getElem?_eq_some_iff.1 hx).1
      obtain ⟨b, hb, hlt, hcell⟩ := hf i hi
      simp only [List.getElem?_map, List.getElem?_range hi, Option.map_some, hb, intOf, Option.some.injEq] at hx
      obtain ⟨_, _, _, hcell0⟩ := hf 0 (by omega)
      rw [addr_at hcell0, hcell, ← hx]
      simp
theorem open_ysV {r : Reach} {b0 : Nat} {t e : TypeId} {v : Value} {d : DataW H} {p : List MemPlace} (ht : P.underlying t = some (.slice e)) (he : P.underlying e = some (.int .u8)) (hc : P.cellsOf e = 1)
    (hv : Value.okWide P W r b0 t v) (h : DataW.Trod enc P W base spare held t v d p) : ∃ (A : Option Addr) (c : Nat) (l : Loc) (xs : List Nat), v = .slice A xs.length c ∧ YsAt W A c l xs := by
  obtain ⟨a, n, c, rfl⟩ := okWide_slice ht hv
  obtain ⟨fuel, hf⟩ := h
  exact open_ysC ht he hc (by simpa [Value.cells] using hf)
theorem YsAt.max {A : Option Addr} {c : Nat} {l : Loc} {xs : List Nat} (h : YsAt W A c l xs) : xs.length ≤ 9223372036854775807 := Nat.le_trans h.len h.cap
theorem YsAt.rel {A : Option Addr} {c : Nat} {l : Loc} {xs : List Nat} (h : YsAt W A c l xs) {ls : List (List Value)} {ρ : Map} {j : Nat} (hj : ls[j]? = some (xs.map yv)) (hl : ρ j = l) : VRel ρ (inHeap ls) (.slice (some ⟨j, 0, none⟩) xs.length xs.length) (.slice A xs.length c) :=
  rel_slice hj (by simp) h.len (by rw [hl]; exact h.addr)
theorem YsAt.here {A : Option Addr} {c : Nat} {l : Loc} {xs : List Nat} (h : YsAt W A c l xs) {ρ : Map} {G : Heap} {k : Nat} (hl : ρ k = l) : ∀ (i : Nat) (v : Value), (xs.map yv)[i]? = some v → ∃ u, W.cell? (addrOf (ρ k) i) = some u ∧ CRel ρ G v u := by
  intro i v hv
  rw [List.getElem?_map] at hv
  obtain ⟨x, hx, rfl⟩ := Option.map_eq_some_iff.1 hv
  exact ⟨_, by rw [hl]; exact h.cell i x hx, .int _ _, rfl⟩
theorem ys_in {ls : List (List Value)} {j : Nat} {xs : List Nat} (hj : ls[j]? = some (xs.map yv)) (hw : ∀ j, xs.getD j 0 < 256) : YA (inHeap ls) (.slice (some ⟨j, 0, none⟩) xs.length xs.length) xs := by
  refine ⟨FS0.own (own := false) (ty := 0) ?_ (List.getElem?_eq_some_iff.1 hj).1 (by simp), hw⟩
  simp [inHeap, hj]
end
end Go.Gx
