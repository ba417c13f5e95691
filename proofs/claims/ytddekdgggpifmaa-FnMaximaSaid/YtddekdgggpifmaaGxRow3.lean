/-
  Lists of lists among the arguments, opened.
-/
import Derived.Test.YtddekdgggpifmaaGxRow2
namespace Go.Gx
set_option linter.unusedSimpArgs false
set_option linter.unusedVariables false
open Go.RowKit (Below)
open Go.ChangeShapes Go.WideShapes Go.ChangeAt Go.Joins Go.Deep

/-! ### where blocks lie -/
def AtL (ls : List (List Value)) (k : Nat) (bs : List (List Value)) : Prop := ∀ i, i < bs.length → ls[k + i]? = bs[i]?
def AtR (ρ : Map) (k : Nat) (Ls : List Loc) : Prop := ∀ i, i < Ls.length → ρ (k + i) = Ls.getD i ⟨0, 0, 0⟩
theorem AtL.here {bs post : List (List Value)} : AtL (bs ++ post) 0 bs := fun i hi => by
  rw [Nat.zero_add, List.getElem?_append_left hi]
theorem AtL.skip {pre post bs : List (List Value)} {n k : Nat} (h : pre.length = n) (a : AtL post k bs) : AtL (pre ++ post) (n + k) bs := fun i hi => by
  rw [List.getElem?_append_right (by omega), ← a i hi]
  congr 1
  omega
theorem AtR.here {bs post : List Loc} : AtR (inMap (bs ++ post)) 0 bs := fun i hi => by
  simp [inMap, List.getD_eq_getElem?_getD, List.getElem?_append_left hi]
theorem AtR.skip {pre post bs : List Loc} {n k : Nat} (h : pre.length = n) (a : AtR (inMap post) k bs) : AtR (inMap (pre ++ post)) (n + k) bs := fun i hi => by
  rw [← a i hi]
  simp only [inMap, List.getD_eq_getElem?_getD]
  rw [List.getElem?_append_right (by omega)]
  congr 2
  omega
theorem AtL.one {ls : List (List Value)} {k : Nat} {b : List Value} (a : AtL ls k [b]) : ls[k]? = some b := by simpa using a 0 (by simp)
theorem AtR.one {ρ : Map} {k : Nat} {l : Loc} (a : AtR ρ k [l]) : ρ k = l := by simpa using a 0 (by simp)
theorem in_app {W : World} {ρ : Map} {G : Heap} {k k' : Nat} {a b : List (List Value)} (h : InFrom W ρ G k a) (hk : k' = k + a.length) (h' : InFrom W ρ G k' b) : InFrom W ρ G k (a ++ b) := by
  subst hk
  intro j l hj i v hv
  by_cases hlt : j < a.length
  · rw [List.getElem?_append_left hlt] at hj
    exact h j l hj i v hv
  · rw [List.getElem?_append_right (by omega)] at hj
    have := h' (j - a.length) l hj i v hv
    rwa [show k + a.length + (j - a.length) = k + j by omega] at this
theorem in_one {W : World} {ρ : Map} {G : Heap} {k : Nat} {l : List Value} (h : ∀ (i : Nat) (v : Value), l[i]? = some v → ∃ u, W.cell? (addrOf (ρ k) i) = some u ∧ CRel ρ G v u) : InFrom W ρ G k [l] := in_cons h in_nil

/-! ### lists in a list -/
structure LAt {α : Type} (f : α → Value) (W : World) (A : Option Addr) (c : Nat) (l : Loc) (xs : List α) : Prop where
  len : xs.length ≤ c
  cap : c ≤ 9223372036854775807
  addr : xs.length = 0 ∨ A = some (addrOf l 0)
  cell : ∀ (i : Nat) (x : α), xs[i]? = some x → ∃ u, W.cell? (addrOf l i) = some u ∧ ∀ ρ G, CRel ρ G (f x) u
theorem FsAt.lat {W : World} {A : Option Addr} {c : Nat} {l : Loc} {xs : List Nat} (h : FsAt W A c l xs) : LAt fv W A c l xs :=
  ⟨h.len, h.cap, h.addr, fun i x hx => by
    obtain ⟨b, h1, h2⟩ := h.cell i x hx
    exact ⟨_, h1, fun ρ G => ⟨.float h2, rfl⟩⟩⟩
theorem IsAt.lat {W : World} {A : Option Addr} {c : Nat} {l : Loc} {xs : List Int} (h : IsAt W A c l xs) : LAt iv W A c l xs :=
  ⟨h.len, h.cap, h.addr, fun i x hx => ⟨_, h.cell i x hx, fun ρ G => ⟨.int _ _, rfl⟩⟩⟩
structure GAt {α : Type} (f : α → Value) (W : World) (A : Option Addr) (c : Nat) (l : Loc) (Ls : List Loc) (xss : List (List α)) : Prop where
  len : xss.length ≤ c
  cap : c ≤ 9223372036854775807
  addr : xss.length = 0 ∨ A = some (addrOf l 0)
  lsl : Ls.length = xss.length
  cell : ∀ i, i < xss.length → ∃ Ai ci, W.cell? (addrOf l i) = some (.slice Ai (xss.getD i []).length ci) ∧ LAt f W Ai ci (Ls.getD i ⟨0, 0, 0⟩) (xss.getD i [])
def blksG {α : Type} (f : α → Value) (k : Nat) (xss : List (List α)) : List (List Value) :=
  ((List.range xss.length).map fun i => .slice (some ⟨k + 1 + i, 0, none⟩) (xss.getD i []).length (xss.getD i []).length) :: xss.map (List.map f)
theorem blksG_length {α : Type} (f : α → Value) (k : Nat) (xss : List (List α)) : (blksG f k xss).length = xss.length + 1 := by simp [blksG]
section
variable {α : Type} {f : α → Value} {W : World} {A : Option Addr} {c k : Nat} {l : Loc} {Ls : List Loc} {xss : List (List α)} {ls : List (List Value)} {ρ : Map}
theorem AtL.outer (a : AtL ls k (blksG f k xss)) : ls[k]? = some ((List.range xss.length).map fun i => .slice (some ⟨k + 1 + i, 0, none⟩) (xss.getD i []).length (xss.getD i []).length) := by
  simpa [blksG] using a 0 (by simp [blksG])
theorem AtL.row (a : AtL ls k (blksG f k xss)) {i : Nat} (hi : i < xss.length) : ls[k + 1 + i]? = some ((xss.getD i []).map f) := by
  have := a (i + 1) (by simp [blksG]; omega)
  rw [show k + (i + 1) = k + 1 + i by omega] at this
  rw [this]
  simp [blksG, List.getD_eq_getElem?_getD, hi]
theorem AtR.row (a : AtR ρ k (l :: Ls)) {i : Nat} (hi : i < Ls.length) : ρ (k + 1 + i) = Ls.getD i ⟨0, 0, 0⟩ := by
  have := a (i + 1) (by simp; omega)
  rw [show k + (i + 1) = k + 1 + i by omega] at this
  rw [this]
  simp [List.getD_eq_getElem?_getD]
theorem AtR.head (a : AtR ρ k (l :: Ls)) : ρ k = l := by simpa using a 0 (by simp)
theorem GAt.rel (g : GAt f W A c l Ls xss) (a : AtL ls k (blksG f k xss)) (r : AtR ρ k (l :: Ls)) : VRel ρ (inHeap ls) (.slice (some ⟨k, 0, none⟩) xss.length xss.length) (.slice A xss.length c) :=
  rel_slice a.outer (by simp) g.len (by rw [r.head]; exact g.addr)
theorem GAt.here (g : GAt f W A c l Ls xss) (a : AtL ls k (blksG f k xss)) (r : AtR ρ k (l :: Ls)) : InFrom W ρ (inHeap ls) k (blksG f k xss) := by
  intro j m hm i v hv
  cases j with
  | zero =>
    simp only [blksG, List.getElem?_cons_zero, Option.some.injEq] at hm
    subst hm
    have hi : i < xss.length := by simpa using (List.getElem?_eq_some_iff.1 hv).1
    simp only [List.getElem?_map, List.getElem?_range hi, Option.map_some, Option.some.injEq] at hv
    subst hv
    obtain ⟨Ai, ci, h1, h2⟩ := g.cell i hi
    refine ⟨_, by rw [Nat.add_zero, r.head]; exact h1, ?_, rfl⟩
    exact rel_slice (a.row hi) (by simp) h2.len (by rw [r.row (by rw [g.lsl]; exact hi)]; exact h2.addr)
  | succ j =>
    simp only [blksG, List.getElem?_cons_succ] at hm
    have hj : j < xss.length := by simpa using (List.getElem?_eq_some_iff.1 hm).1
    rw [List.getElem?_map, List.getElem?_eq_getElem hj] at hm
    simp only [Option.map_some, Option.some.injEq] at hm
    subst hm
    obtain ⟨Ai, ci, h1, h2⟩ := g.cell j hj
    rw [List.getElem?_map] at hv
    obtain ⟨x, hx, rfl⟩ := Option.map_eq_some_iff.1 hv
    have e : xss.getD j [] = xss[j] := by simp [List.getD_eq_getElem?_getD, hj]
    rw [e] at h2
    obtain ⟨u, h3, h4⟩ := h2.cell i x hx
    refine ⟨u, ?_, h4 _ _⟩
    rw [show k + (j + 1) = k + 1 + j by omega, r.row (by rw [g.lsl]; exact hj)]
    exact h3
theorem GAt.max (g : GAt f W A c l Ls xss) : xss.length ≤ 9223372036854775807 := Nat.le_trans g.len g.cap
theorem GAt.rows (g : GAt f W A c l Ls xss) (j : Nat) : (xss.getD j []).length ≤ 9223372036854775807 := by
  by_cases hj : j < xss.length
  · obtain ⟨Ai, ci, h1, h2⟩ := g.cell j hj
    exact Nat.le_trans h2.len h2.cap
  · have : xss.getD j [] = [] := by simp [List.getD_eq_getElem?_getD, List.getElem?_eq_none (Nat.le_of_not_lt hj)]
    rw [this]; simp
end
theorem fs_at {ls : List (List Value)} {k : Nat} {xs : List Nat} (a : AtL ls k [xs.map fv]) : FS (inHeap ls) (.slice (some ⟨k, 0, none⟩) xs.length xs.length) xs := fs_in a.one
theorem is_at {ls : List (List Value)} {k : Nat} {xs : List Int} (a : AtL ls k [xs.map iv]) : IS (inHeap ls) (.slice (some ⟨k, 0, none⟩) xs.length xs.length) xs := is_in a.one
theorem ss_at {ls : List (List Value)} {k : Nat} {xss : List (List Nat)} (a : AtL ls k (blksG fv k xss)) : SS (inHeap ls) (.slice (some ⟨k, 0, none⟩) xss.length xss.length) xss := by
  refine ⟨(List.range xss.length).map fun i => .slice (some ⟨k + 1 + i, 0, none⟩) (xss.getD i []).length (xss.getD i []).length, ?_, by simp, fun j hj => ?_⟩
  · refine FS0.own (own := false) (ty := 0) ?_ (List.getElem?_eq_some_iff.1 a.outer).1 (by simp)
    simp [inHeap, a.outer]
  · rw [getD_range_map hj]
    exact fs_in (a.row hj)
section
variable {H : Type} {enc : TypeId × Value → H} {P : Program} {W : World} {base : Nat} {spare : Nat → Bool} {held : Bool}
theorem open_gC {α : Type} {f : α → Value} {Q : List α → Prop} (hnil : Q []) {t e : TypeId} {fuel : Nat} {v : Value} {x : DataW H × List MemPlace} (ht : P.underlying t = some (.slice e)) (hc : P.cellsOf e = 1)
    (hrow : ∀ fuel v x, DataW.trod enc P W base spare held fuel e [v] = some x → ∃ (A : Option Addr) (c : Nat) (l : Loc) (xs : List α), v = .slice A xs.length c ∧ LAt f W A c l xs ∧ Q xs)
    (h : DataW.trod enc P W base spare held fuel t [v] = some x) : ∃ (A : Option Addr) (c : Nat) (l : Loc) (Ls : List Loc) (xss : List (List α)), v = .slice A xss.length c ∧ GAt f W A c l Ls xss ∧ ∀ j, Q (xss.getD j []) := by
  rcases open_slice1 ht hc h with ⟨h0, _⟩ | ⟨a, len, cap, m, n, V, D, Pl, h0, _, hl, hm, hmm, _, hV⟩
  · exact ⟨none, 0, ⟨0, 0, 0⟩, [], [], by simpa using h0, ⟨by simp, by simp, .inl rfl, rfl, fun i hi => by simp at hi⟩, fun j => by simpa using hnil⟩
  · have hlm : len ≤ m := by rw [hmm]; split <;> omega
    have inh : Inhabited (List α × Loc) := ⟨([], ⟨0, 0, 0⟩)⟩
    obtain ⟨R, hR⟩ := choose_lt (α := List α × Loc) (n := len) (p := fun i r => ∃ A c, V i = .slice A r.1.length c ∧ LAt f W A c r.2 r.1 ∧ Q r.1) (fun i hi => by
      obtain ⟨h1, h2⟩ := hV i (by omega)
      obtain ⟨A, c, l, xs, e1, e2, e3⟩ := hrow _ _ _ h2
      exact ⟨(xs, l), A, c, e1, e2, e3⟩)
    refine ⟨some a, cap, ⟨a.block, a.off, 0⟩, (List.range len).map fun i => (R i).2, (List.range len).map fun i => (R i).1, by simpa using h0, ⟨by simpa using hl, hm, ?_, by simp, fun i hi => ?_⟩, fun j => ?_⟩
    · rcases Nat.eq_zero_or_pos len with h0 | h0
      · left; simp [h0]
      · right; exact addr_first (hV 0 (by omega)).1
    · have hi' : i < len := by simpa using hi
      obtain ⟨A, c, e1, e2, _⟩ := hR i hi'
      rw [getD_range_map hi', getD_range_map hi']
      refine ⟨A, c, ?_, e2⟩
      rw [addr_at (hV 0 (by omega)).1, (hV i (by omega)).1, e1]
    · by_cases hj : j < len
      · rw [getD_range_map hj]
        obtain ⟨_, _, _, _, e3⟩ := hR j hj
        exact e3
      · have : ((List.range len).map fun i => (R i).1).getD j [] = [] := by simp [List.getD_eq_getElem?_getD, List.getElem?_eq_none (l := List.range len) (i := j) (by simp; omega)]
        rw [this]; exact hnil
theorem open_ssC {t e e' : TypeId} {fuel : Nat} {v : Value} {x : DataW H × List MemPlace} (ht : P.underlying t = some (.slice e)) (hc : P.cellsOf e = 1) (he : P.underlying e = some (.slice e')) (he' : P.underlying e' = some (.float .f32)) (hc' : P.cellsOf e' = 1)
    (h : DataW.trod enc P W base spare held fuel t [v] = some x) : ∃ (A : Option Addr) (c : Nat) (l : Loc) (Ls : List Loc) (xss : List (List Nat)), v = .slice A xss.length c ∧ GAt fv W A c l Ls xss ∧ W32S xss :=
  open_gC (Q := W32) (fun j => by simp) ht hc (fun fuel v x hx => by
    obtain ⟨A, c, l, xs, h1, h2⟩ := open_fsC he he' hc' hx
    exact ⟨A, c, l, xs, h1, h2.lat, h2.word⟩) h
theorem open_ssV {r : Reach} {b0 : Nat} {t e e' : TypeId} {v : Value} {d : DataW H} {p : List MemPlace} (ht : P.underlying t = some (.slice e)) (hc : P.cellsOf e = 1) (he : P.underlying e = some (.slice e')) (he' : P.underlying e' = some (.float .f32)) (hc' : P.cellsOf e' = 1)
    (hv : Value.okWide P W r b0 t v) (h : DataW.Trod enc P W base spare held t v d p) : ∃ (A : Option Addr) (c : Nat) (l : Loc) (Ls : List Loc) (xss : List (List Nat)), v = .slice A xss.length c ∧ GAt fv W A c l Ls xss ∧ W32S xss := by
  obtain ⟨a, n, c, rfl⟩ := okWide_slice ht hv
  obtain ⟨fuel, hf⟩ := h
  exact open_ssC ht hc he he' hc' (by simpa [Value.cells] using hf)
theorem open_bandsV {r : Reach} {b0 : Nat} {t : TypeId} {f0 f1 : Field} {e0 e e' : TypeId} {v : Value} {d : DataW H} {p : List MemPlace} (hs : P.underlying t = some (.struct #[f0, f1])) (hone : oneCellFields P #[f0, f1] = true) (hC : P.cellsOf t = 2)
    (h0 : P.underlying f0.type = some (.slice e0)) (he0 : P.underlying e0 = some (.float .f32)) (hc0 : P.cellsOf e0 = 1)
    (ht : P.underlying f1.type = some (.slice e)) (hc : P.cellsOf e = 1) (he : P.underlying e = some (.slice e')) (he' : P.underlying e' = some (.float .f32)) (hc' : P.cellsOf e' = 1)
    (hv : Value.okWide P W r b0 t v) (h : DataW.Trod enc P W base spare held t v d p) : ∃ (A : Option Addr) (c : Nat) (l : Loc) (xs : List Nat) (A' : Option Addr) (c' : Nat) (l' : Loc) (Ls : List Loc) (xss : List (List Nat)),
      v = .agg #[.slice A xs.length c, .slice A' xss.length c'] ∧ FsAt W A c l xs ∧ GAt fv W A' c' l' Ls xss ∧ W32S xss := by
  obtain ⟨v0, v1, y0, y1, n, rfl, _, _, g0, g1⟩ := open_agg2 hs hone hC hv h
  obtain ⟨A, c, l, xs, rfl, hx⟩ := open_fsC h0 he0 hc0 g0
  obtain ⟨A', c', l', Ls, xss, rfl, hg, hw⟩ := open_ssC ht hc he he' hc' g1
  exact ⟨A, c, l, xs, A', c', l', Ls, xss, rfl, hx, hg, hw⟩
end
section
variable {H : Type} {enc : TypeId × Value → H} {P : Program} {W : World} {base : Nat} {spare : Nat → Bool} {held : Bool}
theorem open_siV {r : Reach} {b0 : Nat} {t e e' : TypeId} {v : Value} {d : DataW H} {p : List MemPlace} (ht : P.underlying t = some (.slice e)) (hc : P.cellsOf e = 1) (he : P.underlying e = some (.slice e')) (he' : P.underlying e' = some (.int .i64)) (hc' : P.cellsOf e' = 1)
    (hv : Value.okWide P W r b0 t v) (h : DataW.Trod enc P W base spare held t v d p) : ∃ (A : Option Addr) (c : Nat) (l : Loc) (Ls : List Loc) (xss : List (List Int)), v = .slice A xss.length c ∧ GAt iv W A c l Ls xss ∧ I64S xss := by
  obtain ⟨a, n, c, rfl⟩ := okWide_slice ht hv
  obtain ⟨fuel, hf⟩ := h
  exact open_gC (Q := I64) (fun j => by simp) ht hc (fun fuel v x hx => by
    obtain ⟨A, c, l, xs, h1, h2⟩ := open_isC he he' hc' hx
    exact ⟨A, c, l, xs, h1, h2.lat, h2.word⟩) (by simpa [Value.cells] using hf)
def truthOf : Value → Bool
  | .bool b => b
  | _ => false
theorem open_bsV {r : Reach} {b0 : Nat} {t e : TypeId} {v : Value} {d : DataW H} {p : List MemPlace} (ht : P.underlying t = some (.slice e)) (he : P.underlying e = some .bool) (hc : P.cellsOf e = 1)
    (hv : Value.okWide P W r b0 t v) (h : DataW.Trod enc P W base spare held t v d p) : ∃ (A : Option Addr) (c : Nat) (l : Loc) (xs : List Bool), v = .slice A xs.length c ∧ LAt bv W A c l xs := by
  obtain ⟨a, n, c, rfl⟩ := okWide_slice ht hv
  obtain ⟨fuel, hf⟩ := h
  rcases open_slice1 ht hc (by simpa [Value.cells] using hf) with ⟨h0, _⟩ | ⟨a, len, cap, m, n, V, D, Pl, h0, _, hl, hm, hmm, _, hV⟩
  · exact ⟨none, 0, ⟨0, 0, 0⟩, [], by simpa using h0, by simp, by simp, .inl rfl, fun i x hx => by simp at hx⟩
  · have hlm : len ≤ m := by rw [hmm]; split <;> omega
    have hf : ∀ i, i < len → ∃ b, V i = .bool b ∧ W.cell? (a.add i) = some (.bool b) := fun i hi => by
      obtain ⟨h1, h2⟩ := hV i (by omega)
      obtain ⟨b, hb, _⟩ := DataW.trod_bool he h2
      have hb' : V i = .bool b := by simpa using hb
      rw [hb'] at h1
      exact ⟨b, hb', h1⟩
    refine ⟨some a, cap, ⟨a.block, a.off, 0⟩, (List.range len).map fun i => truthOf (V i), by simpa using h0, by simpa using hl, hm, ?_, fun i x hx => ?_⟩
    · rcases Nat.eq_zero_or_pos len with h0 | h0
      · left; simp [h0]
      · right
        obtain ⟨b, _, hcell⟩ := hf 0 h0
        exact addr_first hcell
    · have hi : i < len := by simpa using (List.getElem?_eq_some_iff.1 hx).1
      obtain ⟨b, hb, hcell⟩ := hf i hi
      simp only [List.getElem?_map, List.getElem?_range hi, Option.map_some, hb, truthOf, Option.some.injEq] at hx
      obtain ⟨_, _, hcell0⟩ := hf 0 (by omega)
      refine ⟨.bool b, by rw [addr_at hcell0, hcell], fun ρ G => ?_⟩
      subst hx
      exact ⟨.bool _, rfl⟩
end
theorem LAt.max {α : Type} {f : α → Value} {W : World} {A : Option Addr} {c : Nat} {l : Loc} {xs : List α} (h : LAt f W A c l xs) : xs.length ≤ 9223372036854775807 := Nat.le_trans h.len h.cap
theorem LAt.rel {α : Type} {f : α → Value} {W : World} {A : Option Addr} {c : Nat} {l : Loc} {xs : List α} (h : LAt f W A c l xs) {ls : List (List Value)} {ρ : Map} {j : Nat} (hj : ls[j]? = some (xs.map f)) (hl : ρ j = l) : VRel ρ (inHeap ls) (.slice (some ⟨j, 0, none⟩) xs.length xs.length) (.slice A xs.length c) :=
  rel_slice hj (by simp) h.len (by rw [hl]; exact h.addr)
theorem LAt.here {α : Type} {f : α → Value} {W : World} {A : Option Addr} {c : Nat} {l : Loc} {xs : List α} (h : LAt f W A c l xs) {ρ : Map} {G : Heap} {k : Nat} (hl : ρ k = l) : ∀ (i : Nat) (v : Value), (xs.map f)[i]? = some v → ∃ u, W.cell? (addrOf (ρ k) i) = some u ∧ CRel ρ G v u := by
  intro i v hv
  rw [List.getElem?_map] at hv
  obtain ⟨x, hx, rfl⟩ := Option.map_eq_some_iff.1 hv
  obtain ⟨u, h1, h2⟩ := h.cell i x hx
  exact ⟨u, by rw [hl]; exact h1, h2 _ _⟩
theorem bs_at {ls : List (List Value)} {k : Nat} {xs : List Bool} (a : AtL ls k [xs.map bv]) : BS (inHeap ls) (.slice (some ⟨k, 0, none⟩) xs.length xs.length) xs := by
  refine FS0.own (own := false) (ty := 0) ?_ (List.getElem?_eq_some_iff.1 a.one).1 (by simp)
  simp [inHeap, a.one]
theorem si_at {ls : List (List Value)} {k : Nat} {xss : List (List Int)} (a : AtL ls k (blksG iv k xss)) : SI (inHeap ls) (.slice (some ⟨k, 0, none⟩) xss.length xss.length) xss := by
  refine ⟨(List.range xss.length).map fun i => .slice (some ⟨k + 1 + i, 0, none⟩) (xss.getD i []).length (xss.getD i []).length, ?_, by simp, fun j hj => ?_⟩
  · refine FS0.own (own := false) (ty := 0) ?_ (List.getElem?_eq_some_iff.1 a.outer).1 (by simp)
    simp [inHeap, a.outer]
  · rw [getD_range_map hj]
    exact is_in (a.row hj)
theorem calls_rowN {P : Program} {f : FuncId} {args us : List Value} {ls : List (List Value)} {ρ : Map} {W : World} (h : ACalls P f args (inHeap ls) fun r _ => r = .bool true) (hr : InFrom W ρ (inHeap ls) 0 ls) (hv : ArgsRel ρ (inHeap ls) args us) :
    Calls P f us.toArray W fun e w' => e = .returned (.bool true) ∧ Below W.heap.size W w' := calls_row h hr hv
end Go.Gx
