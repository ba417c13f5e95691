/-
  Slices of the call's own, told with the handles between which they were made.
-/
import Derived.Test.YtddekdgggpifmaaGxAll
namespace Go.Gx
set_option linter.unusedSimpArgs false
set_option linter.unusedVariables false

/-! ### one list -/
def hdl : Value → Option Nat
  | .slice (some ⟨h, _, _⟩) _ _ => some h
  | _ => none
/-- A slice over a whole block of the call's own, or none. -/
def OwL (lo hi : Nat) (H : Heap) (ty : TypeId) (v : Value) (l : List Value) : Prop :=
  (v = .slice none 0 0 ∧ l = []) ∨ ∃ h, v = .slice (some ⟨h, 0, none⟩) l.length l.length ∧ lo ≤ h ∧ h < hi ∧ h < H.n ∧ H.blk h = some ⟨true, ty, l⟩
/-- All blocks but those from 'lo' to 'hi' are as they were. -/
structure Off (lo hi : Nat) (H H' : Heap) : Prop where
  n : H.n ≤ H'.n
  blk : ∀ i, i < H.n → i < lo ∨ hi ≤ i → H'.blk i = H.blk i
/-- All blocks but one list's are as they were. -/
structure Fr (v : Value) (H H' : Heap) : Prop where
  n : H'.n = H.n
  blk : ∀ i, hdl v ≠ some i → H'.blk i = H.blk i

section
variable {lo hi lo' hi' : Nat} {H H' H'' : Heap} {ty sty : TypeId} {v u : Value} {l m : List Value}
theorem OwL.nil : OwL lo hi H ty (.slice none 0 0) [] := .inl ⟨rfl, rfl⟩
theorem OwL.mk {h n : Nat} (hb : H.blk h = some ⟨true, ty, l⟩) (hn : l.length = n) (h1 : lo ≤ h) (h2 : h < hi) (h3 : h < H.n) : OwL lo hi H ty (.slice (some ⟨h, 0, none⟩) n n) l :=
  .inr ⟨h, by rw [hn], h1, h2, h3, hb⟩
theorem OwL.sl (o : OwL lo hi H ty v l) : Sl H v l := by
  rcases o with ⟨rfl, rfl⟩ | ⟨h, rfl, _, _, h3, hb⟩
  · exact .nil _
  · exact .own h3 hb rfl
theorem OwL.fs {xs : List Nat} (o : OwL lo hi H ty v (xs.map fv)) : FS H v xs := o.sl
theorem OwL.is {xs : List Int} (o : OwL lo hi H ty v (xs.map iv)) : IS H v xs := o.sl
theorem OwL.one (o : OwL lo hi H ty v l) : Go.Gx.one v = true := o.sl.one
theorem OwL.keep (o : OwL lo hi H ty v l) (hn : H.n ≤ H'.n) (hb : ∀ h, hdl v = some h → H'.blk h = H.blk h) : OwL lo hi H' ty v l := by
  rcases o with ⟨rfl, rfl⟩ | ⟨h, rfl, h1, h2, h3, h4⟩
  · exact .nil
  · exact .inr ⟨h, rfl, h1, h2, by omega, by rw [hb h rfl]; exact h4⟩
theorem OwL.hdl (o : OwL lo hi H ty v l) {h : Nat} (e : Go.Gx.hdl v = some h) : lo ≤ h ∧ h < hi ∧ h < H.n ∧ H.blk h = some ⟨true, ty, l⟩ ∧ v = .slice (some ⟨h, 0, none⟩) l.length l.length := by
  rcases o with ⟨rfl, rfl⟩ | ⟨k, rfl, h1, h2, h3, h4⟩
  · cases e
  · cases e; exact ⟨h1, h2, h3, h4, rfl⟩
theorem OwL.ext (o : OwL lo hi H ty v l) (e : Ext H H') : OwL lo hi H' ty v l := o.keep e.n fun h hh => e.blk h (o.hdl hh).2.2.1
theorem OwL.off (o : OwL lo hi H ty v l) (e : Off lo' hi' H H') (hd : hi ≤ lo' ∨ hi' ≤ lo) : OwL lo hi H' ty v l := o.keep e.n fun h hh => by
  obtain ⟨h1, h2, h3, _⟩ := o.hdl hh
  exact e.blk h h3 (by omega)
theorem OwL.fr (o : OwL lo hi H ty v l) (e : Fr u H H') (hd : ∀ h, Go.Gx.hdl v = some h → Go.Gx.hdl u ≠ some h) : OwL lo hi H' ty v l := o.keep (by rw [e.n]; exact Nat.le_refl _) fun h hh => e.blk h (hd h hh)
theorem OwL.wide (o : OwL lo hi H ty v l) (h1 : lo' ≤ lo) (h2 : hi ≤ hi') : OwL lo' hi' H ty v l := by
  rcases o with ⟨rfl, rfl⟩ | ⟨h, rfl, g1, g2, g3, g4⟩
  · exact .nil
  · exact .inr ⟨h, rfl, by omega, by omega, g3, g4⟩
theorem Fr.off (e : Fr v H H') (o : OwL lo hi H ty v l) : Off lo hi H H' := ⟨by rw [e.n]; exact Nat.le_refl _, fun i _ hi' => e.blk i fun hh => by
  obtain ⟨h1, h2, _⟩ := o.hdl hh
  omega⟩
theorem Fr.refl (v : Value) (H : Heap) : Fr v H H := ⟨rfl, fun _ _ => rfl⟩
theorem Off.refl (lo hi : Nat) (H : Heap) : Off lo hi H H := ⟨Nat.le_refl _, fun _ _ _ => rfl⟩
theorem Off.trans (e : Off lo hi H H') (f : Off lo hi H' H'') : Off lo hi H H'' := ⟨Nat.le_trans e.n f.n, fun i h1 h2 => (f.blk i (Nat.lt_of_lt_of_le h1 e.n) h2).trans (e.blk i h1 h2)⟩
theorem Off.wide (e : Off lo hi H H') (h1 : lo' ≤ lo) (h2 : hi ≤ hi') : Off lo' hi' H H' := ⟨e.n, fun i a b => e.blk i a (by omega)⟩
theorem Ext.off (e : Ext H H') : Off lo hi H H' := ⟨e.n, fun i h _ => e.blk i h⟩
/-- What a list of the call's own, made later, does not touch. -/
theorem Ext.mark (e : Ext H H') (f : Off lo hi H' H'') (h : H.n ≤ lo) : Ext H H'' := ⟨Nat.le_trans e.n f.n, fun i hi => (f.blk i (Nat.lt_of_lt_of_le hi e.n) (.inl (by omega))).trans (e.blk i hi)⟩
theorem Ext.of_off (f : Off lo hi H H') (h : H.n ≤ lo) : Ext H H' := (Ext.refl H).mark f h
end

/-! ### lists that share nothing -/
def OwN (lo hi : Nat) (H : Heap) (ty : TypeId) (vs : List Value) (ls : List (List Value)) : Prop :=
  vs.length = ls.length ∧ (∀ i, i < ls.length → OwL lo hi H ty (vs.getD i undef) (ls.getD i [])) ∧
    ∀ i j h, i < ls.length → j < ls.length → hdl (vs.getD i undef) = some h → hdl (vs.getD j undef) = some h → i = j
section
variable {lo hi lo' hi' : Nat} {H H' H'' : Heap} {ty sty : TypeId} {vs : List Value} {ls : List (List Value)}
theorem OwN.keep (o : OwN lo hi H ty vs ls) (hn : H.n ≤ H'.n) (hb : ∀ i h, i < ls.length → hdl (vs.getD i undef) = some h → H'.blk h = H.blk h) : OwN lo hi H' ty vs ls :=
  ⟨o.1, fun i hi' => (o.2.1 i hi').keep hn fun h hh => hb i h hi' hh, o.2.2⟩
theorem OwN.ext (o : OwN lo hi H ty vs ls) (e : Ext H H') : OwN lo hi H' ty vs ls := ⟨o.1, fun i hi' => (o.2.1 i hi').ext e, o.2.2⟩
theorem OwN.off (o : OwN lo hi H ty vs ls) (e : Off lo' hi' H H') (hd : hi ≤ lo' ∨ hi' ≤ lo) : OwN lo hi H' ty vs ls := ⟨o.1, fun i hi' => (o.2.1 i hi').off e hd, o.2.2⟩
theorem OwN.wide (o : OwN lo hi H ty vs ls) (h1 : lo' ≤ lo) (h2 : hi ≤ hi') : OwN lo' hi' H ty vs ls := ⟨o.1, fun i hi' => (o.2.1 i hi').wide h1 h2, o.2.2⟩
theorem OwN.nil : OwN lo hi H ty [] [] := ⟨rfl, fun i hi' => by simp at hi', fun i j h hi' => by simp at hi'⟩
theorem getD_app_lt {α : Type} {l m : List α} {i : Nat} {d : α} (h : i < l.length) : (l ++ m).getD i d = l.getD i d := by
  simp [List.getD_eq_getElem?_getD, List.getElem?_append_left h]
theorem getD_app_at {α : Type} {l : List α} {a d : α} : (l ++ [a]).getD l.length d = a := by
  simp [List.getD_eq_getElem?_getD]
/-- One more list, made later. -/
theorem OwN.snoc {v : Value} {l : List Value} (o : OwN lo hi H ty vs ls) (p : OwL lo hi H ty v l) (hd : ∀ i h, i < ls.length → hdl (vs.getD i undef) = some h → hdl v ≠ some h) : OwN lo hi H ty (vs ++ [v]) (ls ++ [l]) := by
  obtain ⟨h1, h2, h3⟩ := o
  have ea : ∀ i, i < ls.length → (vs ++ [v]).getD i undef = vs.getD i undef := fun i hi' => getD_app_lt (by omega)
  have eb : (vs ++ [v]).getD ls.length undef = v := by rw [← h1]; exact getD_app_at
  refine ⟨by simp [h1], fun i hi' => ?_, fun i j h hi' hj hh hk => ?_⟩
  · simp only [List.length_append, List.length_cons, List.length_nil] at hi'
    by_cases hlt : i < ls.length
    · rw [ea i hlt, getD_app_lt hlt]; exact h2 i hlt
    · have : i = ls.length := by omega
      subst this
      rw [eb, getD_app_at]; exact p
  · simp only [List.length_append, List.length_cons, List.length_nil] at hi' hj
    by_cases hlt : i < ls.length
    · rw [ea i hlt] at hh
      by_cases hlj : j < ls.length
      · rw [ea j hlj] at hk; exact h3 i j h hlt hlj hh hk
      · have : j = ls.length := by omega
        subst this
        rw [eb] at hk
        exact absurd hk (hd i h hlt hh)
    · have : i = ls.length := by omega
      subst this
      rw [eb] at hh
      by_cases hlj : j < ls.length
      · rw [ea j hlj] at hk; exact absurd hh (hd j h hlj hk)
      · omega
theorem OwN.lt (o : OwN lo hi H ty vs ls) {i h : Nat} (hi' : i < ls.length) (hh : hdl (vs.getD i undef) = some h) : lo ≤ h ∧ h < hi ∧ h < H.n := by
  obtain ⟨a, b, c, _⟩ := (o.2.1 i hi').hdl hh
  exact ⟨a, b, c⟩
/-- Behind a change of the list at 'i'. -/
theorem OwN.set (o : OwN lo hi H ty vs ls) {i : Nat} {l : List Value} (hi' : i < ls.length) (e : Fr (vs.getD i undef) H H') (p : OwL lo hi H' ty (vs.getD i undef) l) : OwN lo hi H' ty vs (ls.set i l) := by
  obtain ⟨h1, h2, h3⟩ := o
  refine ⟨by simp [h1], fun j hj => ?_, fun j k h hj hk => h3 j k h (by simpa using hj) (by simpa using hk)⟩
  have hj' : j < ls.length := by simpa using hj
  by_cases hji : j = i
  · subst hji
    simpa [List.getD_eq_getElem?_getD, hj'] using p
  · have e1 : (ls.set i l).getD j [] = ls.getD j [] := by
      simp [List.getD_eq_getElem?_getD, List.getElem?_set, Ne.symm hji]
    rw [e1]
    refine (h2 j hj').fr e fun h hh hk => hji (h3 j i h hj' hi' hh hk)
end

/-- Lists in a list, all of the call's own. -/
def OwS (lo hi : Nat) (H : Heap) (sty ty : TypeId) (v : Value) (ls : List (List Value)) : Prop := ∃ vs, OwL lo hi H sty v vs ∧ OwN lo hi H ty vs ls
section
variable {lo hi lo' hi' : Nat} {H H' H'' : Heap} {ty sty : TypeId} {v : Value} {ls : List (List Value)}
theorem OwS.nil : OwS lo hi H sty ty (.slice none 0 0) [] := ⟨[], .nil, .nil⟩
theorem OwS.ext (o : OwS lo hi H sty ty v ls) (e : Ext H H') : OwS lo hi H' sty ty v ls := by obtain ⟨vs, a, b⟩ := o; exact ⟨vs, a.ext e, b.ext e⟩
theorem OwS.off (o : OwS lo hi H sty ty v ls) (e : Off lo' hi' H H') (hd : hi ≤ lo' ∨ hi' ≤ lo) : OwS lo hi H' sty ty v ls := by obtain ⟨vs, a, b⟩ := o; exact ⟨vs, a.off e hd, b.off e hd⟩
theorem OwS.wide (o : OwS lo hi H sty ty v ls) (h1 : lo' ≤ lo) (h2 : hi ≤ hi') : OwS lo' hi' H sty ty v ls := by obtain ⟨vs, a, b⟩ := o; exact ⟨vs, a.wide h1 h2, b.wide h1 h2⟩
theorem OwS.one (o : OwS lo hi H sty ty v ls) : Go.Gx.one v = true := by obtain ⟨vs, a, b⟩ := o; exact a.one
theorem OwS.ss {xss : List (List Nat)} (o : OwS lo hi H sty ty v (xss.map (List.map fv))) : SS H v xss := by
  obtain ⟨vs, a, b⟩ := o
  refine ⟨vs, a.sl, by simpa using b.1, fun j hj => ?_⟩
  have := (b.2.1 j (by simpa using hj)).sl
  simpa [FS, List.getD_eq_getElem?_getD, hj] using this
/-- Behind a change of one of the lists. -/
theorem OwN.outer {vs : List Value} (a : OwL lo hi H sty v vs) (b : OwN lo hi H ty vs ls) (hne : sty ≠ ty) {i : Nat} (hi' : i < ls.length) (e : Fr (vs.getD i undef) H H') : OwL lo hi H' sty v vs := by
  refine a.fr e fun h hh hk => ?_
  obtain ⟨_, _, _, h4, _⟩ := a.hdl hh
  obtain ⟨_, _, _, g4, _⟩ := (b.2.1 i hi').hdl hk
  rw [h4] at g4
  simp only [Option.some.injEq, Blk.mk.injEq] at g4
  exact hne g4.2.1
end
/-- A list and lists in a list. -/
def OwB (lo hi : Nat) (H : Heap) (sty ty : TypeId) (c d : Value) (l : List Value) (ls : List (List Value)) : Prop := ∃ vs, OwL lo hi H sty d vs ∧ OwN lo hi H ty (c :: vs) (l :: ls)
section
variable {lo hi lo' hi' : Nat} {H H' H'' : Heap} {ty sty : TypeId} {c d : Value} {l : List Value} {ls : List (List Value)}
theorem OwN.tail {v : Value} {vs : List Value} (o : OwN lo hi H ty (v :: vs) (l :: ls)) : OwN lo hi H ty vs ls := by
  obtain ⟨h1, h2, h3⟩ := o
  refine ⟨by simpa using h1, fun i hi' => ?_, fun i j h hi' hj hh hk => ?_⟩
  · have := h2 (i + 1) (by simp; omega)
    simpa [List.getD_eq_getElem?_getD] using this
  · have := h3 (i + 1) (j + 1) h (by simp; omega) (by simp; omega) (by simpa [List.getD_eq_getElem?_getD] using hh) (by simpa [List.getD_eq_getElem?_getD] using hk)
    omega
theorem OwN.headL {v : Value} {vs : List Value} (o : OwN lo hi H ty (v :: vs) (l :: ls)) : OwL lo hi H ty v l := by
  have := o.2.1 0 (by simp)
  simpa [List.getD_eq_getElem?_getD] using this
theorem OwN.cons {v : Value} {vs : List Value} (p : OwL lo hi H ty v l) (o : OwN lo hi H ty vs ls) (hd : ∀ i h, i < ls.length → hdl (vs.getD i undef) = some h → hdl v ≠ some h) : OwN lo hi H ty (v :: vs) (l :: ls) := by
  obtain ⟨h1, h2, h3⟩ := o
  refine ⟨by simp [h1], fun i hi' => ?_, fun i j h hi' hj hh hk => ?_⟩
  · cases i with
    | zero => simpa [List.getD_eq_getElem?_getD] using p
    | succ i =>
      have := h2 i (by simpa using hi')
      simpa [List.getD_eq_getElem?_getD] using this
  · cases i with
    | zero =>
      cases j with
      | zero => rfl
      | succ j => exact absurd (by simpa [List.getD_eq_getElem?_getD] using hh) (hd j h (by simpa using hj) (by simpa [List.getD_eq_getElem?_getD] using hk))
    | succ i =>
      cases j with
      | zero => exact absurd (by simpa [List.getD_eq_getElem?_getD] using hk) (hd i h (by simpa using hi') (by simpa [List.getD_eq_getElem?_getD] using hh))
      | succ j =>
        have := h3 i j h (by simpa using hi') (by simpa using hj) (by simpa [List.getD_eq_getElem?_getD] using hh) (by simpa [List.getD_eq_getElem?_getD] using hk)
        omega
theorem OwB.co (o : OwB lo hi H sty ty c d l ls) : OwL lo hi H ty c l := by obtain ⟨vs, a, b⟩ := o; exact b.headL
theorem OwB.de (o : OwB lo hi H sty ty c d l ls) : OwS lo hi H sty ty d ls := by obtain ⟨vs, a, b⟩ := o; exact ⟨vs, a, b.tail⟩
theorem OwB.fs {xs : List Nat} (o : OwB lo hi H sty ty c d (xs.map fv) ls) : FS H c xs := o.co.fs
theorem OwB.ss {xss : List (List Nat)} (o : OwB lo hi H sty ty c d l (xss.map (List.map fv))) : SS H d xss := o.de.ss
theorem OwB.ext (o : OwB lo hi H sty ty c d l ls) (e : Ext H H') : OwB lo hi H' sty ty c d l ls := by obtain ⟨vs, a, b⟩ := o; exact ⟨vs, a.ext e, b.ext e⟩
theorem OwB.off (o : OwB lo hi H sty ty c d l ls) (e : Off lo' hi' H H') (hd : hi ≤ lo' ∨ hi' ≤ lo) : OwB lo hi H' sty ty c d l ls := by obtain ⟨vs, a, b⟩ := o; exact ⟨vs, a.off e hd, b.off e hd⟩
theorem OwB.wide (o : OwB lo hi H sty ty c d l ls) (h1 : lo' ≤ lo) (h2 : hi ≤ hi') : OwB lo' hi' H sty ty c d l ls := by obtain ⟨vs, a, b⟩ := o; exact ⟨vs, a.wide h1 h2, b.wide h1 h2⟩
end
/-! ### marks -/
def offN {α : Type} (ls : List (List α)) (i : Nat) : Nat := ((ls.take i).map List.length).sum
def totL {α : Type} (ls : List (List α)) : Nat := ls.length + offN ls ls.length
theorem offN_zero {α : Type} (ls : List (List α)) : offN ls 0 = 0 := by simp [offN]
theorem offN_succ {α : Type} {ls : List (List α)} {i : Nat} (h : i < ls.length) : offN ls (i + 1) = offN ls i + (ls.getD i []).length := by
  unfold offN
  rw [List.take_add_one, List.map_append, List.sum_append, List.getElem?_eq_getElem h]
  simp [List.getD_eq_getElem?_getD, h]
theorem offN_le {α : Type} (ls : List (List α)) : ∀ {i j : Nat}, i ≤ j → offN ls i ≤ offN ls j := by
  intro i j hij
  induction j with
  | zero => have : i = 0 := by omega
            subst this; exact Nat.le_refl _
  | succ j ih =>
    by_cases h : i = j + 1
    · subst h; exact Nat.le_refl _
    · have h1 := ih (by omega)
      by_cases hj : j < ls.length
      · rw [offN_succ hj]; omega
      · have : offN ls (j + 1) = offN ls j := by
          simp only [offN]
          rw [List.take_of_length_le (by omega), List.take_of_length_le (by omega)]
        omega
theorem offN_map {α β : Type} (f : α → β) (ls : List (List α)) (i : Nat) : offN (ls.map (List.map f)) i = offN ls i := by
  simp only [offN, ← List.map_take, List.map_map]
  congr 1
  apply List.map_congr_left
  intro l _
  simp
theorem totL_map {α β : Type} (f : α → β) (ls : List (List α)) : totL (ls.map (List.map f)) = totL ls := by
  simp only [totL, List.length_map, offN_map]
theorem offN_row {α : Type} {ls : List (List α)} {i : Nat} (h : i < ls.length) : offN ls i + (ls.getD i []).length ≤ offN ls ls.length := by
  rw [← offN_succ h]; exact offN_le _ (by omega)
theorem totL_row {α : Type} {ls : List (List α)} {n : Nat} (h : totL ls ≤ n) (j : Nat) : (ls.getD j []).length ≤ n := by
  by_cases hj : j < ls.length
  · have := offN_row hj
    unfold totL at h
    omega
  · have : ls.getD j [] = [] := by simp [List.getD_eq_getElem?_getD, List.getElem?_eq_none (Nat.le_of_not_lt hj)]
    rw [this]; simp
/-- The first 'i' lists marked, from 'k' on. -/
def marked (mk : Int → Nat → Value) (k : Int) (ls : List (List Value)) (i : Nat) : List (List Value) :=
  (List.range ls.length).map fun j => if j < i then (List.range (ls.getD j []).length).map (mk (k + offN ls j)) else ls.getD j []
section
variable {mk : Int → Nat → Value} {k : Int} {ls : List (List Value)}
theorem marked_length (i : Nat) : (marked mk k ls i).length = ls.length := by simp [marked]
theorem marked_getD {i j : Nat} (h : j < ls.length) : (marked mk k ls i).getD j [] = if j < i then (List.range (ls.getD j []).length).map (mk (k + offN ls j)) else ls.getD j [] := by
  simp [marked, List.getD_eq_getElem?_getD, h]
theorem list_ext_getD {α : Type} {a b : List α} (d : α) (hl : a.length = b.length) (h : ∀ j, j < a.length → a.getD j d = b.getD j d) : a = b := by
  apply List.ext_getElem hl
  intro j h1 h2
  have := h j h1
  simpa [List.getD_eq_getElem?_getD, h1, h2] using this
theorem marked_zero : marked mk k ls 0 = ls := by
  refine list_ext_getD [] (marked_length 0) fun j hj => ?_
  rw [marked_getD (by rwa [marked_length] at hj)]
  simp
theorem marked_set {i : Nat} (h : i < ls.length) : (marked mk k ls i).set i ((List.range (ls.getD i []).length).map (mk (k + offN ls i))) = marked mk k ls (i + 1) := by
  refine list_ext_getD [] (by simp [marked_length]) fun j hj => ?_
  have hj' : j < ls.length := by simpa [marked_length] using hj
  rw [marked_getD hj']
  by_cases hji : j = i
  · subst hji
    simp [List.getD_eq_getElem?_getD, List.getElem?_set, marked_length, h]
  · have : ((marked mk k ls i).set i ((List.range (ls.getD i []).length).map (mk (k + offN ls i)))).getD j [] = (marked mk k ls i).getD j [] := by
      simp [List.getD_eq_getElem?_getD, List.getElem?_set, Ne.symm hji]
    rw [this, marked_getD hj']
    by_cases h1 : j < i
    · rw [if_pos h1, if_pos (by omega)]
    · rw [if_neg h1, if_neg (by omega)]
theorem offN_marked {i j : Nat} : offN (marked mk k ls i) j = offN ls j := by
  have : (marked mk k ls i).map List.length = ls.map List.length := by
    refine list_ext_getD 0 (by simp [marked_length]) fun j hj => ?_
    have hj' : j < ls.length := by simpa [marked_length] using hj
    have e : ∀ (a : List (List Value)), j < a.length → (a.map List.length).getD j 0 = (a.getD j []).length := fun a ha => by
      simp [List.getD_eq_getElem?_getD, ha]
    rw [e _ (by rw [marked_length]; exact hj'), e _ hj', marked_getD hj']
    split <;> simp
  simp only [offN, List.map_take, this]
end
/-! ### two lists -/
section
variable {lo hi lo' hi' : Nat} {H H' H'' : Heap} {ty sty : TypeId} {v u : Value} {l m p : List Value}
theorem OwN.fst (o : OwN lo hi H ty [v, u] [l, m]) : OwL lo hi H ty v l := o.2.1 0 (by simp)
theorem OwN.snd (o : OwN lo hi H ty [v, u] [l, m]) : OwL lo hi H ty u m := o.2.1 1 (by simp)
theorem OwN.set0 (o : OwN lo hi H ty [v, u] [l, m]) (e : Fr v H H') (q : OwL lo hi H' ty v p) : OwN lo hi H' ty [v, u] [p, m] := OwN.set (i := 0) o (by simp) e q
theorem OwN.set1 (o : OwN lo hi H ty [v, u] [l, m]) (e : Fr u H H') (q : OwL lo hi H' ty u p) : OwN lo hi H' ty [v, u] [l, p] := OwN.set (i := 1) o (by simp) e q
theorem OwN.two (a : OwL lo hi H ty v l) (b : OwL lo hi H ty u m) (hd : ∀ h, hdl v = some h → hdl u ≠ some h) : OwN lo hi H ty [v, u] [l, m] := by
  have h1 : OwN lo hi H ty [v] [l] := by
    have := (OwN.nil (lo := lo) (hi := hi) (H := H) (ty := ty)).snoc a (fun i h hi' => by simp at hi')
    simpa using this
  have := h1.snoc b (fun i h hi' hh => by
    have : i = 0 := by simpa using hi'
    subst this
    exact hd h hh)
  simpa using this
end
/-! ### lists that grow -/
section
variable {lo hi lo' hi' bytes : Nat} {H H' H'' : Heap} {ty sty : TypeId} {v u : Value} {l m news : List Value}
theorem app_ow (o : OwL lo hi H ty v l) (hlo : lo ≤ H.n) (hlen : (l.length + news.length) * bytes ≤ 140737488355328) :
    ∃ v' H', eApp ty bytes v (some news) H = some (v', H') ∧ OwL lo H'.n H' ty v' (l ++ news) ∧ H.n ≤ H'.n ∧ (∀ i, i < H.n → hdl v ≠ some i → H'.blk i = H.blk i) ∧ ∀ h, hdl v' = some h → hdl v = some h ∨ H.n ≤ h := by
  rcases o with ⟨rfl, rfl⟩ | ⟨h, rfl, h1, h2, h3, hb⟩
  · by_cases h0 : news = []
    · subst h0
      exact ⟨_, H, rfl, .nil, Nat.le_refl _, fun _ _ _ => rfl, fun h hh => by cases hh⟩
    · refine ⟨_, _, eApp_nil h0 (by simpa using hlen), ?_, by simp [new_n], fun i hi' _ => new_old _ _ _ hi', fun h hh => .inr ?_⟩
      · simpa using OwL.mk (lo := lo) (hi := (H.new ⟨true, ty, news⟩).n) (new_self H ⟨true, ty, news⟩) rfl hlo (by simp [new_n]) (by simp [new_n])
      · cases hh; exact Nat.le_refl _
  · have e : eApp ty bytes (.slice (some ⟨h, 0, none⟩) l.length l.length) (some news) H = some (.slice (some ⟨h, 0, none⟩) (l.length + news.length) (l.length + news.length), H.put h ⟨true, ty, l ++ news⟩) := by
      rw [eApp_own, hb]; exact appB_at rfl rfl hlen
    refine ⟨_, _, e, ?_, Nat.le_refl _, fun i _ hne => hput_other _ _ _ _ fun e => hne (by rw [e]; rfl), fun k hk => .inl (by cases hk; rfl)⟩
    exact .mk (hput_self _ _ _) (by simp) h1 (by rw [put_n]; exact h3) (by rw [put_n]; exact h3)
end
theorem OwL.ne {lo hi : Nat} {H : Heap} {ty sty : TypeId} {v : Value} {l cs : List Value} {own : Bool} {h : Nat} (o : OwL lo hi H ty v l) (hb : H.blk h = some ⟨own, sty, cs⟩) (hne : sty ≠ ty) : Go.Gx.hdl v ≠ some h := fun e => by
  obtain ⟨_, _, _, h4, _⟩ := o.hdl e
  rw [hb] at h4
  simp only [Option.some.injEq, Blk.mk.injEq] at h4
  exact hne h4.2.1
/-- An element is appended to a list that lies in a variable's block. -/
theorem push_ow {H0 G : Heap} {hp lo bytes : Nat} {ty sty : TypeId} {cs l : List Value} {v x : Value} (E : Ext H0 G) (o : OwL lo G.n G ty v l) (hlo : H0.n ≤ lo) (hlo' : lo ≤ G.n) (hb : G.blk hp = some ⟨true, sty, cs⟩) (hh : hp < G.n) (hp0 : H0.n ≤ hp) (hne : sty ≠ ty)
    (hlen : (l.length + 1) * bytes ≤ 140737488355328) :
    ∃ v' G', eApp ty bytes v (some [x]) (G.new ⟨true, ty, [x]⟩) = some (v', G') ∧ G.n + 1 ≤ G'.n ∧ G'.blk hp = some ⟨true, sty, cs⟩ ∧ Go.Gx.one v' = true ∧ (∀ i, i < G.n → hdl v ≠ some i → G'.blk i = G.blk i) ∧
      ∀ cs', Ext H0 (G'.put hp ⟨true, sty, cs'⟩) ∧ OwL lo G'.n (G'.put hp ⟨true, sty, cs'⟩) ty v' (l ++ [x]) := by
  have o1 := (o.ext (Ext.new G ⟨true, ty, [x]⟩))
  obtain ⟨v', G', e, o', n', b', d'⟩ := app_ow (news := [x]) (bytes := bytes) o1 (by simp [new_n]; omega) (by simpa using hlen)
  have hv : hdl v ≠ some hp := o.ne hb hne
  have hb' : G'.blk hp = some ⟨true, sty, cs⟩ := by rw [b' hp (by simp [new_n]; omega) hv, new_old _ _ _ hh, hb]
  simp only [new_n] at n'
  have hk : ∀ i, i < G.n → hdl v ≠ some i → G'.blk i = G.blk i := fun i hi hvi => by rw [b' i (by simp [new_n]; omega) hvi, new_old _ _ _ hi]
  refine ⟨v', G', e, n', hb', o'.one, hk, fun cs' => ⟨⟨by have := E.n; simp only [put_n]; omega, fun i hi => ?_⟩, o'.keep (Nat.le_refl _) fun h hh' => hput_other _ _ _ _ fun e' => ?_⟩⟩
  · have hi' := Nat.lt_of_lt_of_le hi E.n
    rw [hput_other _ _ _ _ (by omega), hk i hi' (fun e' => by have := (o.hdl e').1; omega), E.blk i hi]
  · subst e'
    exact o'.ne hb' hne hh'
/-- An element is appended to a list that is known by its handle. -/
theorem push_at {H0 G : Heap} {hp : Nat} {ty : TypeId} {l m : List Value} {x : Value} (E : Ext H0 G) (hb : G.blk hp = some ⟨true, ty, l⟩) (hp0 : H0.n ≤ hp) (hp1 : hp < G.n) (hm : l ++ [x] = m) :
    Ext H0 ((G.new ⟨true, ty, [x]⟩).put hp ⟨true, ty, l ++ [x]⟩) ∧ ((G.new ⟨true, ty, [x]⟩).put hp ⟨true, ty, l ++ [x]⟩).blk hp = some ⟨true, ty, m⟩ ∧ ((G.new ⟨true, ty, [x]⟩).put hp ⟨true, ty, l ++ [x]⟩).n = G.n + 1 ∧
      ∀ i, i < G.n → i ≠ hp → ((G.new ⟨true, ty, [x]⟩).put hp ⟨true, ty, l ++ [x]⟩).blk i = G.blk i :=
  ⟨(E.news _).put hp0 _, (hput_self _ _ _).trans (by rw [hm]), rfl, fun i hi hne => by rw [hput_other _ _ _ _ hne, new_old _ _ _ hi]⟩
theorem range_snoc {α : Type} (f : Nat → α) (n : Nat) : (List.range n).map f ++ [f n] = (List.range (n + 1)).map f := by simp [List.range_succ]
theorem getD_range_map {α : Type} {f : Nat → α} {n i : Nat} {d : α} (h : i < n) : ((List.range n).map f).getD i d = f i := by simp [List.getD_eq_getElem?_getD, h]
theorem fv_set (xs : List Nat) (i a : Nat) : (xs.map fv).set i (fv a) = (xs.set i a).map fv := by simp [List.map_set]
theorem fv_app (xs ys : List Nat) : xs.map fv ++ ys.map fv = (xs ++ ys).map fv := by simp
theorem fv_snoc (xs : List Nat) (a : Nat) : xs.map fv ++ [fv a] = (xs ++ [a]).map fv := by simp
theorem fv_snoc' (xs : List Nat) (a : Nat) : xs.map fv ++ [.float .f32 a] = (xs ++ [a]).map fv := by simp [fv]
theorem iv_snoc' (xs : List Int) (a : Int) : xs.map iv ++ [.int .i64 a] = (xs ++ [a]).map iv := by simp [iv]
theorem iv_set (xs : List Int) (i : Nat) (a : Int) : (xs.map iv).set i (.int .i64 a) = (xs.set i a).map iv := by simp [List.map_set, iv]
theorem fv_set' (xs : List Nat) (i a : Nat) : (xs.map fv).set i (.float .f32 a) = (xs.set i a).map fv := by simp [List.map_set, fv]
theorem getD_set_self {α : Type} {xs : List α} {i : Nat} {a d : α} (h : i < xs.length) : (xs.set i a).getD i d = a := by simp [List.getD_eq_getElem?_getD, h]
theorem getD_set_ne {α : Type} {xs : List α} {i j : Nat} {a d : α} (h : i ≠ j) : (xs.set i a).getD j d = xs.getD j d := by simp [List.getD_eq_getElem?_getD, List.getElem?_set, h]
/-- A number by a condition. -/
def selI (ok : Bool) (a : Int) : Int := if ok = true then a else 0
def selL {α : Type} (ok : Bool) (a : List α) : List α := if ok = true then a else []
def selN (ok : Bool) (a : Nat) : Nat := if ok = true then a else 0
theorem selI_t {a : Int} : selI true a = a := rfl
theorem selI_f {a : Int} : selI false a = 0 := rfl
theorem selL_t {α : Type} {a : List α} : selL true a = a := rfl
theorem selL_f {α : Type} {a : List α} : selL false a = [] := rfl
theorem selN_t {a : Nat} : selN true a = a := rfl
theorem selN_f {a : Nat} : selN false a = 0 := rfl

/-! ### arguments -/
structure AF (H : Heap) (v : Value) (xs : List Nat) : Prop where
  rd : FS H v xs
  le : xs.length ≤ 2 ^ 40
  w : W32 xs
def I64 (xs : List Int) : Prop := ∀ j, -9223372036854775808 ≤ xs.getD j 0 ∧ xs.getD j 0 ≤ 9223372036854775807
structure AI (H : Heap) (v : Value) (xs : List Int) : Prop where
  rd : IS H v xs
  le : xs.length ≤ 2 ^ 40
  w : I64 xs
theorem AF.ext {H H' : Heap} {v : Value} {xs : List Nat} (a : AF H v xs) (e : Ext H H') : AF H' v xs := ⟨a.rd.ext e, a.le, a.w⟩
theorem AI.ext {H H' : Heap} {v : Value} {xs : List Int} (a : AI H v xs) (e : Ext H H') : AI H' v xs := ⟨a.rd.ext e, a.le, a.w⟩
/-- Words of 32 bits, in lists. -/
def W32S (xss : List (List Nat)) : Prop := ∀ j, W32 (xss.getD j [])
structure AS (H : Heap) (v : Value) (xss : List (List Nat)) : Prop where
  rd : SS H v xss
  le : totL xss ≤ 2 ^ 40
  w : W32S xss
theorem SS.ext {H H' : Heap} {v : Value} {xss : List (List Nat)} (a : SS H v xss) (e : Ext H H') : SS H' v xss := by
  obtain ⟨vs, h1, h2, h3⟩ := a
  exact ⟨vs, h1.ext e, h2, fun j hj => (h3 j hj).ext e⟩
theorem SS.one' {H : Heap} {v : Value} {xss : List (List Nat)} (a : SS H v xss) : Go.Gx.one v = true := by
  obtain ⟨vs, h1, h2, h3⟩ := a
  exact h1.one
theorem SS.len {H : Heap} {v : Value} {xss : List (List Nat)} (a : SS H v xss) : aLen v = some (.int .i64 xss.length) := by
  obtain ⟨vs, h1, h2, h3⟩ := a
  rw [h1.len, h2]
/-! ### truths; lists of lists of integers -/
def bv (b : Bool) : Value := .bool b
def BS (H : Heap) (v : Value) (xs : List Bool) : Prop := Sl H v (xs.map bv)
section
variable {H H' : Heap} {v : Value} {l : List Bool}
theorem BS.len (h : BS H v l) : aLen v = some (.int .i64 l.length) := by simpa using Sl.len h
theorem BS.ia (h : BS H v l) (k : IntKind) (j : Int) (h0 : 0 ≤ j) (h1 : j < l.length) : aIa v (.int k j) H = some (elp v j.toNat) := Sl.ia h k j h0 (by simpa using h1)
theorem BS.ld (h : BS H v l) (j : Nat) (h1 : j < l.length) : aLd (elp v j) H = some (.bool (l.getD j false)) := by
  rw [Sl.ld h j (by simpa using h1)]
  simp [List.getD_eq_getElem?_getD, h1, bv]
theorem BS.ext (h : BS H v l) (e : Ext H H') : BS H' v l := Sl.ext h e
theorem BS.one (h : BS H v l) : Go.Gx.one v = true := Sl.one h
end
theorem OwL.bs {lo hi : Nat} {H : Heap} {ty : TypeId} {v : Value} {xs : List Bool} (o : OwL lo hi H ty v (xs.map bv)) : BS H v xs := o.sl
structure AB (H : Heap) (v : Value) (xs : List Bool) : Prop where
  rd : BS H v xs
  le : xs.length ≤ 2 ^ 40
def SI (H : Heap) (w : Value) (xss : List (List Int)) : Prop := ∃ vs : List Value, Sl H w vs ∧ vs.length = xss.length ∧ ∀ j, j < xss.length → IS H (vs.getD j undef) (xss.getD j [])
def I64S (xss : List (List Int)) : Prop := ∀ j, I64 (xss.getD j [])
structure ASI (H : Heap) (v : Value) (xss : List (List Int)) : Prop where
  rd : SI H v xss
  le : totL xss ≤ 2 ^ 40
  w : I64S xss
theorem SI.ext {H H' : Heap} {v : Value} {xss : List (List Int)} (a : SI H v xss) (e : Ext H H') : SI H' v xss := by
  obtain ⟨vs, h1, h2, h3⟩ := a
  exact ⟨vs, h1.ext e, h2, fun j hj => (h3 j hj).ext e⟩
theorem SI.one {H : Heap} {v : Value} {xss : List (List Int)} (a : SI H v xss) : Go.Gx.one v = true := by
  obtain ⟨vs, h1, h2, h3⟩ := a
  exact h1.one
theorem SI.len {H : Heap} {v : Value} {xss : List (List Int)} (a : SI H v xss) : aLen v = some (.int .i64 xss.length) := by
  obtain ⟨vs, h1, h2, h3⟩ := a
  rw [h1.len, h2]
theorem OwS.si {lo hi : Nat} {H : Heap} {sty ty : TypeId} {v : Value} {xss : List (List Int)} (o : OwS lo hi H sty ty v (xss.map (List.map iv))) : SI H v xss := by
  obtain ⟨vs, a, b⟩ := o
  refine ⟨vs, a.sl, by simpa using b.1, fun j hj => ?_⟩
  have := (b.2.1 j (by simpa using hj)).sl
  simpa [IS, List.getD_eq_getElem?_getD, hj] using this

/-! ### parts of lists -/
theorem Sl.slc {H : Heap} {v : Value} {l : List Value} (s : Sl H v l) (k k' : IntKind) (lo hi : Int) (h0 : 0 ≤ lo) (h1 : lo ≤ hi) (h2 : hi ≤ l.length) (h3 : 0 < l.length) :
    ∃ v', aSlc v (.int k lo) (.int k' hi) = some v' ∧ Sl H v' ((l.drop lo.toNat).take (hi.toNat - lo.toNat)) := by
  rcases s with ⟨rfl, rfl⟩ | ⟨h, o, t, b, rfl, g1, g2, g3, g4, g5⟩
  · simp at h3
  · refine ⟨.slice (some ⟨h, o + lo.toNat, none⟩) (hi.toNat - lo.toNat) (t - lo.toNat), ?_, .inr ⟨h, o + lo.toNat, t - lo.toNat, b, ?_, g1, g2, by omega, ?_, ?_⟩⟩
    · simp only [aSlc]
      rw [if_pos ⟨h0, h1, h2⟩]
    · congr 1
      simp only [List.length_take, List.length_drop]
      omega
    · simp only [List.length_take, List.length_drop]
      omega
    · have e : ((l.drop lo.toNat).take (hi.toNat - lo.toNat)).length = hi.toNat - lo.toNat := by
        simp only [List.length_take, List.length_drop]
        omega
      rw [e]
      conv => rhs; rw [← g5]
      apply List.ext_getElem?
      intro i
      simp only [List.getElem?_take, List.getElem?_drop]
      by_cases hi' : i < hi.toNat - lo.toNat
      · rw [if_pos hi', if_pos hi', if_pos (by omega)]
        congr 1
        omega
      · rw [if_neg hi', if_neg hi']
theorem OwL.lenv {lo hi : Nat} {H : Heap} {ty : TypeId} {v : Value} {l : List Value} (o : OwL lo hi H ty v l) : aLen v = some (.int .i64 l.length) := o.sl.len

/-! ### what functions hand back -/
def PicR (ty : TypeId) (H : Heap) (ok : Bool) (w h : Int) (xs : List Nat) (r : Value) (H' : Heap) : Prop :=
  Ext H H' ∧ ∃ v, r = .tuple #[.agg #[.int .i64 (selI ok w), .int .i64 (selI ok h), v], .bool ok] ∧ OwL H.n H'.n H' ty v ((selL ok xs).map fv) ∧ (selL ok xs).length ≤ 2 ^ 40
def ListR {α : Type} (f : α → Value) (ty : TypeId) (H : Heap) (ok : Bool) (xs : List α) (r : Value) (H' : Heap) : Prop :=
  Ext H H' ∧ ∃ v, r = .tuple #[v, .bool ok] ∧ OwL H.n H'.n H' ty v ((selL ok xs).map f) ∧ (selL ok xs).length ≤ 2 ^ 40
def TwoR {α : Type} (f : α → Value) (ty : TypeId) (H : Heap) (ok : Bool) (xs ys : List α) (r : Value) (H' : Heap) : Prop :=
  Ext H H' ∧ ∃ v u, r = .tuple #[v, u, .bool ok] ∧ OwN H.n H'.n H' ty [v, u] [(selL ok xs).map f, (selL ok ys).map f] ∧ (selL ok xs).length ≤ 2 ^ 40 ∧ (selL ok ys).length ≤ 2 ^ 40
def GridR {α : Type} (f : α → Value) (sty ty : TypeId) (H : Heap) (ok : Bool) (xss : List (List α)) (r : Value) (H' : Heap) : Prop :=
  Ext H H' ∧ ∃ v, r = .tuple #[v, .bool ok] ∧ OwS H.n H'.n H' sty ty v ((selL ok xss).map (List.map f)) ∧ totL (selL ok xss) ≤ 2 ^ 40
section
variable {ty sty : TypeId} {H H' : Heap} {ok : Bool} {w h : Int}
theorem PicR.no {xs : List Nat} (hk : ok = false) (e : Ext H H') : PicR ty H ok w h xs (.tuple #[.agg #[.int .i64 0, .int .i64 0, .slice none 0 0], .bool false]) H' := by
  subst hk; exact ⟨e, _, rfl, .nil, by simp [selL]⟩
theorem PicR.yes {xs : List Nat} {v : Value} (hk : ok = true) (e : Ext H H') (o : OwL H.n H'.n H' ty v (xs.map fv)) (hl : xs.length ≤ 2 ^ 40) : PicR ty H ok w h xs (.tuple #[.agg #[.int .i64 w, .int .i64 h, v], .bool true]) H' := by
  subst hk; exact ⟨e, v, rfl, o, hl⟩
theorem ListR.no {α : Type} {f : α → Value} {xs : List α} (hk : ok = false) (e : Ext H H') : ListR f ty H ok xs (.tuple #[.slice none 0 0, .bool false]) H' := by
  subst hk; exact ⟨e, _, rfl, .nil, by simp [selL]⟩
theorem ListR.yes {α : Type} {f : α → Value} {xs : List α} {v : Value} (hk : ok = true) (e : Ext H H') (o : OwL H.n H'.n H' ty v (xs.map f)) (hl : xs.length ≤ 2 ^ 40) : ListR f ty H ok xs (.tuple #[v, .bool true]) H' := by
  subst hk; exact ⟨e, v, rfl, o, hl⟩
theorem TwoR.no {α : Type} {f : α → Value} {xs ys : List α} (hk : ok = false) (e : Ext H H') : TwoR f ty H ok xs ys (.tuple #[.slice none 0 0, .slice none 0 0, .bool false]) H' := by
  subst hk
  exact ⟨e, _, _, rfl, OwN.two .nil .nil (fun h hh => by cases hh), by simp [selL], by simp [selL]⟩
theorem TwoR.yes {α : Type} {f : α → Value} {xs ys : List α} {v u : Value} (hk : ok = true) (e : Ext H H') (o : OwN H.n H'.n H' ty [v, u] [xs.map f, ys.map f]) (hl : xs.length ≤ 2 ^ 40) (hm : ys.length ≤ 2 ^ 40) : TwoR f ty H ok xs ys (.tuple #[v, u, .bool true]) H' := by
  subst hk; exact ⟨e, v, u, rfl, o, hl, hm⟩
theorem GridR.no {α : Type} {f : α → Value} {xss : List (List α)} (hk : ok = false) (e : Ext H H') : GridR f sty ty H ok xss (.tuple #[.slice none 0 0, .bool false]) H' := by
  subst hk; exact ⟨e, _, rfl, .nil, by simp [selL, totL, offN]⟩
theorem GridR.yes {α : Type} {f : α → Value} {xss : List (List α)} {v : Value} (hk : ok = true) (e : Ext H H') (o : OwS H.n H'.n H' sty ty v (xss.map (List.map f))) (hl : totL xss ≤ 2 ^ 40) : GridR f sty ty H ok xss (.tuple #[v, .bool true]) H' := by
  subst hk; exact ⟨e, v, rfl, o, hl⟩
theorem tot_fs {xss : List (List Nat)} (h : totL xss ≤ 2 ^ 40) : totL (xss.map (List.map fv)) ≤ 2 ^ 41 := by rw [totL_map]; omega
theorem tot_is {xss : List (List Int)} (h : totL xss ≤ 2 ^ 40) : totL (xss.map (List.map iv)) ≤ 2 ^ 41 := by rw [totL_map]; omega
theorem tot_bd {xs : List Nat} {xss : List (List Nat)} (h : xs.length ≤ 2 ^ 40) (h' : totL xss ≤ 2 ^ 40) : (xs.map fv).length + totL (xss.map (List.map fv)) ≤ 2 ^ 41 := by rw [totL_map, List.length_map]; omega
end
/-- What is handed back lies in a block of its own by then. -/
theorem fin_put {ty : TypeId} {v : Value} {l : List Value} {H G H1 : Heap} {p : Nat} {b : Blk} (hE : Ext H G) (e1 : Ext G H1) (o : OwL G.n H1.n H1 ty v l) (hp : H.n ≤ p) (hp' : p < G.n) : Ext H (H1.put p b) ∧ OwL H.n H1.n (H1.put p b) ty v l := by
  refine ⟨(hE.trans e1).put hp b, (o.wide hE.n (Nat.le_refl _)).keep (Nat.le_refl _) fun k hk => hput_other _ _ _ _ fun e => ?_⟩
  have := (o.hdl hk).1
  omega
theorem PicR.fin {ty : TypeId} {H G H1 : Heap} {ok ok' : Bool} {w h : Int} {xs xs' : List Nat} {v : Value} {p : Nat} {b : Blk} (hE : Ext H G) (e1 : Ext G H1) (o : OwL G.n H1.n H1 ty v ((selL ok xs).map fv)) (q : (selL ok xs).length ≤ 2 ^ 40) (hp : H.n ≤ p) (hp' : p < G.n) (hk : ok = ok') (hx : xs = xs') :
    PicR ty H ok' w h xs' (.tuple #[.agg #[.int .i64 (selI ok w), .int .i64 (selI ok h), v], .bool ok]) (H1.put p b) := by
  subst hk; subst hx
  obtain ⟨a, b⟩ := fin_put (b := b) hE e1 o hp hp'
  exact ⟨a, v, rfl, b, q⟩
/-- A variable's block, made between two calls. -/
theorem callR_new {P : Program} {f : FuncId} {args : List Value} {d : Option Nat} {rc : RC} {r : List AStep} {k : List AItem} {R : Post} {φ : Frame} {H : Heap} {b : Blk}
    (h : ∀ G, Ext H G → G.blk H.n = some b → G.n = H.n + 1 → callR P f args d rc r k R φ G) : callR P f args d rc r k R φ (H.new b) := h _ (.new _ _) (new_self _ _) rfl
theorem callR_new2 {P : Program} {f : FuncId} {args : List Value} {d : Option Nat} {rc : RC} {r : List AStep} {k : List AItem} {R : Post} {φ : Frame} {H : Heap} {b c : Blk}
    (h : ∀ G, Ext H G → G.blk H.n = some b → G.blk (H.n + 1) = some c → G.n = H.n + 2 → callR P f args d rc r k R φ G) : callR P f args d rc r k R φ ((H.new b).new c) :=
  h _ ((Ext.new _ _).trans (.new _ _)) (by rw [new_old _ _ _ (by simp [new_n]), new_self]) (by rw [← new_n H b, new_self]) rfl
end Go.Gx
