/-
  Lifts of integers, undone (plain lists, no program).
-/
import Derived.Test.YtddekdgggpifmaaGxLift
import Derived.Test.YtddekdgggpifmaaGxOwn
namespace Go.Gx
set_option linter.unusedSimpArgs false
set_option linter.unusedVariables false

theorem wr_id {n : Int} (h : -9223372036854775808 ≤ n ∧ n ≤ 9223372036854775807) : wr n = n := by
  unfold wr
  rw [IntKind.wrap_i64]
  omega
theorem wr_sub_add {a b : Int} (h : -9223372036854775808 ≤ a ∧ a ≤ 9223372036854775807) : wr (wr (a - b) + b) = a := by
  unfold wr
  rw [IntKind.wrap_i64, IntKind.wrap_i64]
  omega
theorem wr_add_sub {a b : Int} (h : -9223372036854775808 ≤ a ∧ a ≤ 9223372036854775807) : wr (wr (a + b) - b) = a := by
  unfold wr
  rw [IntKind.wrap_i64, IntKind.wrap_i64]
  omega
theorem evL_at {α : Type} {d : α} {xs : List α} {n j : Nat} (h : j < (n + 1) / 2) : (evL d xs n).getD j d = xs.getD (2 * j) d := getD_range_map h
theorem odL_at {α : Type} {d : α} {xs : List α} {n j : Nat} (h : j < n / 2) : (odL d xs n).getD j d = xs.getD (2 * j + 1) d := getD_range_map h
/-- Evens and odds, woven, are the list. -/
theorem wov_split_aux {α : Type} (d : α) (xs : List α) : ∀ i, i ≤ (xs.length + 1) / 2 → wovL d (evL d xs xs.length) (odL d xs xs.length) i = xs.take (2 * i)
  | 0, _ => by simp [wovL_zero]
  | i + 1, h => by
    have ih := wov_split_aux d xs i (by omega)
    have h0 : 2 * i < xs.length := by omega
    have g0 : xs.getD (2 * i) d = xs[2 * i] := by simp [List.getD_eq_getElem?_getD, h0]
    by_cases c : i < (odL d xs xs.length).length
    · have c' : i < xs.length / 2 := by rwa [odL_length] at c
      have h1 : 2 * i + 1 < xs.length := by omega
      have g1 : xs.getD (2 * i + 1) d = xs[2 * i + 1] := by simp [List.getD_eq_getElem?_getD, h1]
      rw [wovL_both c, ih, evL_at (by omega), odL_at c', g0, g1, ← List.take_succ_eq_append_getElem h0, ← List.take_succ_eq_append_getElem h1, show 2 * i + 1 + 1 = 2 * (i + 1) by omega]
    · have c' : ¬ i < xs.length / 2 := by rwa [odL_length] at c
      rw [wovL_one c, ih, evL_at (by omega), g0, ← List.take_succ_eq_append_getElem h0, List.take_of_length_le (by omega), List.take_of_length_le (by omega)]
theorem wov_split {α : Type} (d : α) (xs : List α) : wovL d (evL d xs xs.length) (odL d xs xs.length) (evL d xs xs.length).length = xs := by
  rw [wov_split_aux d xs _ (by rw [evL_length]; exact Nat.le_refl _), evL_length, List.take_of_length_le (by omega)]
theorem i64_at {xs : List Int} (h : I64 xs) (j : Nat) : -9223372036854775808 ≤ xs.getD j 0 ∧ xs.getD j 0 ≤ 9223372036854775807 := h j
/-- What is lifted is undone. -/
theorem drop_lift {kind : Int} {xs : List Int} (h : I64 xs) : dropI kind (liftE kind xs) (liftO kind xs) = xs := by
  have e1 : dropE kind (liftE kind xs) (liftO kind xs) = evL 0 xs xs.length := by
    refine list_ext_getD 0 (by simp [dropE, liftE, raiseE]) fun j hj => ?_
    have hj' : j < (evL 0 xs xs.length).length := by simpa [dropE, liftE, raiseE] using hj
    have hj2 : j < (liftE kind xs).length := by simpa [dropE] using hj
    rw [dropE, getD_range_map hj2, liftE, raiseE, getD_range_map hj']
    exact wr_add_sub (by rw [evL_at (by rwa [evL_length] at hj')]; exact h _)
  have e2 : dropO kind (evL 0 xs xs.length) (liftO kind xs) = odL 0 xs xs.length := by
    refine list_ext_getD 0 (by simp [dropO, liftO, lowerO]) fun j hj => ?_
    have hj' : j < (odL 0 xs xs.length).length := by simpa [dropO, liftO, lowerO] using hj
    have hj2 : j < (liftO kind xs).length := by simpa [dropO] using hj
    rw [dropO, getD_range_map hj2, liftO, lowerO, getD_range_map hj']
    exact wr_sub_add (by rw [odL_at (by rwa [odL_length] at hj')]; exact h _)
  have e3 : (liftE kind xs).length = (evL 0 xs xs.length).length := by simp [liftE, raiseE]
  unfold dropI
  rw [e1, e2, e3, wov_split]

/-! ### how great they are -/
def IB (xs : List Int) (M : Int) : Prop := ∀ j, -M ≤ xs.getD j 0 ∧ xs.getD j 0 ≤ M
theorem IB.range {n : Nat} {f : Nat → Int} {M : Int} (h0 : 0 ≤ M) (h : ∀ j, j < n → -M ≤ f j ∧ f j ≤ M) : IB ((List.range n).map f) M := fun j => by
  by_cases hj : j < n
  · rw [getD_range_map hj]; exact h j hj
  · have : ((List.range n).map f).getD j 0 = 0 := by simp [List.getD_eq_getElem?_getD, List.getElem?_eq_none (l := List.range n) (i := j) (by simp; omega)]
    rw [this]; omega
theorem IB.ev {xs : List Int} {M : Int} (h0 : 0 ≤ M) (h : IB xs M) (n : Nat) : IB (evL 0 xs n) M := IB.range h0 fun j _ => h _
theorem IB.od {xs : List Int} {M : Int} (h0 : 0 ≤ M) (h : IB xs M) (n : Nat) : IB (odL 0 xs n) M := IB.range h0 fun j _ => h _
theorem IB.i64 {xs : List Int} {M : Int} (h : IB xs M) (hM : M ≤ 1000000000) : I64 xs := fun j => by have := h j; omega
theorem oddBy_bound {kind M : Int} {ev : List Int} {j : Nat} (h : IB ev M) (h0 : 0 ≤ M) (hM : M ≤ 1000000) : 4 * (-oddByF kind ev j) ≤ 5 * M + 8 ∧ 4 * oddByF kind ev j ≤ 5 * M + 8 := by
  unfold oddByF
  have a1 := h j
  split
  · omega
  split
  · have a2 := h (min (j + 1) (ev.length - 1))
    rw [wr_id (by omega)]
    omega
  · have a2 : -M ≤ atI ev (mirF ev.length (j + 1)) ∧ atI ev (mirF ev.length (j + 1)) ≤ M := h _
    have a3 : -M ≤ atI ev (mirF ev.length (j - 1)) ∧ atI ev (mirF ev.length (j - 1)) ≤ M := h _
    have a4 : -M ≤ atI ev (mirF ev.length (j + 2)) ∧ atI ev (mirF ev.length (j + 2)) ≤ M := h _
    generalize atI ev (mirF ev.length (j + 1)) = x at *
    generalize atI ev (mirF ev.length (j - 1)) = y at *
    generalize atI ev (mirF ev.length (j + 2)) = z at *
    generalize ev.getD j 0 = w at *
    rw [wr_id (n := w + x) (by omega), wr_id (n := 9 * (w + x)) (by omega), wr_id (n := y + z) (by omega), wr_id (n := 9 * (w + x) - (y + z)) (by omega), wr_id (by omega)]
    omega
theorem liftO_bound {kind M : Int} {xs : List Int} (h : IB xs M) (h0 : 0 ≤ M) (hM : M ≤ 1000000) : IB (liftO kind xs) (2 * M + M / 4 + 3) := by
  refine IB.range (by omega) fun j hj => ?_
  have a := oddBy_bound (kind := kind) (j := j) (h.ev h0 xs.length) h0 hM
  have b := h.od h0 xs.length j
  rw [wr_id (by omega)]
  omega
theorem evenBy_bound {kind M : Int} {od : List Int} {j : Nat} (h : IB od M) (h0 : 0 ≤ M) (hM : M ≤ 10000000) : 2 * (-evenByF kind od j) ≤ M + 2 ∧ 2 * evenByF kind od j ≤ M + 2 := by
  unfold evenByF
  have a1 := h j
  split
  · split <;> omega
  split
  · omega
  · have a2 := h (min j (od.length - 1))
    have a3 := h (j - 1)
    generalize od.getD (min j (od.length - 1)) 0 = x at *
    generalize od.getD (j - 1) 0 = y at *
    rw [wr_id (n := y + x) (by omega), wr_id (by omega)]
    omega
theorem liftE_bound {kind M : Int} {xs : List Int} (h : IB xs M) (h0 : 0 ≤ M) (hM : M ≤ 1000000) : IB (liftE kind xs) (3 * M + 3) := by
  refine IB.range (by omega) fun j hj => ?_
  have a := evenBy_bound (kind := kind) (j := j) (liftO_bound (kind := kind) h h0 hM) (by omega) (by omega)
  have b := h.ev h0 xs.length j
  rw [wr_id (by omega)]
  omega
theorem IB.mono {xs : List Int} {M N : Int} (h : IB xs M) (hn : M ≤ N) : IB xs N := fun j => by have := h j; omega

/-! ### equal numbers -/
def Eq1 (xs : List Int) (c : Int) : Prop := ∀ j, j < xs.length → xs.getD j 0 = c
theorem mir_in_len {n : Nat} (h : 1 ≤ n) (i : Int) : (mirF (n : Int) i).toNat < n := by
  have := mir_range (n := (n : Int)) (i := i) (by omega)
  omega
theorem oddBy_eq {kind c : Int} {ev : List Int} {j : Nat} (h : Eq1 ev c) (hj : j < ev.length) (h0 : -1000000 ≤ c) (hM : c ≤ 1000000) : oddByF kind ev j = c := by
  unfold oddByF
  rw [h j hj]
  split
  · rfl
  split
  · rw [h _ (by omega), wr_id (by omega)]
    omega
  · have e1 : ∀ i : Int, atI ev (mirF ev.length i) = c := fun i => h _ (mir_in_len (by omega) i)
    rw [e1, e1, e1, wr_id (n := c + c) (by omega), wr_id (n := 9 * (c + c)) (by omega), wr_id (n := 9 * (c + c) - (c + c)) (by omega), wr_id (by omega)]
    omega
theorem liftO_eq {kind c : Int} {xs : List Int} (h : Eq1 xs c) (h0 : -1000000 ≤ c) (hM : c ≤ 1000000) : Eq1 (liftO kind xs) 0 := by
  intro j hj
  have hj' : j < (odL 0 xs xs.length).length := by simpa [liftO, lowerO] using hj
  rw [liftO, lowerO, getD_range_map hj']
  rw [odL_length] at hj'
  have he : Eq1 (evL 0 xs xs.length) c := fun k hk => by
    rw [evL_length] at hk
    rw [evL_at hk]
    exact h _ (by omega)
  rw [oddBy_eq he (by rw [evL_length]; omega) h0 hM, odL_at hj', h _ (by omega), wr_id (by omega)]
  omega
theorem evenBy_eq {kind : Int} {od : List Int} {j : Nat} (h : Eq1 od 0) : evenByF kind od j = 0 := by
  unfold evenByF
  split
  · split
    · rename_i hj; rw [h j hj]; rfl
    · rfl
  split
  · rfl
  · by_cases hj : j - 1 < od.length
    · rw [h _ hj, h _ (by omega)]; decide
    · have : od.getD (j - 1) 0 = 0 := by simp [List.getD_eq_getElem?_getD, List.getElem?_eq_none (l := od) (i := j - 1) (by omega)]
      rw [this, h _ (by omega)]; decide
theorem liftE_eq {kind c : Int} {xs : List Int} (h : Eq1 xs c) (h0 : -1000000 ≤ c) (hM : c ≤ 1000000) : Eq1 (liftE kind xs) c := by
  intro j hj
  have hj' : j < (evL 0 xs xs.length).length := by simpa [liftE, raiseE] using hj
  rw [liftE, raiseE, getD_range_map hj']
  rw [evL_length] at hj'
  rw [evenBy_eq (liftO_eq h h0 hM), evL_at hj', h _ (by omega), wr_id (by omega)]
  omega
end Go.Gx
