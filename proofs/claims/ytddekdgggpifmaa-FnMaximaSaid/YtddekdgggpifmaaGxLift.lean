/-
  What lifts come to, in plain lists.
-/
import Derived.Test.YtddekdgggpifmaaGxPic
namespace Go.Gx
set_option linter.unusedSimpArgs false
set_option linter.unusedVariables false

/-- The index to which an index is mirrored. -/
def mirF (n i : Int) : Int := if n = 1 then 0 else if i % (2 * (n - 1)) < n then i % (2 * (n - 1)) else 2 * (n - 1) - i % (2 * (n - 1))
theorem mir_one (i : Int) : mirF 1 i = 0 := rfl
theorem mir_in {n i : Int} (h0 : 0 ≤ i) (h1 : i < n) : mirF n i = i := by
  unfold mirF
  by_cases hn : n = 1
  · rw [if_pos hn]; omega
  · rw [if_neg hn, Int.emod_eq_of_lt h0 (by omega), if_pos h1]
theorem neg_emod' {i m : Int} (hm : 0 < m) : (-i) % m = if i % m = 0 then 0 else m - i % m := by
  have h1 := Int.emod_add_mul_ediv i m
  have h2 := Int.emod_nonneg i (show m ≠ 0 by omega)
  have h3 := Int.emod_lt_of_pos i hm
  split
  · rename_i h
    rw [h, Int.zero_add] at h1
    have : -i = m * (-(i / m)) := by rw [Int.mul_neg, h1]
    rw [this, Int.mul_emod_right]
  · rename_i h
    have : -i = (m - i % m) + m * (-(i / m) - 1) := by
      rw [Int.mul_sub, Int.mul_neg, Int.mul_one]
      omega
    rw [this, Int.add_mul_emod_self_left, Int.emod_eq_of_lt (by omega) (by omega)]
theorem mir_neg {n i : Int} (hn : 1 ≤ n) : mirF n (-i) = mirF n i := by
  unfold mirF
  by_cases h1 : n = 1
  · rw [if_pos h1, if_pos h1]
  · rw [if_neg h1, if_neg h1, neg_emod' (by omega)]
    have h2 := Int.emod_nonneg i (show 2 * (n - 1) ≠ 0 by omega)
    have h3 := Int.emod_lt_of_pos i (show 0 < 2 * (n - 1) by omega)
    generalize i % (2 * (n - 1)) = r at *
    split <;> split <;> split <;> omega
theorem mir_ref {n i : Int} (hn : 1 ≤ n) : mirF n (2 * (n - 1) - i) = mirF n i := by
  rw [← mir_neg (i := i) hn]
  unfold mirF
  by_cases h1 : n = 1
  · rw [if_pos h1, if_pos h1]
  · have : (2 * (n - 1) - i) % (2 * (n - 1)) = (-i) % (2 * (n - 1)) := by
      have := Int.add_mul_emod_self_left (-i) (2 * (n - 1)) 1
      rw [← this]
      congr 1
      omega
    rw [this]
theorem mir_range {n i : Int} (hn : 1 ≤ n) : 0 ≤ mirF n i ∧ mirF n i < n := by
  unfold mirF
  by_cases h1 : n = 1
  · rw [if_pos h1]; omega
  · rw [if_neg h1]
    have h2 := Int.emod_nonneg i (show 2 * (n - 1) ≠ 0 by omega)
    have h3 := Int.emod_lt_of_pos i (show 0 < 2 * (n - 1) by omega)
    split <;> omega
theorem mir_tmod {n i : Int} (hn : 2 ≤ n) : mirF n i = if n ≤ (if i.tmod (2 * (n - 1)) < 0 then - i.tmod (2 * (n - 1)) else i.tmod (2 * (n - 1))) then 2 * (n - 1) - (if i.tmod (2 * (n - 1)) < 0 then - i.tmod (2 * (n - 1)) else i.tmod (2 * (n - 1))) else (if i.tmod (2 * (n - 1)) < 0 then - i.tmod (2 * (n - 1)) else i.tmod (2 * (n - 1))) := by
  have key : ∀ a : Int, 0 ≤ a → mirF n a = if n ≤ a % (2 * (n - 1)) then 2 * (n - 1) - a % (2 * (n - 1)) else a % (2 * (n - 1)) := by
    intro a _
    unfold mirF
    rw [if_neg (by omega)]
    by_cases h : a % (2 * (n - 1)) < n
    · rw [if_pos h, if_neg (by omega)]
    · rw [if_neg h, if_pos (by omega)]
  by_cases h0 : 0 ≤ i
  · have e : i.tmod (2 * (n - 1)) = i % (2 * (n - 1)) := Int.tmod_eq_emod_of_nonneg h0
    have h2 := Int.emod_nonneg i (show 2 * (n - 1) ≠ 0 by omega)
    rw [e, if_neg (show ¬ i % (2 * (n - 1)) < 0 by omega)]
    exact key i h0
  · have e : i.tmod (2 * (n - 1)) = - ((-i) % (2 * (n - 1))) := by
      have : i = - (-i) := by omega
      rw [this, Int.neg_tmod, Int.neg_neg, Int.tmod_eq_emod_of_nonneg (by omega)]
    have h2 := Int.emod_nonneg (-i) (show 2 * (n - 1) ≠ 0 by omega)
    rw [← mir_neg (by omega), key (-i) (by omega), e]
    generalize (-i) % (2 * (n - 1)) = r at *
    have : (if -r < 0 then - -r else -r) = r := by split <;> omega
    rw [this]
theorem below_eq (a b : Int) (hb : 0 < b) : (if a.tmod b < 0 then a.tdiv b - 1 else a.tdiv b) = a / b := by
  have h2 := Int.emod_nonneg a (show b ≠ 0 by omega)
  have h3 := Int.emod_lt_of_pos a hb
  rw [Int.tmod_eq_emod, Int.tdiv_eq_ediv]
  by_cases h : 0 ≤ a ∨ b ∣ a
  · rw [if_pos h, if_pos h, if_neg (by omega)]; omega
  · rw [if_neg h, if_neg h, if_pos (by omega), Int.sign_eq_one_of_pos hb]; omega

/-! ### evens and odds -/
def evL {α : Type} (d : α) (xs : List α) (n : Nat) : List α := (List.range ((n + 1) / 2)).map fun i => xs.getD (2 * i) d
def odL {α : Type} (d : α) (xs : List α) (n : Nat) : List α := (List.range (n / 2)).map fun i => xs.getD (2 * i + 1) d
section
variable {α : Type} {d : α} {xs : List α}
theorem evL_zero : evL d xs 0 = [] := rfl
theorem odL_zero : odL d xs 0 = [] := rfl
theorem evL_even {n : Nat} (h : n % 2 = 0) : evL d xs (n + 1) = evL d xs n ++ [xs.getD n d] := by
  have e1 : (n + 1 + 1) / 2 = (n + 1) / 2 + 1 := by omega
  have e2 : 2 * ((n + 1) / 2) = n := by omega
  simp [evL, e1, List.range_succ, e2]
theorem odL_even {n : Nat} (h : n % 2 = 0) : odL d xs (n + 1) = odL d xs n := by
  have e1 : (n + 1) / 2 = n / 2 := by omega
  simp [odL, e1]
theorem evL_odd {n : Nat} (h : ¬ n % 2 = 0) : evL d xs (n + 1) = evL d xs n := by
  have e1 : (n + 1 + 1) / 2 = (n + 1) / 2 := by omega
  simp [evL, e1]
theorem odL_odd {n : Nat} (h : ¬ n % 2 = 0) : odL d xs (n + 1) = odL d xs n ++ [xs.getD n d] := by
  have e1 : (n + 1) / 2 = n / 2 + 1 := by omega
  have e2 : 2 * (n / 2) + 1 = n := by omega
  simp [odL, e1, List.range_succ, e2]
theorem evL_length (n : Nat) : (evL d xs n).length = (n + 1) / 2 := by simp [evL]
theorem odL_length (n : Nat) : (odL d xs n).length = n / 2 := by simp [odL]
end
/-- Evens and odds, woven: the first 'i' evens and what goes with them. -/
def wovL {α : Type} (d : α) (ev od : List α) (i : Nat) : List α := (List.range i).flatMap fun j => ev.getD j d :: if j < od.length then [od.getD j d] else []
theorem wovL_zero {α : Type} (d : α) (ev od : List α) : wovL d ev od 0 = [] := rfl
theorem wovL_both {α : Type} {d : α} {ev od : List α} {i : Nat} (h : i < od.length) : wovL d ev od (i + 1) = wovL d ev od i ++ [ev.getD i d] ++ [od.getD i d] := by
  simp [wovL, List.range_succ, h]
theorem wovL_one {α : Type} {d : α} {ev od : List α} {i : Nat} (h : ¬ i < od.length) : wovL d ev od (i + 1) = wovL d ev od i ++ [ev.getD i d] := by
  simp [wovL, List.range_succ, h]
theorem wovL_len {α : Type} {d : α} {ev od : List α} : ∀ i, (wovL d ev od i).length ≤ 2 * i
  | 0 => by simp [wovL]
  | i + 1 => by
    have := wovL_len (d := d) (ev := ev) (od := od) i
    by_cases h : i < od.length
    · rw [wovL_both h]; simp; omega
    · rw [wovL_one h]; simp; omega

/-! ### integers -/
def wr (n : Int) : Int := IntKind.wrap .i64 n
theorem wr_def (n : Int) : IntKind.wrap .i64 n = wr n := rfl
def atI (xs : List Int) (i : Int) : Int := xs.getD i.toNat 0
def oddByF (kind : Int) (ev : List Int) (j : Nat) : Int :=
  if kind = 0 then ev.getD j 0 else if kind = 1 then wr (ev.getD j 0 + ev.getD (min (j + 1) (ev.length - 1)) 0) / 2
  else wr (wr (wr (9 * wr (ev.getD j 0 + atI ev (mirF ev.length (j + 1)))) - wr (atI ev (mirF ev.length (j - 1)) + atI ev (mirF ev.length (j + 2)))) + 8) / 16
def evenByF (kind : Int) (od : List Int) (j : Nat) : Int :=
  if kind = 0 then (if j < od.length then od.getD j 0 / 2 else 0) else if od.length = 0 then 0 else wr (wr (od.getD (j - 1) 0 + od.getD (min j (od.length - 1)) 0) + 2) / 4
def lowerO (kind : Int) (ev od : List Int) : List Int := (List.range od.length).map fun j => wr (od.getD j 0 - oddByF kind ev j)
def raiseE (kind : Int) (ev od : List Int) : List Int := (List.range ev.length).map fun j => wr (ev.getD j 0 + evenByF kind od j)
def liftO (kind : Int) (xs : List Int) : List Int := lowerO kind (evL 0 xs xs.length) (odL 0 xs xs.length)
def liftE (kind : Int) (xs : List Int) : List Int := raiseE kind (evL 0 xs xs.length) (liftO kind xs)
def dropE (kind : Int) (ev od : List Int) : List Int := (List.range ev.length).map fun j => wr (ev.getD j 0 - evenByF kind od j)
def dropO (kind : Int) (ev od : List Int) : List Int := (List.range od.length).map fun j => wr (od.getD j 0 + oddByF kind ev j)
def dropI (kind : Int) (ev od : List Int) : List Int := wovL 0 (dropE kind ev od) (dropO kind (dropE kind ev od) od) ev.length
def boundF (xs : List Int) (most : Int) : Bool := xs.all fun n => within n (-most) most
def integersF (xs : List Int) : Bool := within xs.length 1 128 && boundF xs 1000000
def fitF (low high : Nat) : Bool := decide (1 ≤ low) && (decide (high = low) || decide (high + 1 = low)) && decide (low + high ≤ 128)
end Go.Gx
