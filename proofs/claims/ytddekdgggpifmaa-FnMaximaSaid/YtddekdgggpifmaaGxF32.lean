/-
  Numbers of single precision: when two are the same, and a size that is at most a bound.
-/
import Derived.Test.YtddekdgggpifmaaGxSim2
namespace Go.Gx
set_option linter.unusedSimpArgs false
set_option linter.unusedVariables false
open Ieee

theorem sw_single : single.signWeight = 2147483648 := by decide
theorem bi_single : single.binade = 8388608 := by decide
theorem ir_single : single.infRung = 2139095040 := by decide
theorem lp_single : single.leastPlace = -149 := by decide

/-- What a word of single precision stands for. -/
theorem read_single_cases (x : Nat) : (∃ m p, single.read x = .number (x / 2147483648 % 2 == 1) m (-149 + (p : Nat)) ∧ m < 16777216 ∧ (0 < p → 8388608 ≤ m) ∧ x % 2147483648 = m + p * 8388608) ∨
    (single.read x = .infinity (x / 2147483648 % 2 == 1) ∧ x % 2147483648 = 2139095040) ∨ (∃ t, single.read x = .nan (x / 2147483648 % 2 == 1) t) := by
  unfold Format.read
  rw [sw_single, bi_single, ir_single, lp_single]
  by_cases c1 : x % 2147483648 < 8388608
  · exact .inl ⟨x % 2147483648, 0, by simp [c1], by omega, by omega, by omega⟩
  · by_cases c2 : x % 2147483648 < 2139095040
    · exact .inl ⟨8388608 + x % 2147483648 % 8388608, x % 2147483648 / 8388608 - 1, by simp [c1, c2], by omega, by omega, by omega⟩
    · by_cases c3 : x % 2147483648 = 2139095040
      · exact .inr (.inl ⟨by simp [c1, c2, c3], c3⟩)
      · exact .inr (.inr ⟨x % 2147483648 - 2139095040, by simp only [c1, c2, c3, if_false]⟩)

theorem cmp_eq {a b : Int} : compare a b = .eq ↔ a = b := by
  simp only [compare, compareOfLessAndEq]
  split
  · simp; omega
  · split <;> simp <;> omega
theorem cmp_le {a b : Int} : (some (compare a b) == some Ordering.lt || some (compare a b) == some .eq) = decide (a ≤ b) := by
  simp only [compare, compareOfLessAndEq]
  split
  · simp; omega
  · split <;> simp <;> omega
theorem cmp_ge {a b : Int} : (some (compare a b) == some Ordering.gt || some (compare a b) == some .eq) = decide (b ≤ a) := by
  simp only [compare, compareOfLessAndEq]
  split
  · simp; omega
  · split <;> simp <;> omega
theorem cmp_lt {a b : Int} : (some (compare a b) == some Ordering.lt) = decide (a < b) := by
  simp only [compare, compareOfLessAndEq]
  split
  · simp; omega
  · split <;> simp <;> omega
theorem cmp_eqB {a b : Int} : (some (compare a b) == some Ordering.eq) = decide (a = b) := by
  simp only [compare, compareOfLessAndEq]
  split
  · simp; omega
  · split <;> simp <;> omega

theorem order_inj {x y : Nat} (hx : x < 4294967296) (hy : y < 4294967296) (h : single.order x y = some .eq) : x = y ∨ (x % 2147483648 = 0 ∧ y % 2147483648 = 0) := by
  unfold Format.order at h
  rcases read_single_cases x with ⟨m, p, hr, hm, hp, hw⟩ | ⟨hr, hw⟩ | ⟨t, hr⟩
  · rcases read_single_cases y with ⟨n, q, hs, hn, hq, hv⟩ | ⟨hs, hv⟩ | ⟨t, hs⟩
    · rw [hr, hs] at h
      simp only [Datum.order, Option.some.injEq, cmp_eq] at h
      by_cases hpq : p = q
      · subst hpq
        have e0 : (-149 + (p : Int) - min (-149 + (p : Int)) (-149 + (p : Int))).toNat = 0 := by omega
        rw [e0] at h
        simp only [signed, Nat.shiftLeft_zero] at h
        split at h <;> split at h <;> simp_all <;> omega
      · by_cases hlt : p < q
        · have e0 : (-149 + (p : Int) - min (-149 + (p : Int)) (-149 + (q : Int))).toNat = 0 := by omega
          have e1 : (-149 + (q : Int) - min (-149 + (p : Int)) (-149 + (q : Int))).toNat = (q - p - 1) + 1 := by omega
          rw [e0, e1] at h
          simp only [signed, Nat.shiftLeft_zero, Nat.shiftLeft_eq, Nat.pow_succ] at h
          have h2 : n * 1 ≤ n * 2 ^ (q - p - 1) := Nat.mul_le_mul_left _ Nat.one_le_two_pow
          have h3 : n * (2 ^ (q - p - 1) * 2) = 2 * (n * 2 ^ (q - p - 1)) := by rw [← Nat.mul_assoc, Nat.mul_comm]
          rw [h3] at h
          have h4 := hq (by omega)
          generalize n * 2 ^ (q - p - 1) = z at h h2
          exfalso
          split at h <;> split at h <;> omega
        · have e0 : (-149 + (q : Int) - min (-149 + (p : Int)) (-149 + (q : Int))).toNat = 0 := by omega
          have e1 : (-149 + (p : Int) - min (-149 + (p : Int)) (-149 + (q : Int))).toNat = (p - q - 1) + 1 := by omega
          rw [e0, e1] at h
          simp only [signed, Nat.shiftLeft_zero, Nat.shiftLeft_eq, Nat.pow_succ] at h
          have h2 : m * 1 ≤ m * 2 ^ (p - q - 1) := Nat.mul_le_mul_left _ Nat.one_le_two_pow
          have h3 : m * (2 ^ (p - q - 1) * 2) = 2 * (m * 2 ^ (p - q - 1)) := by rw [← Nat.mul_assoc, Nat.mul_comm]
          rw [h3] at h
          have h4 := hp (by omega)
          generalize m * 2 ^ (p - q - 1) = z at h h2
          exfalso
          split at h <;> split at h <;> omega
    · rw [hr, hs] at h
      simp only [Datum.order] at h
      split at h <;> cases h
    · rw [hr, hs] at h
      simp [Datum.order] at h
  · rcases read_single_cases y with ⟨n, q, hs, hn, hq, hv⟩ | ⟨hs, hv⟩ | ⟨t, hs⟩
    · rw [hr, hs] at h
      simp only [Datum.order] at h
      split at h <;> cases h
    · rw [hr, hs] at h
      simp only [Datum.order, Option.some.injEq] at h
      left
      have hb : ∀ a b : Bool, compare a.toNat b.toNat = .eq → a = b := by decide
      have := hb _ _ h
      have : (y / 2147483648 % 2 = 1) ↔ (x / 2147483648 % 2 = 1) := by simpa using Bool.eq_iff_iff.1 this
      omega
    · rw [hr, hs] at h
      simp [Datum.order] at h
  · rw [hr] at h
    simp [Datum.order] at h

/-! ### comparisons, by what the words stand for -/
theorem order_def (x y : Nat) : FloatKind.f32.format.order x y = (single.read x).order (single.read y) := rfl
theorem isn_nanB {k : FloatKind} {x : Nat} : fcB .neq k x x = nanB k x := by
  cases h : nanB k x
  · simp [fcB, fcmp, order_refl h]
  · have : k.format.order x x = none := by
      unfold nanB FloatKind.decode at h
      unfold Format.order
      generalize k.format.read x = d at h
      cases d <;> simp [Datum.isNaN] at h
      rfl
    simp [fcB, fcmp, this]
def isn (x : Nat) : Bool := nanB .f32 x
theorem isn_def {x : Nat} : fcB .neq .f32 x x = isn x := isn_nanB

theorem read_fneg {x : Nat} (h : nanB .f32 x = false) : single.read (fneg .f32 x) = (single.read x).opposite := by
  have hc : fneg .f32 x = Op.negFloat .f32 x := canon_of_num (by rw [nanB_neg]; exact h)
  rw [hc]
  have e1 : (Op.negFloat .f32 x) % 2147483648 = x % 2147483648 := xor_mod x 2147483648 31 (by decide)
  have e2 : ((Op.negFloat .f32 x) / 2147483648 % 2 == 1) = !(x / 2147483648 % 2 == 1) := by
    have e3 : (Op.negFloat .f32 x) / 2147483648 = (x / 2147483648) ^^^ 1 := by
      show (x ^^^ 2147483648) / 2147483648 = _
      have : ∀ a b : Nat, (a ^^^ b) / 2 ^ 31 = (a / 2 ^ 31) ^^^ (b / 2 ^ 31) := fun a b => by
        simp only [← Nat.shiftRight_eq_div_pow, Nat.shiftRight_xor_distrib]
      exact this x 2147483648
    rw [e3]
    have : ((x / 2147483648) ^^^ 1) % 2 = (x / 2147483648 % 2) ^^^ 1 := by
      have := Nat.xor_mod_two_pow (a := x / 2147483648) (b := 1) (n := 1)
      simpa using this
    rw [this]
    have h2 : x / 2147483648 % 2 = 0 ∨ x / 2147483648 % 2 = 1 := by omega
    rcases h2 with h2 | h2 <;> rw [h2] <;> rfl
  unfold Format.read
  rw [sw_single]
  simp only [e1, e2]
  split
  · rfl
  · split
    · rfl
    · split
      · rfl
      · rfl

/-! ### sizes -/
def sizeF (x : Nat) : Nat := if fcB .lss .f32 x 0 = true then fneg .f32 x else if fcB .eql .f32 x 0 = true then 0 else x
theorem read_c : single.read 981668463 = .number false 8589935 (-33) := by decide +kernel
theorem read_nc : single.read 3129152111 = .number true 8589935 (-33) := by decide +kernel
theorem read_0 : single.read 0 = .number false 0 (-149) := by decide +kernel
theorem fcB_def (op : BinOp) (x y : Nat) : fcB op .f32 x y = ((match op with
  | .eql => some ((single.read x).order (single.read y) == some .eq)
  | .neq => some ((single.read x).order (single.read y) != some .eq)
  | .lss => some ((single.read x).order (single.read y) == some .lt)
  | .leq => some ((single.read x).order (single.read y) == some .lt || (single.read x).order (single.read y) == some .eq)
  | .gtr => some ((single.read x).order (single.read y) == some .gt)
  | .geq => some ((single.read x).order (single.read y) == some .gt || (single.read x).order (single.read y) == some .eq)
  | _ => none : Option Bool)).getD false := rfl
theorem size_le (y : Nat) : fcB .leq .f32 (sizeF y) 981668463 = (fcB .leq .f32 y 981668463 && fcB .geq .f32 y 3129152111) := by
  rcases read_single_cases y with ⟨m, p, hr, hm, hp, hw⟩ | ⟨hr, hw⟩ | ⟨t, hr⟩
  · have hn : nanB .f32 y = false := by
      unfold nanB FloatKind.decode
      have : FloatKind.f32.format.read y = single.read y := rfl
      rw [this, hr]; rfl
    have hneg := read_fneg hn
    rw [hr] at hneg
    have e0 : (-149 + (p : Int) - min (-149 + (p : Int)) (-149)).toNat = p := by omega
    have e1 : (-149 - min (-149 + (p : Int)) (-149)).toNat = 0 := by omega
    have hlt : fcB .lss .f32 y 0 = decide (signed (y / 2147483648 % 2 == 1) m p < 0) := by
      simp only [fcB_def, hr, read_0, Datum.order, Option.getD_some, cmp_lt, e0, e1]
      simp [signed]
    have heq : fcB .eql .f32 y 0 = decide (signed (y / 2147483648 % 2 == 1) m p = 0) := by
      simp only [fcB_def, hr, read_0, Datum.order, Option.getD_some, cmp_eqB, e0, e1]
      simp [signed]
    have hle : fcB .leq .f32 y 981668463 = decide (signed (y / 2147483648 % 2 == 1) m (-149 + (p : Int) - min (-149 + (p : Int)) (-33)).toNat ≤ signed false 8589935 (-33 - min (-149 + (p : Int)) (-33)).toNat) := by
      simp only [fcB_def, hr, read_c, Datum.order, Option.getD_some, cmp_le]
    have hge : fcB .geq .f32 y 3129152111 = decide (signed true 8589935 (-33 - min (-149 + (p : Int)) (-33)).toNat ≤ signed (y / 2147483648 % 2 == 1) m (-149 + (p : Int) - min (-149 + (p : Int)) (-33)).toNat) := by
      simp only [fcB_def, hr, read_nc, Datum.order, Option.getD_some, cmp_ge]
    have hng : fcB .leq .f32 (fneg .f32 y) 981668463 = decide (signed (!(y / 2147483648 % 2 == 1)) m (-149 + (p : Int) - min (-149 + (p : Int)) (-33)).toNat ≤ signed false 8589935 (-33 - min (-149 + (p : Int)) (-33)).toNat) := by
      simp only [fcB_def, hneg, read_c, Datum.opposite, Datum.order, Option.getD_some, cmp_le]
    have h0c : fcB .leq .f32 0 981668463 = true := by decide +kernel
    rw [hle, hge]
    unfold sizeF
    rw [hlt, heq]
    generalize (y / 2147483648 % 2 == 1) = s at *
    generalize (-149 + (p : Int) - min (-149 + (p : Int)) (-33)).toNat = a at *
    generalize (-33 - min (-149 + (p : Int)) (-33)).toNat = b at *
    simp only [signed, Nat.shiftLeft_eq] at *
    have hz : m = 0 → m * 2 ^ p = 0 ∧ m * 2 ^ a = 0 := by rintro rfl; simp
    have hz' : 0 < m → 0 < m * 2 ^ p ∧ 0 < m * 2 ^ a := fun h => ⟨Nat.mul_pos h (Nat.two_pow_pos _), Nat.mul_pos h (Nat.two_pow_pos _)⟩
    generalize m * 2 ^ p = u at *
    generalize m * 2 ^ a = v at *
    generalize 8589935 * 2 ^ b = c at *
    cases s
    · simp only [Bool.false_eq_true, if_false, if_true] at *
      rw [if_neg (by simp <;> omega)]
      by_cases h : (u : Int) = 0
      · rw [if_pos (by simp [h]), h0c]
        have : m = 0 := by
          rcases Nat.eq_zero_or_pos m with h1 | h1
          · exact h1
          · have := (hz' h1).1; omega
        have := (hz this).2
        simp <;> omega
      · rw [if_neg (by simp <;> omega), hle]
        simp <;> omega
    · simp only [Bool.false_eq_true, if_false, if_true, Bool.not_true] at *
      by_cases h : (u : Int) = 0
      · rw [if_neg (by simp <;> omega), if_pos (by simp <;> omega), h0c]
        have : m = 0 := by
          rcases Nat.eq_zero_or_pos m with h1 | h1
          · exact h1
          · have := (hz' h1).1; omega
        have := (hz this).2
        simp <;> omega
      · rw [if_pos (by simp <;> omega), hng]
        simp <;> omega
  · have hn : nanB .f32 y = false := by
      unfold nanB FloatKind.decode
      have : FloatKind.f32.format.read y = single.read y := rfl
      rw [this, hr]; rfl
    have hneg := read_fneg hn
    rw [hr] at hneg
    unfold sizeF
    generalize (y / 2147483648 % 2 == 1) = s at *
    have hlt : fcB .lss .f32 y 0 = s := by
      simp only [fcB_def, hr, read_0, Datum.order, Option.getD_some]; cases s <;> rfl
    have heq : fcB .eql .f32 y 0 = false := by
      simp only [fcB_def, hr, read_0, Datum.order, Option.getD_some]; cases s <;> rfl
    have hle : fcB .leq .f32 y 981668463 = s := by
      simp only [fcB_def, hr, read_c, Datum.order, Option.getD_some]; cases s <;> rfl
    have hge : fcB .geq .f32 y 3129152111 = !s := by
      simp only [fcB_def, hr, read_nc, Datum.order, Option.getD_some]; cases s <;> rfl
    have hng : fcB .leq .f32 (fneg .f32 y) 981668463 = !s := by
      simp only [fcB_def, hneg, read_c, Datum.opposite, Datum.order, Option.getD_some]; cases s <;> rfl
    rw [hlt, heq, hle, hge]
    cases s <;> simp [hng, hle]
  · have h1 : ∀ op z, op = .lss ∨ op = .eql ∨ op = .leq ∨ op = .geq → fcB op .f32 y z = false := by
      rintro op z (rfl | rfl | rfl | rfl) <;> simp only [fcB_def, hr, Datum.order, Option.getD_some] <;> rfl
    unfold sizeF
    simp [h1]

/-! ### what the small functions come to -/
def within (a b c : Int) : Bool := decide (b ≤ a) && decide (a ≤ c)
def finF (x : Nat) : Bool := fcB .eql .f32 (fbin .sub .f32 x x) 0
def squaresF (xs : List Nat) : Nat := foldI (fun i s => fbin .add .f32 s (fbin .mul .f32 (xs.getD i 0) (xs.getD i 0))) 0 xs.length
def bitsF (x : Nat) : Nat := if isn x = true then 2143289344 else x
def sameL (xs ys : List Nat) : Bool := decide (xs.length = ys.length) && (List.range xs.length).all fun i => decide (bitsF (xs.getD i 0) = bitsF (ys.getD i 0))
def validPicF (w h : Int) (xs : List Nat) : Bool := within w 1 16 && within h 1 16 && decide ((xs.length : Int) = w * h) && xs.all finF
theorem within_true {a b c : Int} : within a b c = true ↔ b ≤ a ∧ a ≤ c := by simp [within]
theorem sides_mul {w h : Int} (h1 : within w 1 16 = true) (h2 : within h 1 16 = true) : 1 ≤ w * h ∧ w * h ≤ 256 := by
  rw [within_true] at h1 h2
  constructor
  · have := Int.mul_le_mul h1.1 h2.1 (by omega) (by omega)
    omega
  · have := Int.mul_le_mul h1.2 h2.2 (by omega) (by omega)
    omega
theorem allD {α : Type} (d : α) {xs : List α} {p : α → Bool} : xs.all p = true ↔ ∀ j, j < xs.length → p (xs.getD j d) = true := by
  rw [List.all_eq_true]
  constructor
  · intro h j hj
    rw [List.getD_eq_getElem?_getD, List.getElem?_eq_getElem hj]
    exact h _ (List.getElem_mem hj)
  · intro h x hx
    obtain ⟨j, hj, rfl⟩ := List.getElem_of_mem hx
    have := h j hj
    rwa [List.getD_eq_getElem?_getD, List.getElem?_eq_getElem hj] at this
theorem allD_false {α : Type} (d : α) {xs : List α} {p : α → Bool} {j : Nat} (hj : j < xs.length) (h : p (xs.getD j d) = false) : xs.all p = false := by
  cases ha : xs.all p
  · rfl
  · rw [(allD d).1 ha j hj] at h; cases h
theorem allR {n : Nat} {p : Nat → Bool} : (List.range n).all p = true ↔ ∀ j, j < n → p j = true := by
  simp [List.all_eq_true, List.mem_range]
theorem allR_false {n : Nat} {p : Nat → Bool} {j : Nat} (hj : j < n) (h : p j = false) : (List.range n).all p = false := by
  cases ha : (List.range n).all p
  · rfl
  · rw [allR.1 ha j hj] at h; cases h

/-- Slices of slices of numbers. -/
def SS (H : Heap) (w : Value) (xss : List (List Nat)) : Prop := ∃ vs : List Value, Sl H w vs ∧ vs.length = xss.length ∧ ∀ j, j < xss.length → FS H (vs.getD j undef) (xss.getD j [])
theorem Sl.ldD {H : Heap} {v : Value} {l : List Value} (h : Sl H v l) (j : Nat) (h1 : j < l.length) : aLd (elp v j) H = some (l.getD j undef) := by
  rw [h.ld j h1, List.getD_eq_getElem?_getD, List.getElem?_eq_getElem h1]
  rfl
theorem SS.one {H : Heap} {h : Nat} {own : Bool} {ty : TypeId} {v : Value} {xs : List Nat} (hb : H.blk h = some ⟨own, ty, [v]⟩) (hn : h < H.n) (hv : FS H v xs) : SS H (.slice (some ⟨h, 0, none⟩) 1 1) [xs] :=
  ⟨[v], FS0.own hb hn rfl, rfl, fun j hj => by
    have : j = 0 := by simpa using hj
    subst this; exact hv⟩
theorem SS.two {H : Heap} {h : Nat} {own : Bool} {ty : TypeId} {v u : Value} {xs ys : List Nat} (hb : H.blk h = some ⟨own, ty, [v, u]⟩) (hn : h < H.n) (hv : FS H v xs) (hu : FS H u ys) : SS H (.slice (some ⟨h, 0, none⟩) 2 2) [xs, ys] :=
  ⟨[v, u], FS0.own hb hn rfl, rfl, fun j hj => by
    have hj' : j < 2 := by simpa using hj
    have : j = 0 ∨ j = 1 := by omega
    rcases this with rfl | rfl
    · exact hv
    · exact hu⟩
/-- Words of 32 bits. -/
def W32 (xs : List Nat) : Prop := ∀ j, xs.getD j 0 < 2 ^ 32
theorem W32.get {xs : List Nat} (h : W32 xs) (j : Nat) : xs.getD j 0 < 2 ^ 32 := h j
def signB (x : Nat) : Bool := decide (IntKind.wrap .i64 (x : Int) < 0)
theorem nan_wide {x : Nat} (h : isn x = false) : nanB .f64 (f64 x) = false := by
  have hw := f2f_wide x
  unfold isn nanB at h
  unfold f2f at hw
  simp only [reduceCtorEq, if_false] at hw
  split at hw
  · rename_i hd; rw [hd] at h; cases h
  · rw [← Option.some.inj hw]; exact write_not_nan FloatKind.f64.format _ rfl
  · split at hw
    · cases hw
    · rw [← Option.some.inj hw]; exact write_not_nan FloatKind.f64.format _ rfl
theorem isn_q : isn 2143289344 = true := by decide +kernel
theorem same_nan {x y : Nat} (hx : isn x = true) : isn y = decide (bitsF x = bitsF y) := by
  cases hy : isn y
  · simp only [bitsF, hx, hy, if_true, Bool.false_eq_true, if_false]
    symm
    rw [decide_eq_false_iff_not]
    rintro rfl
    rw [isn_q] at hy; cases hy
  · simp [bitsF, hx, hy]
theorem same_nan' {x y : Nat} (hx : isn x = false) (hy : isn y = true) : decide (bitsF x = bitsF y) = false := by
  have h := same_nan (y := x) hy
  rw [hx] at h
  rw [decide_eq_false_iff_not]
  intro e
  rw [decide_eq_true e.symm] at h; cases h
theorem sign_0 : signB (f64 0) = false := by decide +kernel
theorem sign_n : signB (f64 2147483648) = true := by decide +kernel
theorem same_sign {x y : Nat} (hx : isn x = false) (hy : isn y = false) (h1 : x < 2 ^ 32) (h2 : y < 2 ^ 32) (h : fcB .eql .f32 x y = true) : (signB (f64 x) == signB (f64 y)) = decide (bitsF x = bitsF y) := by
  have ho : single.order x y = some .eq := by
    have : ((single.read x).order (single.read y) == some .eq) = true := h
    exact eq_of_beq this
  simp only [bitsF, hx, hy, Bool.false_eq_true, if_false]
  rcases order_inj (by omega) (by omega) ho with rfl | ⟨h3, h4⟩
  · simp
  · have h5 : x = 0 ∨ x = 2147483648 := by omega
    have h6 : y = 0 ∨ y = 2147483648 := by omega
    rcases h5 with rfl | rfl <;> rcases h6 with rfl | rfl <;> simp [sign_0, sign_n]
theorem same_ne {x y : Nat} (hx : isn x = false) (hy : isn y = false) (h : fcB .eql .f32 x y = false) : decide (bitsF x = bitsF y) = false := by
  simp only [bitsF, hx, hy, Bool.false_eq_true, if_false]
  rw [decide_eq_false_iff_not]
  rintro rfl
  have := order_refl (k := .f32) hx
  simp [fcB, fcmp, this] at h
/-- A block's cells. -/
def csOf (H : Heap) (h : Nat) : Option (List Value) := (H.blk h).map (·.cs)
theorem csOf_def (H : Heap) (h : Nat) : csOf H h = (H.blk h).map (·.cs) := rfl
theorem FS.ofB {H : Heap} {h n : Nat} {xs : List Nat} (hb : csOf H h = some (xs.map fv)) (hn : h < H.n) (hl : xs.length = n) : FS H (.slice (some ⟨h, 0, none⟩) n n) xs := by
  unfold csOf at hb
  obtain ⟨⟨o, t, cs⟩, hb', rfl⟩ := Option.map_eq_some_iff.1 hb
  exact FS.own hb' hn hl
theorem IS.ofB {H : Heap} {h n : Nat} {xs : List Int} (hb : csOf H h = some (xs.map iv)) (hn : h < H.n) (hl : xs.length = n) : IS H (.slice (some ⟨h, 0, none⟩) n n) xs := by
  unfold csOf at hb
  obtain ⟨⟨o, t, cs⟩, hb', rfl⟩ := Option.map_eq_some_iff.1 hb
  exact IS.own hb' hn hl
/-- Halved so often, upwards. -/
def halfN (a : Int) : Nat → Int
  | 0 => a
  | n + 1 => (halfN a n + 1) / 2
theorem halfN_pos {a : Int} (h : 0 ≤ a) : ∀ n, 0 ≤ halfN a n
  | 0 => h
  | n + 1 => by have := halfN_pos h n; simp only [halfN]; omega
theorem halfN_le {a : Int} (h : 0 ≤ a) : ∀ n, halfN a n ≤ a + 1
  | 0 => by simp only [halfN]; omega
  | n + 1 => by have := halfN_le h n; have := halfN_pos h n; simp only [halfN]; omega
theorem halfN_le' {a : Int} (h : 1 ≤ a) : ∀ n, 1 ≤ halfN a n ∧ halfN a n ≤ a
  | 0 => ⟨h, Int.le_refl _⟩
  | n + 1 => by have := halfN_le' h n; simp only [halfN]; omega
/-! ### more results -/
def consO (a : Option Value) (l : Option (List Value)) : Option (List Value) :=
  match a, l with
  | some v, some vs => some (v :: vs)
  | _, _ => none
def tupR (l : Option (List Value)) : Option Value := l.map fun vs => .tuple vs.toArray
theorem consO_some (v : Value) (vs : List Value) : consO (some v) (some vs) = some (v :: vs) := rfl
theorem tupR_some (vs : List Value) : tupR (some vs) = some (.tuple vs.toArray) := rfl
theorem aresL_nil (φ : Frame) (H : Heap) : aresL φ H [] = some [] := rfl
theorem aresL_cons (φ : Frame) (H : Heap) (r : ARes) (l : List ARes) : aresL φ H (r :: l) = consO (ares1 φ H r) (aresL φ H l) := rfl
theorem ares_4 (φ : Frame) (H : Heap) (r s t u : ARes) : ares φ H [r, s, t, u] = tupR (aresL φ H [r, s, t, u]) := by
  unfold ares
  simp only [aresL_cons, aresL_nil]
  cases ares1 φ H r <;> cases ares1 φ H s <;> cases ares1 φ H t <;> cases ares1 φ H u <;> rfl
theorem ares_5 (φ : Frame) (H : Heap) (r s t u v : ARes) : ares φ H [r, s, t, u, v] = tupR (aresL φ H [r, s, t, u, v]) := by
  unfold ares
  simp only [aresL_cons, aresL_nil]
  cases ares1 φ H r <;> cases ares1 φ H s <;> cases ares1 φ H t <;> cases ares1 φ H u <;> cases ares1 φ H v <;> rfl
theorem arr_3 {v u w x : Value} {l : List Value} : (⟨v :: u :: w :: x :: l⟩ : Array Value)[3]? = some x := by simp
theorem arr_4 {v u w x y : Value} {l : List Value} : (⟨v :: u :: w :: x :: y :: l⟩ : Array Value)[4]? = some y := by simp

/-! ### a band's place -/
def regionF (w h l b : Int) : Int × Int × Int × Int :=
  let W := halfN w (l - 1).toNat
  let H := halfN h (l - 1).toNat
  let U := halfN W 1
  let V := halfN H 1
  if b = 0 then (0, 0, U, V) else if b = 1 then (U, 0, W - U, V) else if b = 2 then (0, V, U, H - V) else (U, V, W - U, H - V)
def tup4 (x : Int × Int × Int × Int) : Value := .tuple #[.int .i64 x.1, .int .i64 x.2.1, .int .i64 x.2.2.1, .int .i64 x.2.2.2]
def tup5 (x : Int × Int × Int × Int) (b : Bool) : Value := .tuple #[.int .i64 x.1, .int .i64 x.2.1, .int .i64 x.2.2.1, .int .i64 x.2.2.2, .bool b]
def regionOk (w h l b : Int) : Bool := within w 1 16 && within h 1 16 && within l 1 4 && within b 0 3
def regionV (w h l b : Int) : Value := if regionOk w h l b = true then tup5 (regionF w h l b) true else tup5 (0, 0, 0, 0) false
theorem rV_no {w h l b : Int} (hok : regionOk w h l b = false) : (.tuple #[.int .i64 0, .int .i64 0, .int .i64 0, .int .i64 0, .bool false] : Value) = regionV w h l b := by
  simp [regionV, hok, tup5]
theorem rV_yes {w h l b : Int} (hok : regionOk w h l b = true) : (.tuple #[.int .i64 (regionF w h l b).1, .int .i64 (regionF w h l b).2.1, .int .i64 (regionF w h l b).2.2.1, .int .i64 (regionF w h l b).2.2.2, .bool true] : Value) = regionV w h l b := by
  simp [regionV, hok, tup5]
/-! ### valid pairs -/
def corrK (xs : List Nat) (s : Nat) : Nat → Nat := foldI (fun k a => fbin .add .f32 a (fbin .mul .f32 (xs.getD k 0) (xs.getD (k + s) 0))) 0
def okSum (y : Nat) : Bool := fcB .leq .f32 y 981668463 && fcB .geq .f32 y 3129152111
def chkP (xs : List Nat) (j : Nat) : Bool := okSum (if j = 0 then fbin .sub .f32 (corrK xs 0 xs.length) 1065353216 else corrK xs (2 * j) (xs.length - 2 * j))
def validPairF (xs : List Nat) : Bool := within xs.length 2 8 && decide (xs.length % 2 = 0) && xs.all finF && (List.range (xs.length / 2)).all (chkP xs)
theorem corr_squares (xs : List Nat) : corrK xs 0 xs.length = squaresF xs := rfl
theorem tmod2 (n : Nat) : ((n : Int)).tmod 2 = ((n % 2 : Nat) : Int) := by
  rw [Int.tmod_eq_emod_of_nonneg (by omega)]; omega
theorem vp_false {xs : List Nat} {j : Nat} (hj : j < xs.length / 2) (h : chkP xs j = false) : validPairF xs = false := by
  simp [validPairF, allR_false hj h]
/-! ### a number, or none -/
def numV (x : Nat) : Value := .tuple #[.float .f32 (if finF x = true then x else 0), .bool (finF x)]
def energyN (w h : Int) (xs : List Nat) : Nat := if validPicF w h xs = true then (if finF (squaresF xs) = true then squaresF xs else 0) else 0
def energyB (w h : Int) (xs : List Nat) : Bool := validPicF w h xs && finF (squaresF xs)
/-! ### the other size -/
theorem cut_exact (neg : Bool) (m p : Nat) (h : p ≤ (m * 2 ^ p).log2 + 2) : Toward.even.cut neg (m * 2 ^ p) p = m := by
  have hp : 0 < 2 ^ p := Nat.two_pow_pos p
  have hm : min p ((m * 2 ^ p).log2 + 2) = p := Nat.min_eq_left h
  unfold Toward.cut
  simp only [hm, Nat.one_shiftLeft, Nat.mul_div_cancel _ hp, Nat.mul_mod_left, Nat.mul_zero]
  have h1 : ¬ (2 ^ p < 0) := by omega
  have h2 : (2 ^ p == 0) = false := by simp
  simp [h2]
theorem nearest_scaled {m p : Nat} (hm : m < 16777216) (hp : 0 < p → 8388608 ≤ m) (hq : p ≤ 253) (h0 : 0 < m) : single.nearest false (m * 2 ^ p) (-149) = m + p * 8388608 := by
  have hne : m * 2 ^ p ≠ 0 := Nat.ne_of_gt (Nat.mul_pos h0 (Nat.two_pow_pos p))
  have hlog : (m * 2 ^ p).log2 = m.log2 + p := by
    rw [Nat.log2_eq_iff hne]
    have h1 := Nat.log2_self_le (Nat.ne_of_gt h0)
    have h2 : m < 2 ^ (m.log2 + 1) := Nat.lt_log2_self
    constructor
    · rw [Nat.pow_add]; exact Nat.mul_le_mul_right _ h1
    · rw [show m.log2 + p + 1 = (m.log2 + 1) + p by omega, Nat.pow_add]; exact Nat.mul_lt_mul_of_pos_right h2 (Nat.two_pow_pos p)
  have hl : m.log2 < 24 := (Nat.log2_lt (Nat.ne_of_gt h0)).2 hm
  have hl' : 0 < p → 23 ≤ m.log2 := fun h => (Nat.le_log2 (Nat.ne_of_gt h0)).2 (hp h)
  unfold Format.nearest
  rw [if_neg hne, lp_single, hlog]
  have hfb : single.fractionBits = 23 := rfl
  have hlast : max (-149 + ((m.log2 + p : Nat) : Int) - (single.fractionBits : Int)) (-149) = -149 + (p : Int) := by
    rw [hfb]
    rcases Nat.eq_zero_or_pos p with h | h
    · subst h; omega
    · have := hl' h; omega
  simp only [hlast]
  have e1 : (-149 - (-149 + (p : Int))).toNat = 0 := by omega
  have e2 : (-149 + (p : Int) - -149).toNat = p := by omega
  rw [e1, e2, Nat.shiftLeft_zero, cut_exact _ _ _ (by rw [hlog]; omega), bi_single, ir_single]
  unfold Format.word
  simp only [Bool.false_eq_true, if_false]
  rw [Nat.min_eq_left (by omega)]
  omega
def sizeS (x : Nat) : Nat := if fcB .leq .f32 x 0 = true then fbin .sub .f32 0 x else x
theorem fneg_word {x : Nat} (h : nanB .f32 x = false) (hx : x < 4294967296) (hs : x / 2147483648 % 2 = 1) : fneg .f32 x = x % 2147483648 := by
  have hc : fneg .f32 x = Op.negFloat .f32 x := canon_of_num (by rw [nanB_neg]; exact h)
  rw [hc]
  have e1 : (Op.negFloat .f32 x) % 2147483648 = x % 2147483648 := xor_mod x 2147483648 31 (by decide)
  have e3 : (Op.negFloat .f32 x) / 2147483648 = (x / 2147483648) ^^^ 1 := by
    show (x ^^^ 2147483648) / 2147483648 = _
    have : ∀ a b : Nat, (a ^^^ b) / 2 ^ 31 = (a / 2 ^ 31) ^^^ (b / 2 ^ 31) := fun a b => by
      simp only [← Nat.shiftRight_eq_div_pow, Nat.shiftRight_xor_distrib]
    exact this x 2147483648
  have h1 : x / 2147483648 = 1 := by omega
  rw [h1] at e3
  have e4 : (Op.negFloat .f32 x) / 2147483648 = 0 := e3
  generalize Op.negFloat .f32 x = y at *
  omega
theorem num_lt {x : Nat} {s : Bool} {m : Nat} {e : Int} (h : single.read x = .number s m e) : x % 2147483648 < 2139095040 := by
  unfold Format.read at h
  rw [sw_single, bi_single, ir_single, lp_single] at h
  by_cases c1 : x % 2147483648 < 8388608
  · omega
  · by_cases c2 : x % 2147483648 < 2139095040
    · exact c2
    · by_cases c3 : x % 2147483648 = 2139095040 <;> simp [c1, c2, c3] at h
theorem size_same {x : Nat} (hx : x < 2 ^ 32) : sizeS x = sizeF x := by
  have hx' : x < 4294967296 := hx
  rcases read_single_cases x with ⟨m, p, hr, hm, hp, hw⟩ | ⟨hr, hw⟩ | ⟨t, hr⟩
  · have hn : nanB .f32 x = false := by
      unfold nanB FloatKind.decode
      have : FloatKind.f32.format.read x = single.read x := rfl
      rw [this, hr]; rfl
    have e0 : (-149 + (p : Int) - min (-149 + (p : Int)) (-149)).toNat = p := by omega
    have e1 : (-149 - min (-149 + (p : Int)) (-149)).toNat = 0 := by omega
    have hlt : fcB .lss .f32 x 0 = decide (signed (x / 2147483648 % 2 == 1) m p < 0) := by
      simp only [fcB_def, hr, read_0, Datum.order, Option.getD_some, cmp_lt, e0, e1]
      simp [signed]
    have hle : fcB .leq .f32 x 0 = decide (signed (x / 2147483648 % 2 == 1) m p ≤ 0) := by
      simp only [fcB_def, hr, read_0, Datum.order, Option.getD_some, cmp_le, e0, e1]
      simp [signed]
    have heq : fcB .eql .f32 x 0 = decide (signed (x / 2147483648 % 2 == 1) m p = 0) := by
      simp only [fcB_def, hr, read_0, Datum.order, Option.getD_some, cmp_eqB, e0, e1]
      simp [signed]
    have hpos : 0 < m → 0 < m * 2 ^ p := fun h => Nat.mul_pos h (Nat.two_pow_pos _)
    rcases Nat.eq_zero_or_pos m with h0 | h0
    · subst h0
      have hp0 : p = 0 := by omega
      have hz : x = 0 ∨ x = 2147483648 := by omega
      rcases hz with rfl | rfl <;> decide +kernel
    · cases hs : (x / 2147483648 % 2 == 1)
      · rw [hs] at hlt hle heq
        simp only [signed, Nat.shiftLeft_eq, Bool.false_eq_true, if_false] at hlt hle heq
        have := hpos h0
        unfold sizeS sizeF
        rw [hle, hlt, heq, decide_eq_false (by omega), decide_eq_false (by omega), decide_eq_false (by omega)]
        simp
      · rw [hs] at hlt hle heq hr
        simp only [signed, Nat.shiftLeft_eq, if_true] at hlt hle heq
        have := hpos h0
        unfold sizeS sizeF
        rw [hle, hlt, if_pos (decide_eq_true (by omega)), if_pos (decide_eq_true (by omega)), fneg_word hn hx' (by simpa using hs)]
        have hsum : FloatKind.f32.format.sub 0 x = some (single.nearest false (m * 2 ^ p) (-149)) := by
          show ((single.read 0).sum (single.read x).opposite).map single.write = _
          rw [read_0, hr]
          have e2 : (-149 - min (-149) (-149 + (p : Int))).toNat = 0 := by omega
          have e3 : (-149 + (p : Int) - min (-149) (-149 + (p : Int))).toNat = p := by omega
          have e4 : min (-149) (-149 + (p : Int)) = -149 := by omega
          have e8 : (-149 + (p : Int) - -149).toNat = p := by omega
          simp only [Datum.opposite, Datum.sum, e2, e3, e4, e8, signed, Bool.not_true, Bool.false_eq_true, if_false, Nat.shiftLeft_eq, Nat.zero_mul, Option.map_some]
          have e5 : ¬ (((0 : Nat) : Int) + ((m * 2 ^ p : Nat) : Int) = 0) := by omega
          have e6 : decide (((0 : Nat) : Int) + ((m * 2 ^ p : Nat) : Int) < 0) = false := decide_eq_false (by omega)
          have e7 : (((0 : Nat) : Int) + ((m * 2 ^ p : Nat) : Int)).natAbs = m * 2 ^ p := by omega
          rw [if_neg e5, e6, e7]
          rfl
        have hf : fbin .sub .f32 0 x = single.nearest false (m * 2 ^ p) (-149) := by
          unfold fbin floatBits
          rw [hsum]; rfl
        have hlt2 := num_lt hr
        have hp253 : p ≤ 253 := by
          rcases Nat.eq_zero_or_pos p with h | h
          · omega
          · have := hp h; omega
        rw [hf, nearest_scaled hm hp hp253 h0, hw]
  · have hn : nanB .f32 x = false := by
      unfold nanB FloatKind.decode
      have : FloatKind.f32.format.read x = single.read x := rfl
      rw [this, hr]; rfl
    have hz : x = 2139095040 ∨ x = 4286578688 := by omega
    rcases hz with rfl | rfl <;> decide +kernel
  · have h1 : ∀ op z, op = .lss ∨ op = .eql ∨ op = .leq ∨ op = .geq → fcB op .f32 x z = false := by
      rintro op z (rfl | rfl | rfl | rfl) <;> simp only [fcB_def, hr, Datum.order, Option.getD_some] <;> rfl
    unfold sizeS sizeF
    simp [h1]
/-! ### maxima -/
def maxAt (xs : List Nat) (i : Nat) : Bool := fcB .gtr .f32 (sizeF (xs.getD i 0)) 0 && (decide (i = 0) || fcB .gtr .f32 (sizeF (xs.getD i 0)) (sizeF (xs.getD (i - 1) 0))) &&
  (decide (i + 1 = xs.length) || fcB .geq .f32 (sizeF (xs.getD i 0)) (sizeF (xs.getD (i + 1) 0)))
def maximaL (xs : List Nat) (i : Nat) : List Int := ((List.range i).filter (maxAt xs)).map fun k : Nat => (k : Int)
theorem maximaL_zero (xs : List Nat) : maximaL xs 0 = [] := rfl
theorem maximaL_yes {xs : List Nat} {i : Nat} (h : maxAt xs i = true) : maximaL xs (i + 1) = maximaL xs i ++ [(i : Int)] := by
  simp [maximaL, List.range_succ, List.filter_append, h]
theorem maximaL_no {xs : List Nat} {i : Nat} (h : maxAt xs i = false) : maximaL xs (i + 1) = maximaL xs i := by
  simp [maximaL, List.range_succ, List.filter_append, h]
theorem maximaL_len (xs : List Nat) (i : Nat) : (maximaL xs i).length ≤ i := by
  simp only [maximaL, List.length_map]
  exact Nat.le_trans (List.length_filter_le _ _) (by simp)
def isLongF (xs : List Nat) : Bool := within xs.length 1 128 && xs.all finF
end Go.Gx
