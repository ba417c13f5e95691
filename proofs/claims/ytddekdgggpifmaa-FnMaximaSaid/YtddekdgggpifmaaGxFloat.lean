/-
  Floats up to the bits of a NaN: 'canon k b' is b, or one fixed NaN; the operations on canonical words.
-/
import Derived.Laws.FloatArith
import Derived.Deep.Draws
namespace Go.Gx
set_option linter.unusedSimpArgs false
set_option linter.unusedVariables false
open Ieee

def qnan : FloatKind → Nat
  | .f32 => 0x7fc00000
  | .f64 => 0x7ff8000000000000
def nanB (k : FloatKind) (b : Nat) : Bool := (k.decode b).isNaN
def canon (k : FloatKind) (b : Nat) : Nat := if nanB k b = true then qnan k else b

theorem nanB_qnan (k : FloatKind) : nanB k (qnan k) = true := by cases k <;> decide +kernel
theorem qnan_lt (k : FloatKind) : qnan k < 2 ^ k.format.width := by cases k <;> decide +kernel
theorem canon_of_nan {k : FloatKind} {b : Nat} (h : nanB k b = true) : canon k b = qnan k := by simp [canon, h]
theorem canon_of_num {k : FloatKind} {b : Nat} (h : nanB k b = false) : canon k b = b := by simp [canon, h]
theorem nanB_canon (k : FloatKind) (b : Nat) : nanB k (canon k b) = nanB k b := by
  by_cases h : nanB k b = true
  · rw [canon_of_nan h, h, nanB_qnan]
  · have h' : nanB k b = false := by cases hh : nanB k b <;> simp_all
    rw [canon_of_num h']
theorem canon_canon (k : FloatKind) (b : Nat) : canon k (canon k b) = canon k b := by
  by_cases h : nanB k b = true
  · rw [canon_of_nan h, canon_of_nan (nanB_qnan k)]
  · have h' : nanB k b = false := by cases hh : nanB k b <;> simp_all
    rw [canon_of_num h', canon_of_num h']
theorem canon_lt {k : FloatKind} {b : Nat} (h : b < 2 ^ k.format.width) : canon k b < 2 ^ k.format.width := by
  unfold canon; split
  · exact qnan_lt k
  · exact h

/-! ### words -/
theorem read_word_not_nan (f : Format) (neg : Bool) {rung : Nat} (h : rung ≤ f.infRung) : (f.read (f.word neg rung)).isNaN = false := by
  have hlt := f.infRung_lt
  have hr : f.word neg rung % f.signWeight = rung := by
    unfold Format.word
    split
    · rw [Nat.add_mod_left, Nat.mod_eq_of_lt (by omega)]
    · rw [Nat.mod_eq_of_lt (by omega)]
  unfold Format.read
  simp only [hr]
  split
  · rfl
  · split
    · rfl
    · split
      · rfl
      · omega

theorem write_not_nan (f : Format) (d : Datum) (h : d.isNaN = false) : (f.read (f.write d)).isNaN = false := by
  cases d with
  | number neg mag place =>
    show (f.read (f.nearest neg mag place)).isNaN = false
    unfold Format.nearest
    dsimp only
    split
    · exact read_word_not_nan f _ (Nat.zero_le _)
    · exact read_word_not_nan f _ (Nat.min_le_right ..)
  | infinity neg => exact read_word_not_nan f neg (Nat.le_refl _)
  | nan neg t => cases h

theorem sum_not_nan {a b d : Datum} (h : a.sum b = some d) : d.isNaN = false := by
  cases a <;> cases b <;> simp only [Datum.sum] at h
  all_goals first | (cases h; done) | (split at h <;> cases h <;> rfl) | (cases h; rfl)
theorem product_not_nan {a b d : Datum} (h : a.product b = some d) : d.isNaN = false := by
  cases a <;> cases b <;> simp only [Datum.product] at h
  all_goals first | (cases h; done) | (split at h <;> cases h <;> rfl) | (cases h; rfl)
theorem quotient_not_nan {n : Nat} {a b d : Datum} (h : a.quotient n b = some d) : d.isNaN = false := by
  cases a <;> cases b <;> simp only [Datum.quotient] at h
  all_goals first | (cases h; done) | (cases h; rfl; done) | skip
  all_goals
    split at h
    · split at h
      · cases h
      · cases h; rfl
    · cases h; rfl
theorem root_not_nan {n : Nat} {a d : Datum} (h : a.root n = some d) : d.isNaN = false := by
  cases a <;> simp only [Datum.root] at h
  · split at h
    · cases h; rfl
    · split at h
      · cases h
      · cases h; rfl
  · split at h <;> cases h; rfl
  · cases h

/-! ### the operations -/
def fbin (op : BinOp) (k : FloatKind) (x y : Nat) : Nat := (floatBits op k x y).getD (qnan k)

theorem floatBits_nan_left {op : BinOp} {k : FloatKind} {x y : Nat} (h : nanB k x = true) : floatBits op k x y = none := by
  unfold nanB FloatKind.decode at h
  unfold floatBits
  split <;> try rfl
  all_goals
    simp only [Format.add, Format.sub, Format.mul, Format.div]
    generalize k.format.read x = d at h
    cases d <;> simp [Datum.isNaN] at h
    simp [Datum.sum, Datum.product, Datum.quotient]
theorem floatBits_nan_right {op : BinOp} {k : FloatKind} {x y : Nat} (h : nanB k y = true) : floatBits op k x y = none := by
  unfold nanB FloatKind.decode at h
  unfold floatBits
  split <;> try rfl
  all_goals
    simp only [Format.add, Format.sub, Format.mul, Format.div]
    generalize k.format.read y = d at h
    generalize k.format.read x = e
    cases d <;> simp [Datum.isNaN] at h
    cases e <;> simp [Datum.sum, Datum.product, Datum.quotient, Datum.opposite]
theorem floatBits_canon (op : BinOp) (k : FloatKind) (x y : Nat) : floatBits op k (canon k x) (canon k y) = floatBits op k x y := by
  by_cases hx : nanB k x = true
  · rw [floatBits_nan_left (by rw [nanB_canon]; exact hx), floatBits_nan_left hx]
  · by_cases hy : nanB k y = true
    · rw [floatBits_nan_right (by rw [nanB_canon]; exact hy), floatBits_nan_right hy]
    · rw [canon_of_num (by simpa using hx), canon_of_num (by simpa using hy)]
theorem floatBits_not_nan {op : BinOp} {k : FloatKind} {x y r : Nat} (h : floatBits op k x y = some r) : nanB k r = false := by
  have key : ∀ {o : Option Datum}, (∀ d, o = some d → d.isNaN = false) → o.map k.format.write = some r → nanB k r = false := by
    intro o hd hm
    cases o with
    | none => cases hm
    | some d => cases hm; exact write_not_nan _ d (hd d rfl)
  unfold floatBits at h
  split at h
  · exact key (fun d hd => sum_not_nan hd) h
  · exact key (fun d hd => sum_not_nan hd) h
  · exact key (fun d hd => product_not_nan hd) h
  · exact key (fun d hd => quotient_not_nan hd) h
  · cases h
theorem floatBits_lt {op : BinOp} {k : FloatKind} {x y r : Nat} (h : floatBits op k x y = some r) : r < 2 ^ k.format.width := by
  unfold floatBits at h
  split at h
  · exact k.format.add_lt h
  · exact k.format.sub_lt h
  · exact k.format.mul_lt h
  · exact k.format.div_lt h
  · cases h

/-- The bits that the tape gives for a NaN are a NaN's. -/
theorem nan_cut (k : FloatKind) (q : Question) (t : Nat) (hq : (∃ x y, q = .nanBits k x y) ∨ (∃ x, q = .nanConv k x)) : nanB k (q.cut t) = true ∧ q.cut t < 2 ^ k.format.width := by
  have key : ∀ (a b : Nat), a < 2 → b < 2 ^ 23 - 1 → nanB .f32 (a * 2 ^ 31 + 0x7f800000 + 1 + b) = true ∧ a * 2 ^ 31 + 0x7f800000 + 1 + b < 2 ^ 32 := by
    intro a b ha hb
    refine ⟨?_, by omega⟩
    unfold nanB FloatKind.decode Format.read
    have e1 : FloatKind.f32.format.signWeight = 2147483648 := by decide +kernel
    have e2 : FloatKind.f32.format.binade = 8388608 := by decide +kernel
    have e3 : FloatKind.f32.format.infRung = 2139095040 := by decide +kernel
    have e4 : (a * 2 ^ 31 + 0x7f800000 + 1 + b) % 2147483648 = 2139095041 + b := by omega
    simp only [e1, e2, e3, e4]
    rw [if_neg (by omega), if_neg (by omega), if_neg (by omega)]
    rfl
  have key2 : ∀ (a b : Nat), a < 2 → b < 2 ^ 52 - 1 → nanB .f64 (a * 2 ^ 63 + 0x7ff0000000000000 + 1 + b) = true ∧ a * 2 ^ 63 + 0x7ff0000000000000 + 1 + b < 2 ^ 64 := by
    intro a b ha hb
    refine ⟨?_, by omega⟩
    unfold nanB FloatKind.decode Format.read
    have e1 : FloatKind.f64.format.signWeight = 9223372036854775808 := by decide +kernel
    have e2 : FloatKind.f64.format.binade = 4503599627370496 := by decide +kernel
    have e3 : FloatKind.f64.format.infRung = 9218868437227405312 := by decide +kernel
    have e4 : (a * 2 ^ 63 + 0x7ff0000000000000 + 1 + b) % 9223372036854775808 = 9218868437227405313 + b := by omega
    simp only [e1, e2, e3, e4]
    rw [if_neg (by omega), if_neg (by omega), if_neg (by omega)]
    rfl
  rcases hq with ⟨x, y, rfl⟩ | ⟨x, rfl⟩ <;> cases k <;> simp only [Question.cut]
  · exact key _ _ (Nat.mod_lt _ (by omega)) (Nat.mod_lt _ (by omega))
  · exact key2 _ _ (Nat.mod_lt _ (by omega)) (Nat.mod_lt _ (by omega))
  · exact key _ _ (Nat.mod_lt _ (by omega)) (Nat.mod_lt _ (by omega))
  · exact key2 _ _ (Nat.mod_lt _ (by omega)) (Nat.mod_lt _ (by omega))

/-- A concrete float and its canonical word. -/
def FW (k : FloatKind) (x b : Nat) : Prop := canon k b = x ∧ b < 2 ^ k.format.width
theorem FW.lt {k : FloatKind} {x b : Nat} (h : FW k x b) : x < 2 ^ k.format.width := h.1 ▸ canon_lt h.2
theorem FW.of_num {k : FloatKind} {b : Nat} (h : nanB k b = false) (hl : b < 2 ^ k.format.width) : FW k b b := ⟨canon_of_num h, hl⟩
theorem FW.of_nan {k : FloatKind} {b : Nat} (h : nanB k b = true) (hl : b < 2 ^ k.format.width) : FW k (qnan k) b := ⟨canon_of_nan h, hl⟩
theorem FW.canon {k : FloatKind} {x b : Nat} (h : FW k x b) : Gx.canon k x = x := by rw [← h.1, canon_canon]

section
variable {P : Program}
theorem run_fbin (w : World) (op : BinOp) (hop : op = .add ∨ op = .sub ∨ op = .mul ∨ op = .quo) (k : FloatKind) {x y a b : Nat} (hx : FW k x a) (hy : FW k y b) :
    ∃ r n, (Op.floatArith op k a b).run P w = .ok (.float k r) (w.drewN n) ∧ FW k (fbin op k x y) r := by
  have hc : floatBits op k x y = floatBits op k a b := by rw [← hx.1, ← hy.1, floatBits_canon]
  cases hr : floatBits op k a b with
  | some r =>
    refine ⟨r, 0, ?_, ?_⟩
    · have : (Op.floatArith op k a b).run P w = .ok (.float k r) w := by
        rcases hop with rfl | rfl | rfl | rfl <;> simp only [floatBits] at hr <;> simp [Op.floatArith, hr]
      exact this
    · unfold fbin
      rw [hc, hr]
      exact FW.of_num (floatBits_not_nan hr) (floatBits_lt hr)
  | none =>
    have hn := nan_cut k (.nanBits k a b) (w.tape w.drawn (.nanBits k a b)) (.inl ⟨a, b, rfl⟩)
    refine ⟨(Question.nanBits k a b).cut (w.tape w.drawn (.nanBits k a b)), 1, ?_, ?_⟩
    · rcases hop with rfl | rfl | rfl | rfl <;> simp only [floatBits] at hr <;> simp [Op.floatArith, hr, choose, Sem.run, Question.forced, World.drewN]
    · unfold fbin
      rw [hc, hr]
      exact FW.of_nan hn.1 hn.2
end

/-! ### roots, and numbers made whole -/
def sqrtF (x : Nat) : Nat := (FloatKind.f64.format.sqrt x).getD (qnan .f64)
def wayOf : Nat → Toward
  | 0 => .down
  | 1 => .up
  | _ => .zero
def intF (way : Nat) (x : Nat) : Nat :=
  match FloatKind.f64.decode x with
  | .nan _ _ => qnan .f64
  | d => FloatKind.f64.encode (d.integral (wayOf way))
theorem sqrt_nan {x : Nat} (h : nanB .f64 x = true) : FloatKind.f64.format.sqrt x = none := by
  unfold nanB FloatKind.decode at h
  unfold Format.sqrt
  generalize FloatKind.f64.format.read x = d at h
  cases d <;> simp [Datum.isNaN] at h
  simp [Datum.root]
theorem sqrt_canon (x : Nat) : FloatKind.f64.format.sqrt (canon .f64 x) = FloatKind.f64.format.sqrt x := by
  by_cases h : nanB .f64 x = true
  · rw [sqrt_nan (by rw [nanB_canon]; exact h), sqrt_nan h]
  · rw [canon_of_num (by simpa using h)]
theorem sqrt_lt {x r : Nat} (h : FloatKind.f64.format.sqrt x = some r) : nanB .f64 r = false ∧ r < 2 ^ FloatKind.f64.format.width := by
  unfold Format.sqrt at h
  cases hd : (FloatKind.f64.format.read x).root (FloatKind.f64.format.fractionBits + 2) with
  | none => rw [hd] at h; cases h
  | some d =>
    rw [hd] at h
    cases h
    exact ⟨write_not_nan _ _ (root_not_nan hd), FloatKind.f64.format.write_lt d⟩
theorem FW.intF {way x b : Nat} (h : FW .f64 x b) (hn : nanB .f64 b = false) : FW .f64 (intF way x) (FloatKind.f64.encode ((FloatKind.f64.decode b).integral (wayOf way))) := by
  have hx : x = b := by rw [← h.1, canon_of_num hn]
  subst hx
  unfold nanB at hn
  have key : Gx.intF way x = FloatKind.f64.encode ((FloatKind.f64.decode x).integral (wayOf way)) := by
    unfold Gx.intF
    cases hd : FloatKind.f64.decode x with
    | nan s t => rw [hd] at hn; cases hn
    | number s m e => rfl
    | infinity s => rfl
  rw [key]
  have hnn : ((FloatKind.f64.decode x).integral (wayOf way)).isNaN = false := by
    cases hd : FloatKind.f64.decode x with
    | nan s t => rw [hd] at hn; cases hn
    | number s m e => rfl
    | infinity s => rfl
  exact FW.of_num (write_not_nan _ _ hnn) (FloatKind.f64.format.write_lt _)
theorem FW.intF_nan {way x b : Nat} (h : FW .f64 x b) (hn : nanB .f64 b = true) {c : Nat} (hc : nanB .f64 c = true) (hl : c < 2 ^ FloatKind.f64.format.width) : FW .f64 (Gx.intF way x) c := by
  have hx : x = qnan .f64 := by rw [← h.1, canon_of_nan hn]
  subst hx
  have : Gx.intF way (qnan .f64) = qnan .f64 := by
    unfold Gx.intF
    have h2 := nanB_qnan .f64
    unfold nanB at h2
    cases hd : FloatKind.f64.decode (qnan .f64) <;> rw [hd] at h2 <;> first | (cases h2; done) | rfl
  rw [this]
  exact FW.of_nan hc hl

/-! ### comparison -/
/-- What 'max' gives, where no operand is a NaN. -/
def maxW (k : FloatKind) (a b : Nat) : Option Nat :=
  match k.format.order a b with
  | some .lt => some b
  | some .gt => some a
  | some .eq => some (if (k.decode a).neg = true then b else a)
  | none => none
theorem order_num {k : FloatKind} {a b : Nat} (h : k.format.order a b ≠ none) : nanB k a = false ∧ nanB k b = false := by
  constructor
  · cases hn : nanB k a with
    | false => rfl
    | true =>
      refine absurd ?_ h
      unfold nanB at hn
      show (k.decode a).order (k.decode b) = none
      cases hd : k.decode a <;> rw [hd] at hn <;> first | (cases hn; done) | rfl
  · cases hn : nanB k b with
    | false => rfl
    | true =>
      refine absurd ?_ h
      unfold nanB at hn
      show (k.decode a).order (k.decode b) = none
      cases hd : k.decode b <;> rw [hd] at hn <;> first | (cases hn; done) | (cases k.decode a <;> rfl)
theorem FW.eq_num {k : FloatKind} {x b : Nat} (h : FW k x b) (hn : nanB k x = false) : b = x := by
  cases hb : nanB k b with
  | true =>
    have := canon_of_nan hb
    rw [h.1] at this
    rw [this, nanB_qnan] at hn
    cases hn
  | false =>
    have := canon_of_num hb
    rw [h.1] at this
    exact this.symm
theorem order_canon (k : FloatKind) (x y : Nat) : k.format.order (canon k x) (canon k y) = k.format.order x y := by
  have hl : ∀ a b, nanB k a = true → k.format.order a b = none := by
    intro a b h
    unfold nanB FloatKind.decode at h
    unfold Format.order
    generalize k.format.read a = d at h
    cases d <;> simp [Datum.isNaN] at h
    simp [Datum.order]
  have hr : ∀ a b, nanB k b = true → k.format.order a b = none := by
    intro a b h
    unfold nanB FloatKind.decode at h
    unfold Format.order
    generalize k.format.read b = d at h
    generalize k.format.read a = e
    cases d <;> simp [Datum.isNaN] at h
    cases e <;> simp [Datum.order]
  by_cases hx : nanB k x = true
  · rw [hl _ _ (by rw [nanB_canon]; exact hx), hl _ _ hx]
  · by_cases hy : nanB k y = true
    · rw [hr _ _ (by rw [nanB_canon]; exact hy), hr _ _ hy]
    · rw [canon_of_num (by simpa using hx), canon_of_num (by simpa using hy)]
def fcmp (op : BinOp) (k : FloatKind) (x y : Nat) : Option Bool :=
  let c := k.format.order x y
  match op with
  | .eql => some (c == some .eq)
  | .neq => some (c != some .eq)
  | .lss => some (c == some .lt)
  | .leq => some (c == some .lt || c == some .eq)
  | .gtr => some (c == some .gt)
  | .geq => some (c == some .gt || c == some .eq)
  | _ => none
theorem run_fcmp {P : Program} (w : World) (op : BinOp) (k : FloatKind) {x y a b : Nat} {r : Bool} (hx : FW k x a) (hy : FW k y b) (h : fcmp op k x y = some r) :
    (Op.floatCmp op k a b).run P w = .ok (.bool r) w := by
  have hc : k.format.order x y = k.format.order a b := by rw [← hx.1, ← hy.1, order_canon]
  unfold fcmp at h
  rw [hc] at h
  cases op <;> simp only [Option.some.injEq] at h <;> first | (cases h; done) | (subst h; simp [Op.floatCmp])

/-! ### the other sign -/
def fneg (k : FloatKind) (x : Nat) : Nat := canon k (Op.negFloat k x)
theorem xor_mod (b s n : Nat) (h : s = 2 ^ n) : (b ^^^ s) % s = b % s := by
  subst h
  rw [Nat.xor_mod_two_pow, Nat.mod_self]
  simp
theorem nanB_neg (k : FloatKind) (b : Nat) : nanB k (Op.negFloat k b) = nanB k b := by
  unfold nanB FloatKind.decode Op.negFloat Format.read
  have e : (b ^^^ 2 ^ (k.format.exponentBits + k.format.fractionBits)) % k.format.signWeight = b % k.format.signWeight := xor_mod b _ _ rfl
  simp only [e]
  split
  · rfl
  · split
    · rfl
    · split <;> rfl
theorem neg_lt {k : FloatKind} {b : Nat} (h : b < 2 ^ k.format.width) : Op.negFloat k b < 2 ^ k.format.width :=
  Nat.xor_lt_two_pow h (Nat.pow_lt_pow_right (by omega) (by unfold Format.width; omega))
theorem FW.neg {k : FloatKind} {x b : Nat} (h : FW k x b) : FW k (fneg k x) (Op.negFloat k b) := by
  refine ⟨?_, neg_lt h.2⟩
  unfold fneg
  by_cases hn : nanB k b = true
  · rw [canon_of_nan (by rw [nanB_neg]; exact hn), canon_of_nan (by rw [nanB_neg, ← h.1, nanB_canon]; exact hn)]
  · rw [← h.1, canon_of_num (b := b) (by simpa using hn)]

/-! ### conversions -/
/-- 'some r': the float of the other kind; 'none': out of its range (there the language fixes no value). -/
def f2f (src : FloatKind) (x : Nat) (dst : FloatKind) : Option Nat :=
  if src = dst then some x else
  match src.decode x with
  | .nan _ _ => some (qnan dst)
  | .infinity s => some (dst.encode (.infinity s))
  | .number s m e => if (dst.decode (dst.encode (.number s m e))).isInfinity then none else some (dst.encode (.number s m e))
theorem run_f2f {P : Program} (w : World) {src dst : FloatKind} {x b r : Nat} (hx : FW src x b) (h : f2f src x dst = some r) :
    ∃ c n, (Conv.floatToFloat src b dst).run P w = .ok (.float dst c) (w.drewN n) ∧ FW dst r c := by
  unfold f2f at h
  by_cases he : src = dst
  · subst he
    simp only [if_true] at h
    cases h
    exact ⟨b, 0, by simp [Conv.floatToFloat, World.drewN], hx⟩
  · rw [if_neg he] at h
    by_cases hn : nanB src b = true
    · have hd : ∃ s t, src.decode b = .nan s t := by
        unfold nanB at hn
        cases hh : src.decode b <;> simp [hh, Datum.isNaN] at hn
        exact ⟨_, _, rfl⟩
      obtain ⟨s, t, hd⟩ := hd
      have hr : r = qnan dst := by
        rw [← hx.1, canon_of_nan hn] at h
        have h2 := nanB_qnan src
        unfold nanB at h2
        cases hh : src.decode (qnan src) <;> simp [hh, Datum.isNaN] at h2
        rw [hh] at h
        exact (Option.some.inj h).symm
      subst hr
      have hc := nan_cut dst (.nanConv dst b) (w.tape w.drawn (.nanConv dst b)) (.inr ⟨b, rfl⟩)
      exact ⟨_, 1, by simp [Conv.floatToFloat, he, hd, choose, Sem.run, Question.forced, World.drewN], FW.of_nan hc.1 hc.2⟩
    · have hxb : x = b := by rw [← hx.1, canon_of_num (by simpa using hn)]
      subst hxb
      split at h
      · rename_i hd; unfold nanB at hn; rw [hd] at hn; exact absurd rfl hn
      · rename_i s hd
        cases h
        exact ⟨_, 0, by simp [Conv.floatToFloat, he, hd, World.drewN], FW.of_num (write_not_nan dst.format _ rfl) (dst.format.write_lt _)⟩
      · rename_i s m e hd
        split at h
        · cases h
        · rename_i ho
          cases h
          exact ⟨_, 0, by simp [Conv.floatToFloat, he, hd, ho, World.drewN], FW.of_num (write_not_nan dst.format _ rfl) (dst.format.write_lt _)⟩

def i2f (k : FloatKind) (n : Int) : Nat := k.nearest n
theorem FW.ofInt (k : FloatKind) (n : Int) : FW k (i2f k n) (k.nearest n) :=
  FW.of_num (write_not_nan k.format (.number (n < 0) n.natAbs 0) rfl) (k.format.write_lt (.number (n < 0) n.natAbs 0))
def f2i (src : FloatKind) (x : Nat) (dst : IntKind) : Option Int := floatToIntVal src x dst
theorem run_f2i {P : Program} (w : World) {src : FloatKind} {dst : IntKind} {x b : Nat} {n : Int} (hx : FW src x b) (h : f2i src x dst = some n) :
    (Conv.floatToInt src b dst).run P w = .ok (.int dst n) w := by
  have hxb : x = b := by
    by_cases hn : nanB src b = true
    · exfalso
      have h2 := nanB_qnan src
      rw [← hx.1, canon_of_nan hn] at h
      unfold f2i floatToIntVal at h
      unfold nanB at h2
      cases hh : src.decode (qnan src) <;> simp [hh, Datum.isNaN] at h2
      rw [hh] at h
      simp [Datum.toInt, Datum.integral] at h
    · rw [← hx.1, canon_of_num (by simpa using hn)]
  subst hxb
  unfold f2i floatToIntVal at h
  split at h
  · rename_i m hm
    split at h
    · rename_i hb; cases h; simp [Conv.floatToInt, hm, hb.1, hb.2]
    · cases h
  · cases h
end Go.Gx
