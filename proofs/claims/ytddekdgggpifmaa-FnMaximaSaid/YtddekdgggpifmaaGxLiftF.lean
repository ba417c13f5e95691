/-
  Lifts of numbers of single precision, in plain lists; a product that is taken away.
-/
import Derived.Test.YtddekdgggpifmaaGxLift
namespace Go.Gx
set_option linter.unusedSimpArgs false
set_option linter.unusedVariables false
open Ieee

/-! ### a product taken away is the opposite product added -/
theorem read_word (neg : Bool) {r : Nat} (h : r ≤ 2139095040) : single.read (single.word neg r) = if r < 8388608 then .number neg r (-149) else if r < 2139095040 then .number neg (8388608 + r % 8388608) (-149 + (r / 8388608 - 1 : Nat)) else .infinity neg := by
  unfold Format.read Format.word
  rw [sw_single, bi_single, ir_single, lp_single]
  cases neg
  · have e1 : r % 2147483648 = r := Nat.mod_eq_of_lt (by omega)
    have e2 : (r / 2147483648 % 2 == 1) = false := by
      have : r / 2147483648 = 0 := by omega
      rw [this]; rfl
    simp only [Bool.false_eq_true, if_false, e1, e2]
    by_cases c1 : r < 8388608
    · simp [c1]
    · by_cases c2 : r < 2139095040
      · simp [c1, c2]
      · have : r = 2139095040 := by omega
        simp [c1, c2, this]
  · have e1 : (2147483648 + r) % 2147483648 = r := by omega
    have e2 : ((2147483648 + r) / 2147483648 % 2 == 1) = true := by
      have : (2147483648 + r) / 2147483648 = 1 := by omega
      rw [this]; rfl
    simp only [if_true, e1, e2]
    by_cases c1 : r < 8388608
    · simp [c1]
    · by_cases c2 : r < 2139095040
      · simp [c1, c2]
      · have : r = 2139095040 := by omega
        simp [c1, c2, this]
theorem read_word_opp (neg : Bool) {r : Nat} (h : r ≤ 2139095040) : single.read (single.word (!neg) r) = (single.read (single.word neg r)).opposite := by
  rw [read_word _ h, read_word _ h]
  by_cases c1 : r < 8388608
  · simp [c1, Datum.opposite]
  · by_cases c2 : r < 2139095040
    · simp [c1, c2, Datum.opposite]
    · simp [c1, c2, Datum.opposite]
theorem read_write_opp {d : Datum} (h : d.isNaN = false) : single.read (single.write d.opposite) = (single.read (single.write d)).opposite := by
  cases d with
  | number s m e =>
    show single.read (single.nearest (!s) m e) = (single.read (single.nearest s m e)).opposite
    unfold Format.nearest
    split
    · exact read_word_opp s (by omega)
    · have : ∀ n d', Toward.even.cut (!s) n d' = Toward.even.cut s n d' := fun _ _ => rfl
      have hm : ∀ k, min k single.infRung ≤ 2139095040 := fun k => by rw [ir_single]; exact Nat.min_le_right _ _
      simp only [this]
      exact read_word_opp s (hm _)
  | infinity s =>
    show single.read (single.word (!s) single.infRung) = (single.read (single.word s single.infRung)).opposite
    exact read_word_opp s (by rw [ir_single]; exact Nat.le_refl _)
  | nan s t => cases h
theorem product_opp (a b : Datum) : a.opposite.product b = (a.product b).map Datum.opposite := by
  cases a <;> cases b <;> simp [Datum.product, Datum.opposite]
  all_goals (split <;> simp [Datum.opposite])
theorem product_num {a b d : Datum} (h : a.product b = some d) : d.isNaN = false := by
  cases a <;> cases b <;> simp [Datum.product] at h
  all_goals first | (subst h; rfl) | (obtain ⟨_, h⟩ := h; subst h; rfl)
theorem opp_opp (d : Datum) : d.opposite.opposite = d := by cases d <;> simp [Datum.opposite]
theorem sub_mul_neg {x w y : Nat} (hw : nanB .f32 w = false) : fbin .sub .f32 x (fbin .mul .f32 w y) = fbin .add .f32 x (fbin .mul .f32 (fneg .f32 w) y) := by
  have hn := read_fneg hw
  have e1 : ∀ a b, floatBits .mul .f32 a b = ((single.read a).product (single.read b)).map single.write := fun _ _ => rfl
  have e2 : ∀ a b, floatBits .sub .f32 a b = ((single.read a).sum (single.read b).opposite).map single.write := fun _ _ => rfl
  have e3 : ∀ a b, floatBits .add .f32 a b = ((single.read a).sum (single.read b)).map single.write := fun _ _ => rfl
  unfold fbin
  rw [e1, e1, e2, e3, hn, product_opp]
  cases hp : (single.read w).product (single.read y) with
  | none =>
    simp only [Option.map_none, Option.getD_none]
    have hq : ∃ s t, single.read (qnan .f32) = .nan s t := by
      have : (single.read (qnan .f32)).isNaN = true := nanB_qnan .f32
      generalize single.read (qnan .f32) = d at this
      cases d <;> first | (cases this; done) | exact ⟨_, _, rfl⟩
    obtain ⟨s, t, hq⟩ := hq
    rw [hq]
    cases single.read x <;> simp [Datum.sum, Datum.opposite]
  | some d =>
    simp only [Option.map_some, Option.getD_some]
    rw [read_write_opp (product_num hp)]

/-! ### lifts -/
def addF (a b : Nat) : Nat := fbin .add .f32 a b
def mulF (a b : Nat) : Nat := fbin .mul .f32 a b
def wO (ev od : List Nat) (w : Nat) (j : Nat) : Nat := addF (od.getD j 0) (mulF w (addF (ev.getD j 0) (ev.getD (min (j + 1) (ev.length - 1)) 0)))
def wE (ev od : List Nat) (w : Nat) (j : Nat) : Nat := addF (ev.getD j 0) (mulF w (addF (od.getD (j - 1) 0) (od.getD (min j (od.length - 1)) 0)))
def weighF (k : Nat) (w : Nat) (p : List Nat × List Nat) : List Nat × List Nat :=
  if k % 2 = 0 then (p.1, (List.range p.2.length).map (wO p.1 p.2 w)) else ((List.range p.1.length).map (wE p.1 p.2 w), p.2)
theorem weighF_len1 (k w : Nat) (p : List Nat × List Nat) : (weighF k w p).1.length = p.1.length := by unfold weighF; split <;> simp
theorem weighF_len2 (k w : Nat) (p : List Nat × List Nat) : (weighF k w p).2.length = p.2.length := by unfold weighF; split <;> simp
/-- The first 'n' weights, in order. -/
def weighUp (ws : List Nat) (p : List Nat × List Nat) : Nat → List Nat × List Nat := foldI (fun k q => weighF k (ws.getD k 0) q) p
/-- The last 'n' weights, taken away. -/
def weighDown (ws : List Nat) (p : List Nat × List Nat) : Nat → List Nat × List Nat := foldI (fun k q => weighF (ws.length - 1 - k) (fneg .f32 (ws.getD (ws.length - 1 - k) 0)) q) p
theorem weighUp_len (ws : List Nat) (p : List Nat × List Nat) (n : Nat) : (weighUp ws p n).1.length = p.1.length ∧ (weighUp ws p n).2.length = p.2.length := by
  induction n with
  | zero => exact ⟨rfl, rfl⟩
  | succ n ih => exact ⟨(weighF_len1 _ _ _).trans ih.1, (weighF_len2 _ _ _).trans ih.2⟩
theorem weighDown_len (ws : List Nat) (p : List Nat × List Nat) (n : Nat) : (weighDown ws p n).1.length = p.1.length ∧ (weighDown ws p n).2.length = p.2.length := by
  induction n with
  | zero => exact ⟨rfl, rfl⟩
  | succ n ih => exact ⟨(weighF_len1 _ _ _).trans ih.1, (weighF_len2 _ _ _).trans ih.2⟩
def schemeF (ws : List Nat) (sc : Nat) : Bool := within ws.length 1 8 && ws.all finF && (finF sc && fcB .gtr .f32 sc 0)
def liftF (ws : List Nat) (sc : Nat) (xs : List Nat) : List Nat × List Nat :=
  if xs.length / 2 = 0 then (evL 0 xs xs.length, odL 0 xs xs.length) else
    let p := weighUp ws (evL 0 xs xs.length, odL 0 xs xs.length) ws.length
    (p.1.map fun x => fbin .mul .f32 x sc, p.2.map fun x => fbin .quo .f32 x sc)
def liftOkF (ws : List Nat) (sc : Nat) (xs : List Nat) : Bool := xs.length / 2 = 0 || ((liftF ws sc xs).1.all finF && (liftF ws sc xs).2.all finF)
def dropF (ws : List Nat) (sc : Nat) (ev od : List Nat) : List Nat :=
  if od.length = 0 then ev else
    let p := weighDown ws (ev.map fun x => fbin .quo .f32 x sc, od.map fun x => fbin .mul .f32 x sc) ws.length
    wovL 0 p.1 p.2 p.1.length
end Go.Gx
