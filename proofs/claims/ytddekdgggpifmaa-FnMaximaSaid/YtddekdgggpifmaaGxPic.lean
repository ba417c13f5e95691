/-
  What functions of pictures come to, in plain lists.
-/
import Derived.Test.YtddekdgggpifmaaGxOwn
namespace Go.Gx
set_option linter.unusedSimpArgs false
set_option linter.unusedVariables false

def tabL (n : Nat) (f : Nat → Nat) : List Nat := (List.range n).map f
theorem tabL_length (n : Nat) (f : Nat → Nat) : (tabL n f).length = n := by simp [tabL]
theorem tabL_zero (f : Nat → Nat) : tabL 0 f = [] := rfl
theorem tabL_succ (n : Nat) (f : Nat → Nat) : tabL (n + 1) f = tabL n f ++ [f n] := by simp [tabL, List.range_succ]
theorem tabL_getD {n i : Nat} {f : Nat → Nat} (h : i < n) : (tabL n f).getD i 0 = f i := getD_range_map h
theorem tabL_congr {n : Nat} {f g : Nat → Nat} (h : ∀ i, i < n → f i = g i) : tabL n f = tabL n g := by
  simp only [tabL]
  exact List.map_congr_left fun i hi => h i (List.mem_range.1 hi)
theorem tabL_all {n : Nat} {f : Nat → Nat} {p : Nat → Bool} : (tabL n f).all p = true ↔ ∀ i, i < n → p (f i) = true := by
  simp [tabL, List.all_eq_true]
theorem tabL_fin {n : Nat} {f : Nat → Nat} (h : ∀ i, i < n → finF (f i) = true) : (tabL n f).all finF = true := tabL_all.2 h
theorem fin_getD {xs : List Nat} (h : xs.all finF = true) {i : Nat} (hi : i < xs.length) : finF (xs.getD i 0) = true := all_getD.1 h i hi
theorem finF_zero : finF 0 = true := by decide +kernel
theorem fin_getD' {xs : List Nat} (h : xs.all finF = true) (i : Nat) : finF (xs.getD i 0) = true := by
  by_cases hi : i < xs.length
  · exact fin_getD h hi
  · have : xs.getD i 0 = 0 := by simp [List.getD_eq_getElem?_getD, List.getElem?_eq_none (Nat.le_of_not_lt hi)]
    rw [this]; exact finF_zero
/-- A picture's sides and what they come to. -/
theorem side_nat {a : Int} (h : within a 1 16 = true) : ∃ n : Nat, a = n ∧ 1 ≤ n ∧ n ≤ 16 := by
  rw [within_true] at h
  exact ⟨a.toNat, by omega, by omega, by omega⟩
theorem row_mod {w y x : Nat} (h : x < w) : (y * w + x) % w = x := by
  rw [Nat.mul_comm, Nat.mul_add_mod, Nat.mod_eq_of_lt h]
theorem row_div {w y x : Nat} (h : x < w) : (y * w + x) / w = y := by
  have hw : 0 < w := by omega
  rw [Nat.mul_comm, Nat.mul_add_div hw, Nat.div_eq_of_lt h]; rfl
theorem row_lt {w h y x : Nat} (hx : x < w) (hy : y < h) : y * w + x < w * h := by
  have : (y + 1) * w ≤ h * w := Nat.mul_le_mul_right _ hy
  rw [Nat.mul_comm w h]
  have e : (y + 1) * w = y * w + w := by rw [Nat.add_mul, Nat.one_mul]
  omega
theorem tmodN (i w : Nat) : ((i : Int)).tmod (w : Int) = ((i % w : Nat) : Int) := by
  rw [Int.tmod_eq_emod_of_nonneg (by omega)]; simp
theorem tdivN (i w : Nat) : ((i : Int)).tdiv (w : Int) = ((i / w : Nat) : Int) := by
  rw [Int.tdiv_eq_ediv_of_nonneg (by omega)]; simp
theorem mulN (w h : Nat) : (w : Int) * (h : Int) = ((w * h : Nat) : Int) := (Int.natCast_mul w h).symm
theorem wrN (n : Nat) (h : n ≤ 9223372036854775807) : IntKind.wrap .i64 (n : Int) = n := w64 _ (by omega) (by omega)
def stepF (w : Nat) (at' : Int) (l r : Nat) (i : Nat) : Nat := if ((i % w : Nat) : Int) < at' then l else r
def stepOk (w h a : Int) (l r : Nat) : Bool := within w 1 16 && within h 1 16 && within a 0 16 && finF l && finF r
theorem step_fin {n w : Nat} {a : Int} {l r : Nat} (hl : finF l = true) (hr : finF r = true) : (tabL n (stepF w a l r)).all finF = true := tabL_fin fun i _ => by
  unfold stepF
  split
  · exact hl
  · exact hr
def partOk (a c : Int) (xs : List Nat) (x y w h : Int) : Bool := validPicF a c xs && within x 0 (a - 1) && within y 0 (c - 1) && within w 1 (a - x) && within h 1 (c - y)
theorem valid_sides {a c : Int} {xs : List Nat} (h : validPicF a c xs = true) : ∃ w g : Nat, a = w ∧ c = g ∧ 1 ≤ w ∧ w ≤ 16 ∧ 1 ≤ g ∧ g ≤ 16 ∧ xs.length = w * g ∧ xs.all finF = true := by
  unfold validPicF at h
  simp only [Bool.and_eq_true, decide_eq_true_eq] at h
  obtain ⟨w, rfl, h1, h2⟩ := side_nat h.1.1.1
  obtain ⟨g, rfl, h3, h4⟩ := side_nat h.1.1.2
  refine ⟨w, g, rfl, rfl, h1, h2, h3, h4, ?_, h.2⟩
  have := h.1.2
  have e : ((w * g : Nat) : Int) = (w : Int) * g := Int.natCast_mul _ _
  omega
theorem mul_le_256 {w g : Nat} (h : w ≤ 16) (h' : g ≤ 16) : w * g ≤ 256 := by
  have := Nat.mul_le_mul h h'
  omega
theorem valid_len {a c : Int} {xs : List Nat} (h : validPicF a c xs = true) : xs.length ≤ 256 := by
  obtain ⟨w, g, _, _, _, h2, _, h4, h5, _⟩ := valid_sides h
  rw [h5]; exact mul_le_256 h2 h4
theorem valid_mk {w g : Nat} {xs : List Nat} (h1 : 1 ≤ w) (h2 : w ≤ 16) (h3 : 1 ≤ g) (h4 : g ≤ 16) (hl : xs.length = w * g) (hf : xs.all finF = true) : validPicF w g xs = true := by
  have e : ((w * g : Nat) : Int) = (w : Int) * g := Int.natCast_mul _ _
  unfold validPicF
  rw [within_true.2 ⟨by omega, by omega⟩, within_true.2 ⟨by omega, by omega⟩, hf, decide_eq_true (by omega)]
  rfl
/-- A part's place among the lights. -/
def cropF (a : Nat) (xs : List Nat) (x y w : Nat) (i : Nat) : Nat := xs.getD ((y + i / w) * a + x + i % w) 0
def swapF (a c : Nat) (xs : List Nat) (i : Nat) : Nat := xs.getD (i % c * a + i / c) 0
def leastF (x : Nat) : Bool := finF x && fcB .geq .f32 x 0
def overF (x : Nat) : Bool := finF x && fcB .gtr .f32 x 0
def shareF (x : Nat) : Bool := fcB .geq .f32 x 0 && fcB .leq .f32 x 1065353216
def picV (ok : Bool) (a c : Int) (v : Value) : Value := .tuple #[if ok = true then .agg #[.int .i64 a, .int .i64 c, v] else .agg #[.int .i64 0, .int .i64 0, .slice none 0 0], .bool ok]
def listV (ok : Bool) (v : Value) : Value := .tuple #[if ok = true then v else .slice none 0 0, .bool ok]
def alikeF (a c : Int) (xs : List Nat) (b d : Int) (ys : List Nat) : Bool := validPicF a c xs && validPicF b d ys && decide (a = b) && decide (c = d)
/-- A place that is coarse. -/
def coarseF (w h l : Int) (i : Nat) : Bool := decide ((i : Int) % w < halfN w l.toNat) && decide ((i : Int) / w < halfN h l.toNat)
def inF (a c x y w h : Int) : Bool := within w 1 16 && within h 1 16 && within x 0 (a - w) && within y 0 (c - h)
theorem part_in {a c : Int} {xs : List Nat} {x y w h : Int} (hv : validPicF a c xs = true) : partOk a c xs x y w h = inF a c x y w h := by
  obtain ⟨m, n, rfl, rfl, h1, h2, h3, h4, _, _⟩ := valid_sides hv
  unfold partOk inF
  rw [hv]
  simp only [within, Bool.true_and]
  rw [Bool.eq_iff_iff]
  simp only [Bool.and_eq_true, decide_eq_true_eq]
  constructor <;> intro h <;> omega
end Go.Gx
