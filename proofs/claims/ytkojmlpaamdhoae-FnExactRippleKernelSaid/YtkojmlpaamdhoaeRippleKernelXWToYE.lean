/- What the functions of the program do: contracts that are proved. -/
import Derived.Test.YtkojmlpaamdhoaeRippleKernelAToXV
namespace Go.Proofs.Ytkojmlpaamdhoae
open Go.Gx
set_option maxRecDepth 100000
set_option linter.unusedSimpArgs false
set_option linter.unusedVariables false

def rootN (x : Nat) : Nat := (f2f .f64 (sqrtF (f64 x)) .f32).getD 0
theorem acv_root {x : Nat} : acv (.f .f32) (.float .f64 (sqrtF (f64 x))) = some (.float .f32 (rootN x)) := by
  obtain ⟨r, hr⟩ := sqrt_narrow x
  show (f2f .f64 _ .f32).map _ = _
  unfold rootN
  rw [hr]
  rfl
def difF (xs ys : List Nat) (i : Nat) : Nat := fbin .sub .f32 (xs.getD i 0) (ys.getD i 0)
def difS (xs ys : List Nat) : Nat → Nat := foldI (fun i s => fbin .add .f32 s (fbin .mul .f32 (difF xs ys i) (difF xs ys i))) 0
theorem difS_succ (xs ys : List Nat) (i : Nat) : difS xs ys (i + 1) = fbin .add .f32 (difS xs ys i) (fbin .mul .f32 (difF xs ys i) (difF xs ys i)) := rfl
theorem difS_all (xs ys : List Nat) (n : Nat) : squaresF (tabL n (difF xs ys)) = difS xs ys n := by
  unfold squaresF
  rw [tabL_length]
  have : ∀ k, k ≤ n → foldI (fun i s => fbin .add .f32 s (fbin .mul .f32 ((tabL n (difF xs ys)).getD i 0) ((tabL n (difF xs ys)).getD i 0))) 0 k = difS xs ys k := by
    intro k
    induction k with
    | zero => intro _; rfl
    | succ k ih =>
      intro hk
      rw [foldI_succ, ih (by omega), tabL_getD (by omega), difS_succ]
  exact this n (Nat.le_refl _)
def farF (xs ys : List Nat) : Nat := rootN (fbin .quo .f32 (difS xs ys xs.length) (i2f .f32 xs.length))
def farN (a c : Int) (xs : List Nat) (b d : Int) (ys : List Nat) : Nat := if alikeF a c xs b d ys = true then (if finF (farF xs ys) = true then farF xs ys else 0) else 0
def farB (a c : Int) (xs : List Nat) (b d : Int) (ys : List Nat) : Bool := alikeF a c xs b d ys && finF (farF xs ys)
theorem s_l01Narrow_ok {H : Heap} {y r0 : Nat} (h : acv (.f .f32) (.float .f64 y) = some (.float .f32 r0)) : ACalls Try.prog n_s_l01Narrow [.float .f64 y] H fun r H' => r = .float .f32 r0 ∧ H' = H := by
  refine k_s_l01Narrow.run rfl ?_
  unfold c_s_l01Narrow
  simp (disch := first | assumption | omega | rfl | (refine id ?_; simp only [gxD, ne_eq, reduceCtorEq, not_false_eq_true, Nat.reduceAdd, *]; done) | (refine id ?_; simp only [gxD]; omega)) only [↓gxPre, gxPost, ↓reduceIte, Nat.reduceEqDiff, reduceCtorEq, Nat.reduceAdd, h]
end Go.Proofs.Ytkojmlpaamdhoae

namespace Go.Proofs.Ytkojmlpaamdhoae
open Go.Gx
set_option maxRecDepth 100000
set_option linter.unusedSimpArgs false
set_option linter.unusedVariables false

theorem finW_neq {k : FloatKind} {x : Nat} (h : FinW k x) : fcB .neq k x x = false := by
  obtain ⟨A, B, P, hP, h1, h2, h3⟩ := order_val h h
  have hAB : A = B := by
    rcases Int.lt_trichotomy A B with c | c | c
    · have := (mul_lt_iff hP).2 c
      rw [← h1, ← h2] at this
      exact absurd this Rat.lt_irrefl
    · exact c
    · have := (mul_lt_iff hP).2 c
      rw [← h1, ← h2] at this
      exact absurd this Rat.lt_irrefl
  unfold fcB fcmp
  simp only [h3, hAB, Int.compare_eq_eq.2 rfl]
  rfl
theorem fcB_eql {k : FloatKind} {x y : Nat} (hx : FinW k x) (hy : FinW k y) : fcB .eql k x y = decide (fval k x = fval k y) := by
  obtain ⟨A, B, P, hP, h1, h2, h3⟩ := order_val hx hy
  unfold fcB fcmp
  simp only [h3]
  rw [Bool.eq_iff_iff, decide_eq_true_eq, h1, h2]
  rcases Int.lt_trichotomy A B with c | c | c
  · have h5 := (mul_lt_iff hP).2 c
    have : compare A B = .lt := Int.compare_eq_lt.2 c
    simp only [this]
    constructor
    · intro h; simp at h
    · intro h; rw [h] at h5; exact absurd h5 Rat.lt_irrefl
  · subst c
    simp only [Int.compare_eq_eq.2 rfl]
    simp
  · have h5 := (mul_lt_iff hP).2 c
    have : compare A B = .gt := Int.compare_eq_gt.2 c
    simp only [this]
    constructor
    · intro h; simp at h
    · intro h; rw [h] at h5; exact absurd h5 Rat.lt_irrefl
theorem fval_least {x : Nat} (h : FinW .f32 x) (h0 : 0 < fval .f32 x) : p2 (-149) ≤ fval .f32 x := by
  obtain ⟨n, j, hn, _, hj⟩ := h.rep
  rw [hn] at h0 ⊢
  have hl : FloatKind.f32.format.leastPlace = -149 := by decide
  rw [hl] at hj
  have hp := p2_pos j
  have hn1 : 1 ≤ n := by
    rcases ilg 0 n with c | c
    · omega
    · exfalso
      have h1 := Rat.mul_le_mul_of_nonneg_right (Rat.intCast_le_intCast.2 c) (Rat.le_of_lt hp)
      have h2 : ((0 : Int) : Rat) * p2 j = 0 := Rat.zero_mul _
      rw [h2] at h1
      grind_linarith
  have h1 := Rat.mul_le_mul_of_nonneg_right (Rat.intCast_le_intCast.2 hn1) (Rat.le_of_lt hp)
  have h2 : ((1 : Int) : Rat) * p2 j = p2 j := Rat.one_mul _
  rw [h2] at h1
  exact Rat.le_trans (p2_le hj) h1
/-- The logarithm, narrow, of numbers that aren't negative. -/
def logR (x : Nat) : Nat := if fcB .eql .f32 x 0 = true then 4286578688 else (f2f .f64 (logW (f64 x)) .f32).getD 0
def logV (y : Nat) : Nat := if fcB .eql .f64 y 0 = true then 18442240474082181120 else logW y
theorem zero64_val : FinW .f64 0 ∧ fval .f64 0 = 0 := by
  have h : (0 : Nat) = i2f .f64 0 := by decide +kernel
  rw [h]; exact i2f_fval (by decide)
theorem eql_wide {x : Nat} (h : FinW .f32 x) : fcB .eql .f64 (f64 x) 0 = fcB .eql .f32 x 0 := by
  obtain ⟨a, b⟩ := f64_fin h
  rw [fcB_eql a zero64_val.1, fcB_eql h finW_zero.1, b, zero64_val.2, finW_zero.2]
theorem log_dom {x : Nat} (h : FinW .f32 x) (h0 : 0 ≤ fval .f32 x) (hz : fcB .eql .f32 x 0 = false) : FinW .f64 (f64 x) ∧ p2 (-149) ≤ fval .f64 (f64 x) ∧ fval .f64 (f64 x) ≤ p2 128 := by
  obtain ⟨a, b⟩ := f64_fin h
  rw [fcB_eql h finW_zero.1, finW_zero.2] at hz
  have hne := of_decide_eq_false hz
  have hb := h.bd
  have ht := top64
  unfold Bd at hb
  rw [b]
  refine ⟨a, fval_least h ?_, by grind_linarith⟩
  exact Rat.lt_of_le_of_ne h0 (Ne.symm hne)
theorem acv_log {x : Nat} (h : FinW .f32 x) (h0 : 0 ≤ fval .f32 x) (hz : fcB .eql .f32 x 0 = false) : acv (.f .f32) (.float .f64 (logW (f64 x))) = some (.float .f32 (logR x)) := by
  obtain ⟨a, b, c⟩ := log_dom h h0 hz
  obtain ⟨w, hw, _⟩ := Bn_narrow (logW_bn a b c) (by decide)
  show (f2f .f64 _ .f32).map _ = _
  unfold logR
  rw [hz, hw]
  rfl
theorem acv_ninf : acv (.f .f32) (.float .f64 18442240474082181120) = some (.float .f32 4286578688) := by
  have : f2f .f64 18442240474082181120 .f32 = some 4286578688 := by decide +kernel
  have h : acv (.f .f32) (.float .f64 18442240474082181120) = (f2f .f64 18442240474082181120 .f32).map (.float .f32) := rfl
  rw [h, this]
  rfl
theorem not_inf {y : Nat} (h : FinW .f64 y) : fcB .gtr .f64 y 9218868437227405311 = false := by
  have hd : FloatKind.f64.decode 9218868437227405311 = .number false 9007199254740991 971 := by decide +kernel
  have hv : fval .f64 9218868437227405311 = topK .f64 := by
    unfold fval
    rw [hd, dval_number, sg_false, Rat.one_mul]
    rfl
  rw [fcB_gtr h ⟨_, _, _, hd⟩, hv]
  have hb := h.bd
  unfold Bd at hb
  exact decide_eq_false (by intro hh; grind_linarith)
theorem from_ninf : aFrom64 (.int .u64 18442240474082181120) = some (.float .f64 18442240474082181120) := by
  have h : canon .f64 18442240474082181120 = 18442240474082181120 := by decide +kernel
  show some (Value.float .f64 (canon .f64 18442240474082181120)) = _
  rw [h]
theorem i2f_up {t : Nat} (ht : t ≤ 300) : fbin .add .f64 (i2f .f64 (t : Int)) 4607182418800017408 = i2f .f64 ((t + 1 : Nat) : Int) := by
  have h := add_one64 ⟨t + 400, by omega⟩
  simp only at h
  rw [show ((t + 400 : Nat) : Int) - 400 = t by omega, show ((t + 400 : Nat) : Int) - 399 = ((t + 1 : Nat) : Int) by omega] at h
  exact h
theorem i2f_dn {n : Int} (h1 : -300 ≤ n) (h2 : n ≤ 300) : fbin .sub .f64 (i2f .f64 n) 4607182418800017408 = i2f .f64 (n - 1) := by
  have h := sub_one64 ⟨(n + 400).toNat, by omega⟩
  simp only at h
  rw [show (((n + 400).toNat : Nat) : Int) - 400 = n by omega, show (((n + 400).toNat : Nat) : Int) - 401 = n - 1 by omega] at h
  exact h
theorem i2f_dn2 {n : Int} (h1 : -10 ≤ n) (h2 : n ≤ 30) : fbin .sub .f64 (i2f .f64 n) 4611686018427387904 = i2f .f64 (n - 2) := by
  have h := sub_two64 ⟨(n + 20).toNat, by omega⟩
  simp only at h
  rw [show (((n + 20).toNat : Nat) : Int) - 20 = n by omega, show (((n + 20).toNat : Nat) : Int) - 22 = n - 2 by omega] at h
  exact h
theorem i2f_geq {n : Int} (h1 : -10 ≤ n) (h2 : n ≤ 30) : fcB .geq .f64 (i2f .f64 n) 4607182418800017408 = decide (1 ≤ n) := by
  have h := geq_one64 ⟨(n + 20).toNat, by omega⟩
  simp only at h
  rw [show (((n + 20).toNat : Nat) : Int) - 20 = n by omega] at h
  exact h
theorem i2f_25 : i2f .f64 25 = 4627730092099895296 := by decide +kernel
theorem m_Inf_ok {H : Heap} : ACalls Try.prog n_m_Inf [.int .i64 (-1)] H fun r H' => r = .float .f64 18442240474082181120 ∧ H' = H := by
  refine k_m_Inf.run rfl ?_
  unfold c_m_Inf
  simp (disch := first | assumption | omega | rfl | (refine id ?_; simp only [gxD, ne_eq, reduceCtorEq, not_false_eq_true, Nat.reduceAdd, *]; done) | (refine id ?_; simp only [gxD]; omega)) only [↓gxPre, gxPost, ↓reduceIte, Nat.reduceEqDiff, reduceCtorEq, Nat.reduceAdd, from_ninf]
theorem m_IsInf_ok {H : Heap} {y : Nat} : ACalls Try.prog n_m_IsInf [.float .f64 y, .int .i64 1] H fun r H' => r = .bool (fcB .gtr .f64 y 9218868437227405311) ∧ H' = H := by
  refine k_m_IsInf.run rfl ?_
  unfold c_m_IsInf
  simp (disch := first | assumption | omega | rfl | (refine id ?_; simp only [gxD, ne_eq, reduceCtorEq, not_false_eq_true, Nat.reduceAdd, *]; done) | (refine id ?_; simp only [gxD]; omega)) only [↓gxPre, gxPost, ↓reduceIte, Nat.reduceEqDiff, reduceCtorEq, Nat.reduceAdd]
end Go.Proofs.Ytkojmlpaamdhoae

namespace Go.Proofs.Ytkojmlpaamdhoae
open Go.Gx
set_option maxRecDepth 100000
set_option linter.unusedSimpArgs false
set_option linter.unusedVariables false

def avgF (p : List Nat) (ys : List (List Nat)) (i : Nat) : Nat := fbin .quo .f32 (p.getD i 0) (i2f .f32 ((ys.getD i []).length : Int))
def ruY (p : List Nat) (ys : List (List Nat)) (i : Nat) : Nat := fbin .quo .f32 (logR (avgF p ys i)) 1060205080
def ruA : Nat → Nat := foldI (fun i s => fbin .add .f32 s (i2f .f32 (i : Int))) 0
def ruB (p : List Nat) (ys : List (List Nat)) : Nat → Nat := foldI (fun i s => fbin .add .f32 s (ruY p ys i)) 0
def ruC : Nat → Nat := foldI (fun i s => fbin .add .f32 s (fbin .mul .f32 (i2f .f32 (i : Int)) (i2f .f32 (i : Int)))) 0
def ruD (p : List Nat) (ys : List (List Nat)) : Nat → Nat := foldI (fun i s => fbin .add .f32 s (fbin .mul .f32 (i2f .f32 (i : Int)) (ruY p ys i))) 0
def ruF (p : List Nat) (ys : List (List Nat)) (n : Nat) : Nat := fbin .quo .f32 (fbin .sub .f32 (fbin .mul .f32 (i2f .f32 (n : Int)) (ruD p ys n)) (fbin .mul .f32 (ruA n) (ruB p ys n))) (fbin .sub .f32 (fbin .mul .f32 (i2f .f32 (n : Int)) (ruC n)) (fbin .mul .f32 (ruA n) (ruA n)))
def ruOk (xs : List Nat) (ys : List (List Nat)) : Bool := validBandsF xs ys && (powersF xs ys).all finF && decide (2 ≤ ys.length) && (List.range ys.length).all fun i => fcB .gtr .f32 ((powersF xs ys).getD i 0) 0
def ruN (xs : List Nat) (ys : List (List Nat)) : Nat := if (ruOk xs ys && finF (ruF (powersF xs ys) ys ys.length)) = true then ruF (powersF xs ys) ys ys.length else 0
def ruV (xs : List Nat) (ys : List (List Nat)) : Bool := ruOk xs ys && finF (ruF (powersF xs ys) ys ys.length)
theorem avg_dom {p : List Nat} {ys : List (List Nat)} {i : Nat} (hf : finF (p.getD i 0) = true) (hp : fcB .gtr .f32 (p.getD i 0) 0 = true) (h1 : 1 ≤ (ys.getD i []).length) (h2 : (ys.getD i []).length ≤ 64) : FinW .f32 (avgF p ys i) ∧ 0 ≤ fval .f32 (avgF p ys i) := by
  have fx := finW_of hf
  rw [fcB_gtr fx finW_zero.1, finW_zero.2] at hp
  have hp := of_decide_eq_true hp
  have ht := top32
  have ht2 : (1 : Rat) ≤ p2 127 := by rw [← p2_zero]; exact p2_le (by decide)
  have h64 : p2 6 ≤ p2 127 := p2_le (by decide)
  have e64 : p2 6 = ((64 : Nat) : Rat) := p2_nat 6
  have hl1 : (1 : Rat) ≤ (((ys.getD i []).length : Int) : Rat) := by
    have : ((1 : Int) : Rat) ≤ (((ys.getD i []).length : Int) : Rat) := Rat.intCast_le_intCast.2 (by omega)
    exact this
  have hl2 : (((ys.getD i []).length : Int) : Rat) ≤ ((64 : Nat) : Rat) := by
    have : (((ys.getD i []).length : Int) : Rat) ≤ ((64 : Int) : Rat) := Rat.intCast_le_intCast.2 (by omega)
    exact this
  have g := i2f_val (k := .f32) (n := ((ys.getD i []).length : Int)) (by unfold Bd; constructor <;> grind_linarith)
  have hB : 2 * FloatKind.f32.format.binade = 16777216 := by decide
  have hv := g.exact (Rep.int (by decide) _ (by omega))
  unfold avgF
  rw [← hv] at hl1 hl2
  have gw := g.1
  generalize i2f .f32 ((ys.getD i []).length : Int) = l at *
  have hl0 : fval .f32 l ≠ 0 := by
    intro h
    rw [h] at hl1
    grind_linarith
  have hq : fval .f32 (p.getD i 0) / fval .f32 l * fval .f32 l = fval .f32 (p.getD i 0) := Rat.div_mul_cancel hl0
  have hlp : 0 < fval .f32 l := by grind_linarith
  generalize hqq : fval .f32 (p.getD i 0) / fval .f32 l = q at hq
  have q0 : 0 ≤ q := by
    refine Rat.le_of_mul_le_mul_right (c := fval .f32 l) ?_ hlp
    rw [hq]
    grind_linarith
  have q1 : q ≤ fval .f32 (p.getD i 0) := by
    have := Rat.mul_le_mul_of_nonneg_left hl1 q0
    grind_linarith
  have bx := fx.bd
  unfold Bd at bx
  have gg := fdiv_val fx gw hl0 hq (by unfold Bd; constructor <;> grind_linarith)
  exact ⟨gg.1, gg.ge (Rep.int (by decide) 0 (by decide)) q0⟩
theorem ru_no {xs : List Nat} {ys : List (List Nat)} (h : ruOk xs ys = false) : ruN xs ys = 0 ∧ ruV xs ys = false := by simp [ruN, ruV, h]
end Go.Proofs.Ytkojmlpaamdhoae

namespace Go.Proofs.Ytkojmlpaamdhoae
open Go.Gx
set_option maxRecDepth 100000
set_option linter.unusedSimpArgs false
set_option linter.unusedVariables false

theorem i2f_dn1 {n : Int} (h1 : -10 ≤ n) (h2 : n ≤ 30) : fbin .sub .f64 (i2f .f64 n) 4607182418800017408 = i2f .f64 (n - 1) := i2f_dn (by omega) (by omega)
theorem i2f_12 : i2f .f64 12 = 4622945017495814144 := by decide +kernel
theorem i2f_8 : i2f .f64 8 = 4620693217682128896 := by decide +kernel
theorem not_200 {y : Nat} (hy : FinW .f64 y) (h0 : fval .f64 y ≤ 0) : fcB .gtr .f64 y 4641240890982006784 = false := by
  have hm : FinW .f64 4641240890982006784 ∧ fval .f64 4641240890982006784 = ((200 : Int) : Rat) := by rw [c200]; exact i2f_fval (by decide)
  rw [fcB_gtr hy hm.1, hm.2]
  have e : ((200 : Int) : Rat) = 200 := rfl
  rw [e]
  exact decide_eq_false (by intro h; grind_linarith)
theorem acv_trunc {x : Nat} {n : Int} (h : f2i .f64 x .i64 = some n) : acv (.i .i64) (.float .f64 x) = some (.int .i64 n) := by
  show (f2i .f64 x .i64).map _ = _
  rw [h]
  rfl
theorem fin_sub {x : Nat} (h : FinW .f64 x) : fcB .eql .f64 (fbin .sub .f64 x x) 0 = true ∧ fcB .neq .f64 (fbin .sub .f64 x x) 0 = false := by
  have g := fsub_val h h (by
    have hp := top_nat (show 0 ≤ 1048576 by decide)
    have e : (((0 : Nat) : Int) : Rat) = 0 := rfl
    rw [e] at hp
    unfold Bd
    constructor <;> grind_linarith)
  have hv : fval .f64 (fbin .sub .f64 x x) = 0 := by
    have e : fval .f64 x - fval .f64 x = 0 := by grind_linarith
    rw [e] at g
    exact g.exact r0
  have h1 : fcB .eql .f64 (fbin .sub .f64 x x) 0 = true := by
    rw [fcB_eql g.1 zero64_val.1, hv, zero64_val.2]
    exact decide_eq_true rfl
  refine ⟨h1, ?_⟩
  have h2 : fcB .neq .f64 (fbin .sub .f64 x x) 0 = !fcB .eql .f64 (fbin .sub .f64 x x) 0 := rfl
  rw [h2, h1]
  rfl
theorem i_expWide_ok {H : Heap} {y : Nat} (hy : FinW .f64 y) (h0 : fval .f64 y ≤ 0) : ACalls Try.prog n_i_expWide [.float .f64 y] H fun r H' => r = .float .f64 (expW y) ∧ H' = H := by
  refine k_i_expWide.run rfl ?_
  unfold c_i_expWide
  have hn := not_200 hy h0
  cases hl : fcB .lss .f64 y 13864612927836782592
  rotate_left
  · simp (disch := first | assumption | omega | rfl | (refine id ?_; simp only [gxD, ne_eq, reduceCtorEq, not_false_eq_true, Nat.reduceAdd, *]; done) | (refine id ?_; simp only [gxD]; omega)) only [↓gxPre, gxPost, ↓reduceIte, Nat.reduceEqDiff, reduceCtorEq, Nat.reduceAdd, hn, hl]
    simp [expW, hl]
  have hW : expW y = expV y := by unfold expW; rw [hl]; rfl
  rw [hW]
  simp (disch := first | assumption | omega | rfl | (refine id ?_; simp only [gxD, ne_eq, reduceCtorEq, not_false_eq_true, Nat.reduceAdd, *]; done) | (refine id ?_; simp only [gxD]; omega)) only [↓gxPre, gxPost, ↓reduceIte, Nat.reduceEqDiff, reduceCtorEq, Nat.reduceAdd, hn, hl]
  refine loop_for 12 (fun j => [.float .f64 (fbin .quo .f64 y 4643211215818981376), .float .f64 (expP (fbin .quo .f64 y 4643211215818981376) j), .float .f64 (i2f .f64 (12 - (j : Int)))]) (by simp only [Int.natCast_zero, Int.sub_zero, i2f_12]; rfl) ?_ ?_
  rotate_left
  · intro j hj
    have hg := i2f_geq (n := 12 - (j : Int)) (by omega) (by omega)
    rw [decide_eq_true (by omega)] at hg
    have hs := i2f_dn1 (n := 12 - (j : Int)) (by omega) (by omega)
    rw [show 12 - (j : Int) - 1 = 12 - ((j + 1 : Nat) : Int) by omega] at hs
    simp (disch := first | assumption | omega | rfl | (refine id ?_; simp only [gxD, ne_eq, reduceCtorEq, not_false_eq_true, Nat.reduceAdd, *]; done) | (refine id ?_; simp only [gxD]; omega)) only [↓gxPre, gxPost, ↓reduceIte, Nat.reduceEqDiff, reduceCtorEq, Nat.reduceAdd, hg, hs]
    rfl
  have hg := i2f_geq (n := 12 - ((12 : Nat) : Int)) (by omega) (by omega)
  rw [decide_eq_false (by omega)] at hg
  simp (disch := first | assumption | omega | rfl | (refine id ?_; simp only [gxD, ne_eq, reduceCtorEq, not_false_eq_true, Nat.reduceAdd, *]; done) | (refine id ?_; simp only [gxD]; omega)) only [↓gxPre, gxPost, ↓reduceIte, Nat.reduceEqDiff, reduceCtorEq, Nat.reduceAdd, hg]
  refine loop_for 8 (fun j => [.float .f64 (expQ (expP (fbin .quo .f64 y 4643211215818981376) 12) j), .int .i64 j]) rfl ?_ ?_
  · simp (disch := first | assumption | omega | rfl | (refine id ?_; simp only [gxD, ne_eq, reduceCtorEq, not_false_eq_true, Nat.reduceAdd, *]; done) | (refine id ?_; simp only [gxD]; omega)) only [↓gxPre, gxPost, ↓reduceIte, Nat.reduceEqDiff, reduceCtorEq, Nat.reduceAdd, Int.lt_irrefl]
    rfl
  · intro j hj
    have c : (j : Int) < 8 := by omega
    simp (disch := first | assumption | omega | rfl | (refine id ?_; simp only [gxD, ne_eq, reduceCtorEq, not_false_eq_true, Nat.reduceAdd, *]; done) | (refine id ?_; simp only [gxD]; omega)) only [↓gxPre, gxPost, ↓reduceIte, Nat.reduceEqDiff, reduceCtorEq, Nat.reduceAdd, c]
    simp [expQ]
theorem i_expOf_ok {H : Heap} {x : Nat} (hx : FinW .f32 x) (h0 : fval .f32 x ≤ 0) : ACalls Try.prog n_i_expOf [.float .f32 x] H fun r H' => r = .float .f64 (expW (f64 x)) ∧ H' = H := by
  refine k_i_expOf.run rfl ?_
  unfold c_i_expOf
  obtain ⟨a, b⟩ := f64_fin hx
  simp (disch := first | assumption | omega | rfl | (refine id ?_; simp only [gxD, ne_eq, reduceCtorEq, not_false_eq_true, Nat.reduceAdd, *]; done) | (refine id ?_; simp only [gxD]; omega)) only [↓gxPre, gxPost, ↓reduceIte, Nat.reduceEqDiff, reduceCtorEq, Nat.reduceAdd]
  refine callR_pure (i_expWide_ok a (by rw [b]; exact h0)) (.inl rfl) ?_
  simp (disch := first | assumption | omega | rfl | (refine id ?_; simp only [gxD, ne_eq, reduceCtorEq, not_false_eq_true, Nat.reduceAdd, *]; done) | (refine id ?_; simp only [gxD]; omega)) only [↓gxPre, gxPost, ↓reduceIte, Nat.reduceEqDiff, reduceCtorEq, Nat.reduceAdd]
def expR (x : Nat) : Nat := (f2f .f64 (expW (f64 x)) .f32).getD 0
theorem acv_exp {x : Nat} (hx : FinW .f32 x) (h0 : fval .f32 x ≤ 0) : acv (.f .f32) (.float .f64 (expW (f64 x))) = some (.float .f32 (expR x)) := by
  obtain ⟨a, b⟩ := f64_fin hx
  obtain ⟨c, d, e⟩ := expW_in a (by rw [b]; exact h0)
  have hp := p2_le (show (0 : Int) ≤ 127 by decide)
  have ht := top32
  rw [p2_zero] at hp
  obtain ⟨w, hw, _⟩ := f2f_fin c (by unfold Bd; constructor <;> grind_linarith)
  show (f2f .f64 _ .f32).map _ = _
  unfold expR
  rw [hw]
  rfl
theorem i_ExpNumber_ok {H : Heap} {x : Nat} (hx : FinW .f32 x) (h0 : fval .f32 x ≤ 0) : ACalls Try.prog n_i_ExpNumber [.float .f32 x] H fun r H' => r = .float .f32 (expR x) ∧ H' = H := by
  refine k_i_ExpNumber.run rfl ?_
  unfold c_i_ExpNumber
  simp (disch := first | assumption | omega | rfl | (refine id ?_; simp only [gxD, ne_eq, reduceCtorEq, not_false_eq_true, Nat.reduceAdd, *]; done) | (refine id ?_; simp only [gxD]; omega)) only [↓gxPre, gxPost, ↓reduceIte, Nat.reduceEqDiff, reduceCtorEq, Nat.reduceAdd]
  refine callR_pure (i_expOf_ok hx h0) (.inl rfl) ?_
  have ha := acv_exp hx h0
  simp (disch := first | assumption | omega | rfl | (refine id ?_; simp only [gxD, ne_eq, reduceCtorEq, not_false_eq_true, Nat.reduceAdd, *]; done) | (refine id ?_; simp only [gxD]; omega)) only [↓gxPre, gxPost, ↓reduceIte, Nat.reduceEqDiff, reduceCtorEq, Nat.reduceAdd, ha]
theorem s_l01ExpWide_ok {H : Heap} {y : Nat} (hy : FinW .f64 y) (h0 : fval .f64 y ≤ 0) : ACalls Try.prog n_s_l01ExpWide [.float .f64 y] H fun r H' => r = .float .f64 (expW y) ∧ H' = H := by
  refine k_s_l01ExpWide.run rfl ?_
  unfold c_s_l01ExpWide
  have hn := not_200 hy h0
  have hnn := finW_neq hy
  cases hl : fcB .lss .f64 y 13864612927836782592
  rotate_left
  · simp (disch := first | assumption | omega | rfl | (refine id ?_; simp only [gxD, ne_eq, reduceCtorEq, not_false_eq_true, Nat.reduceAdd, *]; done) | (refine id ?_; simp only [gxD]; omega)) only [↓gxPre, gxPost, ↓reduceIte, Nat.reduceEqDiff, reduceCtorEq, Nat.reduceAdd, hn, hl, hnn]
    simp [expW, hl]
  have hW : expW y = expV y := by unfold expW; rw [hl]; rfl
  rw [hW]
  simp (disch := first | assumption | omega | rfl | (refine id ?_; simp only [gxD, ne_eq, reduceCtorEq, not_false_eq_true, Nat.reduceAdd, *]; done) | (refine id ?_; simp only [gxD]; omega)) only [↓gxPre, gxPost, ↓reduceIte, Nat.reduceEqDiff, reduceCtorEq, Nat.reduceAdd, hn, hl, hnn]
  refine loop_for 12 (fun j => [.float .f64 (fbin .quo .f64 y 4643211215818981376), .float .f64 (expP (fbin .quo .f64 y 4643211215818981376) j), .int .i64 (12 - (j : Int))]) (by simp only [Int.natCast_zero, Int.sub_zero]; rfl) ?_ ?_
  rotate_left
  · intro j hj
    have hg : (1 : Int) ≤ 12 - (j : Int) := by omega
    simp (disch := first | assumption | omega | rfl | (refine id ?_; simp only [gxD, ne_eq, reduceCtorEq, not_false_eq_true, Nat.reduceAdd, *]; done) | (refine id ?_; simp only [gxD]; omega)) only [↓gxPre, gxPost, ↓reduceIte, Nat.reduceEqDiff, reduceCtorEq, Nat.reduceAdd, hg]
    simp [expP]
    omega
  have hg : ¬ (1 : Int) ≤ 12 - ((12 : Nat) : Int) := by omega
  simp (disch := first | assumption | omega | rfl | (refine id ?_; simp only [gxD, ne_eq, reduceCtorEq, not_false_eq_true, Nat.reduceAdd, *]; done) | (refine id ?_; simp only [gxD]; omega)) only [↓gxPre, gxPost, ↓reduceIte, Nat.reduceEqDiff, reduceCtorEq, Nat.reduceAdd, hg]
  refine loop_for 8 (fun j => [.float .f64 (expQ (expP (fbin .quo .f64 y 4643211215818981376) 12) j), .int .i64 j]) rfl ?_ ?_
  · simp (disch := first | assumption | omega | rfl | (refine id ?_; simp only [gxD, ne_eq, reduceCtorEq, not_false_eq_true, Nat.reduceAdd, *]; done) | (refine id ?_; simp only [gxD]; omega)) only [↓gxPre, gxPost, ↓reduceIte, Nat.reduceEqDiff, reduceCtorEq, Nat.reduceAdd, Int.lt_irrefl]
    rfl
  · intro j hj
    have c : (j : Int) < 8 := by omega
    simp (disch := first | assumption | omega | rfl | (refine id ?_; simp only [gxD, ne_eq, reduceCtorEq, not_false_eq_true, Nat.reduceAdd, *]; done) | (refine id ?_; simp only [gxD]; omega)) only [↓gxPre, gxPost, ↓reduceIte, Nat.reduceEqDiff, reduceCtorEq, Nat.reduceAdd, c]
    simp [expQ]
theorem s_l01Exp_ok {H : Heap} {x : Nat} (hx : FinW .f32 x) (h0 : fval .f32 x ≤ 0) : ACalls Try.prog n_s_l01Exp [.float .f32 x] H fun r H' => r = .float .f32 (expR x) ∧ H' = H := by
  refine k_s_l01Exp.run rfl ?_
  unfold c_s_l01Exp
  obtain ⟨a, b⟩ := f64_fin hx
  simp (disch := first | assumption | omega | rfl | (refine id ?_; simp only [gxD, ne_eq, reduceCtorEq, not_false_eq_true, Nat.reduceAdd, *]; done) | (refine id ?_; simp only [gxD]; omega)) only [↓gxPre, gxPost, ↓reduceIte, Nat.reduceEqDiff, reduceCtorEq, Nat.reduceAdd]
  refine callR_pure (s_l01ExpWide_ok a (by rw [b]; exact h0)) (.inl rfl) ?_
  simp (disch := first | assumption | omega | rfl | (refine id ?_; simp only [gxD, ne_eq, reduceCtorEq, not_false_eq_true, Nat.reduceAdd, *]; done) | (refine id ?_; simp only [gxD]; omega)) only [↓gxPre, gxPost, ↓reduceIte, Nat.reduceEqDiff, reduceCtorEq, Nat.reduceAdd]
  refine callR_pure (s_l01Narrow_ok (acv_exp hx h0)) (.inl rfl) ?_
  simp (disch := first | assumption | omega | rfl | (refine id ?_; simp only [gxD, ne_eq, reduceCtorEq, not_false_eq_true, Nat.reduceAdd, *]; done) | (refine id ?_; simp only [gxD]; omega)) only [↓gxPre, gxPost, ↓reduceIte, Nat.reduceEqDiff, reduceCtorEq, Nat.reduceAdd]
theorem i_fraction_ok {H : Heap} {x : Nat} (hx : FinW .f64 x) (h1 : -(1024 : Rat) ≤ fval .f64 x) (h2 : fval .f64 x ≤ 1024) : ACalls Try.prog n_i_fraction [.float .f64 x] H fun r H' => r = .float .f64 (fracF x) ∧ H' = H := by
  obtain ⟨a, b, c, d⟩ := frac_in hx h1 h2
  have ha := acv_trunc a
  have hD : fbin .sub .f64 x (i2f .f64 (fracZ x)) = fracD x := rfl
  refine k_i_fraction.run rfl ?_
  unfold c_i_fraction
  cases hl : fcB .lss .f64 (fracD x) 0
  · simp (disch := first | assumption | omega | rfl | (refine id ?_; simp only [gxD, ne_eq, reduceCtorEq, not_false_eq_true, Nat.reduceAdd, *]; done) | (refine id ?_; simp only [gxD]; omega)) only [↓gxPre, gxPost, ↓reduceIte, Nat.reduceEqDiff, reduceCtorEq, Nat.reduceAdd, ha, hD, hl]
    simp [fracF, hl]
  · simp (disch := first | assumption | omega | rfl | (refine id ?_; simp only [gxD, ne_eq, reduceCtorEq, not_false_eq_true, Nat.reduceAdd, *]; done) | (refine id ?_; simp only [gxD]; omega)) only [↓gxPre, gxPost, ↓reduceIte, Nat.reduceEqDiff, reduceCtorEq, Nat.reduceAdd, ha, hD, hl]
    simp [fracF, hl]
theorem i_sine_ok {H : Heap} {x : Nat} (hx : FinW .f64 x) (h1 : -(1024 : Rat) ≤ fval .f64 x) (h2 : fval .f64 x ≤ 1024) : ACalls Try.prog n_i_sine [.float .f64 x] H fun r H' => r = .float .f64 (sinF x) ∧ H' = H := by
  refine k_i_sine.run rfl ?_
  unfold c_i_sine
  simp (disch := first | assumption | omega | rfl | (refine id ?_; simp only [gxD, ne_eq, reduceCtorEq, not_false_eq_true, Nat.reduceAdd, *]; done) | (refine id ?_; simp only [gxD]; omega)) only [↓gxPre, gxPost, ↓reduceIte, Nat.reduceEqDiff, reduceCtorEq, Nat.reduceAdd]
  refine callR_pure (i_fraction_ok hx h1 h2) (.inl rfl) ?_
  have hZ : fbin .mul .f64 (sinB (sinA (fracF x))) 4618760256179416344 = sinZ x := rfl
  have hU : fbin .mul .f64 (sinZ x) (sinZ x) = sinU x := rfl
  have hR : fbin .mul .f64 (sinZ x) (sinP (sinU x) 8) = sinR x := rfl
  cases hg : fcB .geq .f64 (fracF x) 4602678819172646912
  all_goals
    cases hb : fcB .gtr .f64 (sinA (fracF x)) 4598175219545276416
    all_goals
      have hb0 := hb
      simp only [sinA, hg, Bool.false_eq_true, if_false, if_true] at hb
      simp (disch := first | assumption | omega | rfl | (refine id ?_; simp only [gxD, ne_eq, reduceCtorEq, not_false_eq_true, Nat.reduceAdd, *]; done) | (refine id ?_; simp only [gxD]; omega)) only [↓gxPre, gxPost, ↓reduceIte, Nat.reduceEqDiff, reduceCtorEq, Nat.reduceAdd, hg, hb]
      refine loop_for 8 (fun j => [.bool (fcB .geq .f64 (fracF x) 4602678819172646912), .float .f64 (sinZ x), .float .f64 (sinU x), .float .f64 (sinP (sinU x) j), .float .f64 (i2f .f64 (8 - (j : Int)))]) (by simp only [sinU, sinZ, sinB, sinA, hg, hb, Bool.false_eq_true, if_false, if_true, sinP, Int.natCast_zero, Int.sub_zero, i2f_8]) ?_ ?_
      rotate_left
      · intro j hj
        have hg2 := i2f_geq (n := 8 - (j : Int)) (by omega) (by omega)
        rw [decide_eq_true (by omega)] at hg2
        have hs := i2f_dn1 (n := 8 - (j : Int)) (by omega) (by omega)
        rw [show 8 - (j : Int) - 1 = 8 - ((j + 1 : Nat) : Int) by omega] at hs
        have hK := sinK_f ⟨j, by omega⟩
        simp only at hK
        simp (disch := first | assumption | omega | rfl | (refine id ?_; simp only [gxD, ne_eq, reduceCtorEq, not_false_eq_true, Nat.reduceAdd, *]; done) | (refine id ?_; simp only [gxD]; omega)) only [↓gxPre, gxPost, ↓reduceIte, Nat.reduceEqDiff, reduceCtorEq, Nat.reduceAdd, hg2, hs, hK]
        rfl
      have hgl := i2f_geq (n := 8 - ((8 : Nat) : Int)) (by omega) (by omega)
      rw [decide_eq_false (by omega)] at hgl
      simp (disch := first | assumption | omega | rfl | (refine id ?_; simp only [gxD, ne_eq, reduceCtorEq, not_false_eq_true, Nat.reduceAdd, *]; done) | (refine id ?_; simp only [gxD]; omega)) only [↓gxPre, gxPost, ↓reduceIte, Nat.reduceEqDiff, reduceCtorEq, Nat.reduceAdd, hg, hgl, hR]
      simp [sinF, hg]
theorem c52 : FinW .f64 4841369599423283200 ∧ (1025 : Rat) ≤ fval .f64 4841369599423283200 := by
  have h : FloatKind.f64.decode 4841369599423283200 = .number false 4503599627370496 0 := by decide +kernel
  refine ⟨⟨_, _, _, h⟩, ?_⟩
  unfold fval
  rw [h]
  show _ ≤ sg false * _
  unfold p2
  decide +kernel
theorem cm52 : FinW .f64 14064741636278059008 ∧ fval .f64 14064741636278059008 ≤ -1025 := by
  have h : FloatKind.f64.decode 14064741636278059008 = .number true 4503599627370496 0 := by decide +kernel
  refine ⟨⟨_, _, _, h⟩, ?_⟩
  unfold fval
  rw [h]
  show sg true * _ ≤ _
  unfold p2
  decide +kernel
theorem in_52 {x : Nat} (hx : FinW .f64 x) (h1 : -(1024 : Rat) ≤ fval .f64 x) (h2 : fval .f64 x ≤ 1024) : fcB .geq .f64 x 4841369599423283200 = false ∧ fcB .leq .f64 x 14064741636278059008 = false := by
  obtain ⟨a, b⟩ := c52
  obtain ⟨c, d⟩ := cm52
  rw [fcB_geq hx a, fcB_leq hx c]
  exact ⟨decide_eq_false (by intro h; grind_linarith), decide_eq_false (by intro h; grind_linarith)⟩
theorem s_l01SineWide_ok {H : Heap} {x : Nat} (hx : FinW .f64 x) (h1 : -(1024 : Rat) ≤ fval .f64 x) (h2 : fval .f64 x ≤ 1024) : ACalls Try.prog n_s_l01SineWide [.float .f64 x] H fun r H' => r = .float .f64 (sinF x) ∧ H' = H := by
  refine k_s_l01SineWide.run rfl ?_
  unfold c_s_l01SineWide
  obtain ⟨a, b, c, d⟩ := frac_in hx h1 h2
  obtain ⟨l1, l2⟩ := in_52 hx h1 h2
  have hn := (fin_sub hx).2
  have ha := acv_trunc a
  have hD : fbin .sub .f64 x (i2f .f64 (fracZ x)) = fracD x := rfl
  have hZ : fbin .mul .f64 (sinB (sinA (fracF x))) 4618760256179416344 = sinZ x := rfl
  have hU : fbin .mul .f64 (sinZ x) (sinZ x) = sinU x := rfl
  have hR : fbin .mul .f64 (sinZ x) (sinP (sinU x) 8) = sinR x := rfl
  have hF : fracF x = if fcB .lss .f64 (fracD x) 0 = true then fbin .add .f64 (fracD x) 4607182418800017408 else fracD x := rfl
  cases hl : fcB .lss .f64 (fracD x) 0
  · have hG : fracD x = fracF x := by rw [hF, hl]; rfl
    have hl' : fcB .lss .f64 (fracF x) 0 = false := by rw [← hG]; exact hl
    simp (disch := first | assumption | omega | rfl | (refine id ?_; simp only [gxD, ne_eq, reduceCtorEq, not_false_eq_true, Nat.reduceAdd, *]; done) | (refine id ?_; simp only [gxD]; omega)) only [↓gxPre, gxPost, ↓reduceIte, Nat.reduceEqDiff, reduceCtorEq, Nat.reduceAdd, hn, l1, l2, ha, hD, hG, hl']
    cases hg : fcB .geq .f64 (fracF x) 4602678819172646912
    all_goals
      cases hb : fcB .gtr .f64 (sinA (fracF x)) 4598175219545276416
      all_goals
        have hb0 := hb
        simp only [sinA, hg, Bool.false_eq_true, if_false, if_true] at hb
        simp (disch := first | assumption | omega | rfl | (refine id ?_; simp only [gxD, ne_eq, reduceCtorEq, not_false_eq_true, Nat.reduceAdd, *]; done) | (refine id ?_; simp only [gxD]; omega)) only [↓gxPre, gxPost, ↓reduceIte, Nat.reduceEqDiff, reduceCtorEq, Nat.reduceAdd, hg, hb]
        refine loop_for 8 (fun j => [.bool (fcB .geq .f64 (fracF x) 4602678819172646912), .float .f64 (sinZ x), .float .f64 (sinU x), .float .f64 (sinP (sinU x) j), .int .i64 (8 - (j : Int))]) (by simp only [sinU, sinZ, sinB, sinA, hg, hb, Bool.false_eq_true, if_false, if_true, sinP, Int.natCast_zero, Int.sub_zero, i2f_8]) ?_ ?_
        rotate_left
        · intro j hj
          have hg2 : (1 : Int) ≤ 8 - (j : Int) := by omega
          have hK : (2 * (8 - (j : Int))) * (2 * (8 - (j : Int)) + 1) = sinK j := rfl
          have hKb := sinK_ge ⟨j, by omega⟩
          simp only at hKb
          simp (disch := first | assumption | omega | rfl | (refine id ?_; simp only [gxD, ne_eq, reduceCtorEq, not_false_eq_true, Nat.reduceAdd, *]; done) | (refine id ?_; simp only [gxD]; omega)) only [↓gxPre, gxPost, ↓reduceIte, Nat.reduceEqDiff, reduceCtorEq, Nat.reduceAdd, hg2]
          rw [show 8 - (j : Int) - 1 = 8 - ((j + 1 : Nat) : Int) by omega]
          rfl
        have hgl : ¬ (1 : Int) ≤ 8 - ((8 : Nat) : Int) := by omega
        simp (disch := first | assumption | omega | rfl | (refine id ?_; simp only [gxD, ne_eq, reduceCtorEq, not_false_eq_true, Nat.reduceAdd, *]; done) | (refine id ?_; simp only [gxD]; omega)) only [↓gxPre, gxPost, ↓reduceIte, Nat.reduceEqDiff, reduceCtorEq, Nat.reduceAdd, hg, hgl, hR]
        simp [sinF, hg]
  · have hG : fbin .add .f64 (fracD x) 4607182418800017408 = fracF x := by rw [hF, hl]; rfl
    simp (disch := first | assumption | omega | rfl | (refine id ?_; simp only [gxD, ne_eq, reduceCtorEq, not_false_eq_true, Nat.reduceAdd, *]; done) | (refine id ?_; simp only [gxD]; omega)) only [↓gxPre, gxPost, ↓reduceIte, Nat.reduceEqDiff, reduceCtorEq, Nat.reduceAdd, hn, l1, l2, ha, hD, hl, hG]
    cases hg : fcB .geq .f64 (fracF x) 4602678819172646912
    all_goals
      cases hb : fcB .gtr .f64 (sinA (fracF x)) 4598175219545276416
      all_goals
        have hb0 := hb
        simp only [sinA, hg, Bool.false_eq_true, if_false, if_true] at hb
        simp (disch := first | assumption | omega | rfl | (refine id ?_; simp only [gxD, ne_eq, reduceCtorEq, not_false_eq_true, Nat.reduceAdd, *]; done) | (refine id ?_; simp only [gxD]; omega)) only [↓gxPre, gxPost, ↓reduceIte, Nat.reduceEqDiff, reduceCtorEq, Nat.reduceAdd, hg, hb]
        refine loop_for 8 (fun j => [.bool (fcB .geq .f64 (fracF x) 4602678819172646912), .float .f64 (sinZ x), .float .f64 (sinU x), .float .f64 (sinP (sinU x) j), .int .i64 (8 - (j : Int))]) (by simp only [sinU, sinZ, sinB, sinA, hg, hb, Bool.false_eq_true, if_false, if_true, sinP, Int.natCast_zero, Int.sub_zero, i2f_8]) ?_ ?_
        rotate_left
        · intro j hj
          have hg2 : (1 : Int) ≤ 8 - (j : Int) := by omega
          have hK : (2 * (8 - (j : Int))) * (2 * (8 - (j : Int)) + 1) = sinK j := rfl
          have hKb := sinK_ge ⟨j, by omega⟩
          simp only at hKb
          simp (disch := first | assumption | omega | rfl | (refine id ?_; simp only [gxD, ne_eq, reduceCtorEq, not_false_eq_true, Nat.reduceAdd, *]; done) | (refine id ?_; simp only [gxD]; omega)) only [↓gxPre, gxPost, ↓reduceIte, Nat.reduceEqDiff, reduceCtorEq, Nat.reduceAdd, hg2]
          rw [show 8 - (j : Int) - 1 = 8 - ((j + 1 : Nat) : Int) by omega]
          rfl
        have hgl : ¬ (1 : Int) ≤ 8 - ((8 : Nat) : Int) := by omega
        simp (disch := first | assumption | omega | rfl | (refine id ?_; simp only [gxD, ne_eq, reduceCtorEq, not_false_eq_true, Nat.reduceAdd, *]; done) | (refine id ?_; simp only [gxD]; omega)) only [↓gxPre, gxPost, ↓reduceIte, Nat.reduceEqDiff, reduceCtorEq, Nat.reduceAdd, hg, hgl, hR]
        simp [sinF, hg]
end Go.Proofs.Ytkojmlpaamdhoae

namespace Go.Proofs.Ytkojmlpaamdhoae
open Go.Gx
set_option maxRecDepth 100000
set_option linter.unusedSimpArgs false
set_option linter.unusedVariables false

theorem bits64_num {x : Nat} (h : FinW .f64 x) : aBits64 (.float .f64 x) = some (.int .u64 (x : Int)) := by
  obtain ⟨s, m, e, hx⟩ := h
  have hn : nanB .f64 x = false := by
    unfold nanB
    rw [hx]; rfl
  unfold aBits64
  simp [hn]
theorem from64_num {x : Nat} (h : FinW .f64 x) (hl : x < 2 ^ 64) : aFrom64 (.int .u64 (x : Int)) = some (.float .f64 x) := by
  obtain ⟨s, m, e, hx⟩ := h
  have hn : nanB .f64 x = false := by
    unfold nanB
    rw [hx]; rfl
  unfold aFrom64
  simp only
  rw [if_pos ⟨by omega, by omega⟩, Int.toNat_natCast, canon_of_num hn]
theorem abin_andNot {a b : Int} : abin .andNot (.int .u64 a) (.int .u64 b) = some (.int .u64 (bits .andNot .u64 a b)) := by simp [abin, isShift, aint]
theorem acv_nar {y : Nat} (h : In y (-2) 2) : acv (.f .f32) (.float .f64 y) = some (.float .f32 (narF y)) := by
  show (f2f .f64 y .f32).map _ = _
  rw [(nar_in h).1]
  rfl
def phX (u : Nat) : Nat := if nQ (fracF u) = 1 then fbin .sub .f64 0 (phS u) else if nQ (fracF u) = 2 then fbin .sub .f64 0 (phC u) else if nQ (fracF u) = 3 then phS u else phC u
def phY (u : Nat) : Nat := if nQ (fracF u) = 1 then phC u else if nQ (fracF u) = 2 then fbin .sub .f64 0 (phS u) else if nQ (fracF u) = 3 then fbin .sub .f64 0 (phC u) else phS u
def phV (u : Nat) : Value := .complex .f32 (narF (phX u)) (narF (phY u))
theorem phX_in {u : Nat} (h : In (fracF u) 0 1) : In (phX u) (-2) 2 ∧ In (phY u) (-2) 2 := by
  obtain ⟨_, c, s⟩ := phC_in h
  have nc := neg_in c
  have ns := neg_in s
  unfold phX phY
  constructor
  · split
    · exact ns
    · split
      · exact nc
      · split
        · exact s
        · exact c
  · split
    · exact c
    · split
      · exact ns
      · split
        · exact nc
        · exact s
theorem m_Abs_ok {H : Heap} {x : Nat} (hx : FinW .f64 x) (hl : x < 2 ^ 64) (h1 : -(1024 : Rat) ≤ fval .f64 x) (h2 : fval .f64 x ≤ 1024) : ACalls Try.prog n_m_Abs [.float .f64 x] H fun r H' => r = .float .f64 (absW x) ∧ H' = H := by
  refine k_m_Abs.run rfl ?_
  unfold c_m_Abs
  have a1 := bits64_num hx
  have a2 := bits_abs hl
  have a3 := from64_num (abs_val hx h1 h2).1 (Nat.lt_of_lt_of_le (Nat.mod_lt _ (by decide)) (by decide))
  simp (disch := first | assumption | omega | rfl | (refine id ?_; simp only [gxD, ne_eq, reduceCtorEq, not_false_eq_true, Nat.reduceAdd, *]; done) | (refine id ?_; simp only [gxD]; omega)) only [↓gxPre, gxPost, ↓reduceIte, Nat.reduceEqDiff, reduceCtorEq, Nat.reduceAdd, a1, abin_andNot, a2, a3]
theorem i_isFinite64_ok {H : Heap} {x : Nat} (hx : FinW .f64 x) : ACalls Try.prog n_i_isFinite64 [.float .f64 x] H fun r H' => r = .bool true ∧ H' = H := by
  refine k_i_isFinite64.run rfl ?_
  unfold c_i_isFinite64
  have h := (fin_sub hx).1
  simp (disch := first | assumption | omega | rfl | (refine id ?_; simp only [gxD, ne_eq, reduceCtorEq, not_false_eq_true, Nat.reduceAdd, *]; done) | (refine id ?_; simp only [gxD]; omega)) only [↓gxPre, gxPost, ↓reduceIte, Nat.reduceEqDiff, reduceCtorEq, Nat.reduceAdd, h]
theorem i_PhasorOf_ok {H : Heap} {u : Nat} (hx : FinW .f64 u) (hl : u < 2 ^ 64) (h1 : -(1024 : Rat) ≤ fval .f64 u) (h2 : fval .f64 u ≤ 1024) : ACalls Try.prog n_i_PhasorOf [.float .f64 u] H fun r H' => r = phV u ∧ H' = H := by
  obtain ⟨_, _, _, hf⟩ := frac_in hx h1 h2
  obtain ⟨q1, q2, q3⟩ := nQ_ok hf
  obtain ⟨b1, b2, b3⟩ := phF_in hf
  obtain ⟨⟨d1, d2, d3⟩, c1, c2⟩ := phC_in hf
  obtain ⟨e1, e2⟩ := phX_in hf
  have ax := acv_nar e1
  have ay := acv_nar e2
  have hq52 : fcB .geq .f64 (absW u) 4841369599423283200 = false := by
    obtain ⟨a, b⟩ := abs_val hx h1 h2
    rw [fcB_geq a c52.1]
    have := c52.2
    exact decide_eq_false (by intro h; grind_linarith)
  refine k_i_PhasorOf.run rfl ?_
  unfold c_i_PhasorOf
  simp (disch := first | assumption | omega | rfl | (refine id ?_; simp only [gxD, ne_eq, reduceCtorEq, not_false_eq_true, Nat.reduceAdd, *]; done) | (refine id ?_; simp only [gxD]; omega)) only [↓gxPre, gxPost, ↓reduceIte, Nat.reduceEqDiff, reduceCtorEq, Nat.reduceAdd]
  refine callR_pure (i_isFinite64_ok hx) (.inl rfl) ?_
  simp (disch := first | assumption | omega | rfl | (refine id ?_; simp only [gxD, ne_eq, reduceCtorEq, not_false_eq_true, Nat.reduceAdd, *]; done) | (refine id ?_; simp only [gxD]; omega)) only [↓gxPre, gxPost, ↓reduceIte, Nat.reduceEqDiff, reduceCtorEq, Nat.reduceAdd]
  refine callR_pure (m_Abs_ok hx hl h1 h2) (.inl rfl) ?_
  simp (disch := first | assumption | omega | rfl | (refine id ?_; simp only [gxD, ne_eq, reduceCtorEq, not_false_eq_true, Nat.reduceAdd, *]; done) | (refine id ?_; simp only [gxD]; omega)) only [↓gxPre, gxPost, ↓reduceIte, Nat.reduceEqDiff, reduceCtorEq, Nat.reduceAdd, hq52]
  refine callR_pure (i_fraction_ok hx h1 h2) (.inl rfl) ?_
  simp (disch := first | assumption | omega | rfl | (refine id ?_; simp only [gxD, ne_eq, reduceCtorEq, not_false_eq_true, Nat.reduceAdd, *]; done) | (refine id ?_; simp only [gxD]; omega)) only [↓gxPre, gxPost, ↓reduceIte, Nat.reduceEqDiff, reduceCtorEq, Nat.reduceAdd]
  refine loop_for (nQ (fracF u)) (fun t => [.float .f64 (quartS (fracF u) t), .int .i64 (t : Int)]) rfl ?_ ?_
  rotate_left
  · intro t ht
    have hc := q2 t ht
    simp (disch := first | assumption | omega | rfl | (refine id ?_; simp only [gxD, ne_eq, reduceCtorEq, not_false_eq_true, Nat.reduceAdd, *]; done) | (refine id ?_; simp only [gxD]; omega)) only [↓gxPre, gxPost, ↓reduceIte, Nat.reduceEqDiff, reduceCtorEq, Nat.reduceAdd, hc]
    simp [quartS]
  simp (disch := first | assumption | omega | rfl | (refine id ?_; simp only [gxD, ne_eq, reduceCtorEq, not_false_eq_true, Nat.reduceAdd, *]; done) | (refine id ?_; simp only [gxD]; omega)) only [↓gxPre, gxPost, ↓reduceIte, Nat.reduceEqDiff, reduceCtorEq, Nat.reduceAdd, q1]
  have hF : quartS (fracF u) (nQ (fracF u)) = phF u := rfl
  rw [hF]
  refine callR_pure (i_sine_ok d1 (by grind_linarith) (by grind_linarith)) (.inl rfl) ?_
  simp (disch := first | assumption | omega | rfl | (refine id ?_; simp only [gxD, ne_eq, reduceCtorEq, not_false_eq_true, Nat.reduceAdd, *]; done) | (refine id ?_; simp only [gxD]; omega)) only [↓gxPre, gxPost, ↓reduceIte, Nat.reduceEqDiff, reduceCtorEq, Nat.reduceAdd]
  refine callR_pure (i_sine_ok b1 (by grind_linarith) (by grind_linarith)) (.inl rfl) ?_
  have hC : sinF (fbin .sub .f64 4598175219545276416 (phF u)) = phC u := rfl
  have hS : sinF (phF u) = phS u := rfl
  have hq : nQ (fracF u) = 0 ∨ nQ (fracF u) = 1 ∨ nQ (fracF u) = 2 ∨ nQ (fracF u) = 3 ∨ nQ (fracF u) = 4 := by omega
  unfold phV
  rcases hq with hq | hq | hq | hq | hq
  all_goals
    simp only [phX, phY, hq, Nat.reduceEqDiff, if_true, if_false] at ax ay ⊢
    simp (disch := first | assumption | omega | rfl | (refine id ?_; simp only [gxD, ne_eq, reduceCtorEq, not_false_eq_true, Nat.reduceAdd, *]; done) | (refine id ?_; simp only [gxD]; omega)) only [↓gxPre, gxPost, ↓reduceIte, Nat.reduceEqDiff, reduceCtorEq, Nat.reduceAdd, hC, hS, hq, ax, ay]
theorem s_l01Phasor_ok {H : Heap} {u : Nat} (hx : FinW .f64 u) (h1 : -(1024 : Rat) ≤ fval .f64 u) (h2 : fval .f64 u ≤ 1024) : ACalls Try.prog n_s_l01Phasor [.float .f64 u] H fun r H' => r = phV u ∧ H' = H := by
  obtain ⟨a, _, _, hf⟩ := frac_in hx h1 h2
  obtain ⟨q1, q2, q3⟩ := nQ_ok hf
  obtain ⟨b1, b2, b3⟩ := phF_in hf
  obtain ⟨⟨d1, d2, d3⟩, c1, c2⟩ := phC_in hf
  obtain ⟨e1, e2⟩ := phX_in hf
  have ax := acv_nar e1
  have ay := acv_nar e2
  obtain ⟨l1, l2⟩ := in_52 hx h1 h2
  have hn := (fin_sub hx).2
  have ha := acv_trunc a
  have hD : fbin .sub .f64 u (i2f .f64 (fracZ u)) = fracD u := rfl
  have hFd : fracF u = if fcB .lss .f64 (fracD u) 0 = true then fbin .add .f64 (fracD u) 4607182418800017408 else fracD u := rfl
  refine k_s_l01Phasor.run rfl ?_
  unfold c_s_l01Phasor
  unfold phV
  have hq : nQ (fracF u) = 0 ∨ nQ (fracF u) = 1 ∨ nQ (fracF u) = 2 ∨ nQ (fracF u) = 3 ∨ nQ (fracF u) = 4 := by omega
  cases hl : fcB .lss .f64 (fracD u) 0
  · have hG : fracD u = fracF u := by rw [hFd, hl]; rfl
    have hl' : fcB .lss .f64 (fracF u) 0 = false := by rw [← hG]; exact hl
    simp (disch := first | assumption | omega | rfl | (refine id ?_; simp only [gxD, ne_eq, reduceCtorEq, not_false_eq_true, Nat.reduceAdd, *]; done) | (refine id ?_; simp only [gxD]; omega)) only [↓gxPre, gxPost, ↓reduceIte, Nat.reduceEqDiff, reduceCtorEq, Nat.reduceAdd, hn, l1, l2, ha, hD, hG, hl']
    refine loop_for (nQ (fracF u)) (fun t => [.float .f64 (quartS (fracF u) t), .int .i64 (t : Int)]) rfl ?_ ?_
    rotate_left
    · intro t ht
      have hc := q2 t ht
      simp (disch := first | assumption | omega | rfl | (refine id ?_; simp only [gxD, ne_eq, reduceCtorEq, not_false_eq_true, Nat.reduceAdd, *]; done) | (refine id ?_; simp only [gxD]; omega)) only [↓gxPre, gxPost, ↓reduceIte, Nat.reduceEqDiff, reduceCtorEq, Nat.reduceAdd, hc]
      simp [quartS]
    simp (disch := first | assumption | omega | rfl | (refine id ?_; simp only [gxD, ne_eq, reduceCtorEq, not_false_eq_true, Nat.reduceAdd, *]; done) | (refine id ?_; simp only [gxD]; omega)) only [↓gxPre, gxPost, ↓reduceIte, Nat.reduceEqDiff, reduceCtorEq, Nat.reduceAdd, q1]
    have hF : quartS (fracF u) (nQ (fracF u)) = phF u := rfl
    rw [hF]
    refine callR_pure (s_l01SineWide_ok d1 (by grind_linarith) (by grind_linarith)) (.inl rfl) ?_
    simp (disch := first | assumption | omega | rfl | (refine id ?_; simp only [gxD, ne_eq, reduceCtorEq, not_false_eq_true, Nat.reduceAdd, *]; done) | (refine id ?_; simp only [gxD]; omega)) only [↓gxPre, gxPost, ↓reduceIte, Nat.reduceEqDiff, reduceCtorEq, Nat.reduceAdd]
    refine callR_pure (s_l01SineWide_ok b1 (by grind_linarith) (by grind_linarith)) (.inl rfl) ?_
    have hC : sinF (fbin .sub .f64 4598175219545276416 (phF u)) = phC u := rfl
    have hS : sinF (phF u) = phS u := rfl
    rcases hq with hq | hq | hq | hq | hq
    all_goals
      simp only [phX, phY, hq, Nat.reduceEqDiff, if_true, if_false] at ax ay ⊢
      simp (disch := first | assumption | omega | rfl | (refine id ?_; simp only [gxD, ne_eq, reduceCtorEq, not_false_eq_true, Nat.reduceAdd, *]; done) | (refine id ?_; simp only [gxD]; omega)) only [↓gxPre, gxPost, ↓reduceIte, Nat.reduceEqDiff, reduceCtorEq, Nat.reduceAdd, hC, hS, hq]
      refine callR_pure (s_l01Narrow_ok ax) (.inl rfl) ?_
      simp (disch := first | assumption | omega | rfl | (refine id ?_; simp only [gxD, ne_eq, reduceCtorEq, not_false_eq_true, Nat.reduceAdd, *]; done) | (refine id ?_; simp only [gxD]; omega)) only [↓gxPre, gxPost, ↓reduceIte, Nat.reduceEqDiff, reduceCtorEq, Nat.reduceAdd]
      refine callR_pure (s_l01Narrow_ok ay) (.inl rfl) ?_
      simp (disch := first | assumption | omega | rfl | (refine id ?_; simp only [gxD, ne_eq, reduceCtorEq, not_false_eq_true, Nat.reduceAdd, *]; done) | (refine id ?_; simp only [gxD]; omega)) only [↓gxPre, gxPost, ↓reduceIte, Nat.reduceEqDiff, reduceCtorEq, Nat.reduceAdd]
  · have hG : fbin .add .f64 (fracD u) 4607182418800017408 = fracF u := by rw [hFd, hl]; rfl
    simp (disch := first | assumption | omega | rfl | (refine id ?_; simp only [gxD, ne_eq, reduceCtorEq, not_false_eq_true, Nat.reduceAdd, *]; done) | (refine id ?_; simp only [gxD]; omega)) only [↓gxPre, gxPost, ↓reduceIte, Nat.reduceEqDiff, reduceCtorEq, Nat.reduceAdd, hn, l1, l2, ha, hD, hl, hG]
    refine loop_for (nQ (fracF u)) (fun t => [.float .f64 (quartS (fracF u) t), .int .i64 (t : Int)]) rfl ?_ ?_
    rotate_left
    · intro t ht
      have hc := q2 t ht
      simp (disch := first | assumption | omega | rfl | (refine id ?_; simp only [gxD, ne_eq, reduceCtorEq, not_false_eq_true, Nat.reduceAdd, *]; done) | (refine id ?_; simp only [gxD]; omega)) only [↓gxPre, gxPost, ↓reduceIte, Nat.reduceEqDiff, reduceCtorEq, Nat.reduceAdd, hc]
      simp [quartS]
    simp (disch := first | assumption | omega | rfl | (refine id ?_; simp only [gxD, ne_eq, reduceCtorEq, not_false_eq_true, Nat.reduceAdd, *]; done) | (refine id ?_; simp only [gxD]; omega)) only [↓gxPre, gxPost, ↓reduceIte, Nat.reduceEqDiff, reduceCtorEq, Nat.reduceAdd, q1]
    have hF : quartS (fracF u) (nQ (fracF u)) = phF u := rfl
    rw [hF]
    refine callR_pure (s_l01SineWide_ok d1 (by grind_linarith) (by grind_linarith)) (.inl rfl) ?_
    simp (disch := first | assumption | omega | rfl | (refine id ?_; simp only [gxD, ne_eq, reduceCtorEq, not_false_eq_true, Nat.reduceAdd, *]; done) | (refine id ?_; simp only [gxD]; omega)) only [↓gxPre, gxPost, ↓reduceIte, Nat.reduceEqDiff, reduceCtorEq, Nat.reduceAdd]
    refine callR_pure (s_l01SineWide_ok b1 (by grind_linarith) (by grind_linarith)) (.inl rfl) ?_
    have hC : sinF (fbin .sub .f64 4598175219545276416 (phF u)) = phC u := rfl
    have hS : sinF (phF u) = phS u := rfl
    rcases hq with hq | hq | hq | hq | hq
    all_goals
      simp only [phX, phY, hq, Nat.reduceEqDiff, if_true, if_false] at ax ay ⊢
      simp (disch := first | assumption | omega | rfl | (refine id ?_; simp only [gxD, ne_eq, reduceCtorEq, not_false_eq_true, Nat.reduceAdd, *]; done) | (refine id ?_; simp only [gxD]; omega)) only [↓gxPre, gxPost, ↓reduceIte, Nat.reduceEqDiff, reduceCtorEq, Nat.reduceAdd, hC, hS, hq]
      refine callR_pure (s_l01Narrow_ok ax) (.inl rfl) ?_
      simp (disch := first | assumption | omega | rfl | (refine id ?_; simp only [gxD, ne_eq, reduceCtorEq, not_false_eq_true, Nat.reduceAdd, *]; done) | (refine id ?_; simp only [gxD]; omega)) only [↓gxPre, gxPost, ↓reduceIte, Nat.reduceEqDiff, reduceCtorEq, Nat.reduceAdd]
      refine callR_pure (s_l01Narrow_ok ay) (.inl rfl) ?_
      simp (disch := first | assumption | omega | rfl | (refine id ?_; simp only [gxD, ne_eq, reduceCtorEq, not_false_eq_true, Nat.reduceAdd, *]; done) | (refine id ?_; simp only [gxD]; omega)) only [↓gxPre, gxPost, ↓reduceIte, Nat.reduceEqDiff, reduceCtorEq, Nat.reduceAdd]
end Go.Proofs.Ytkojmlpaamdhoae

namespace Go.Proofs.Ytkojmlpaamdhoae
open Go.Gx
set_option maxRecDepth 100000
set_option linter.unusedSimpArgs false
set_option linter.unusedVariables false

def scaleF (x : Nat) : Bool := fcB .geq .f32 x 1056964608 && fcB .leq .f32 x 1098907648
theorem up_cut (neg : Bool) (n d : Nat) : Ieee.Toward.up.cut neg n d * 2 ^ d ≤ n + 2 ^ d := by
  have hcut : Ieee.Toward.up.cut neg n d ≤ n / 1 <<< min d (n.log2 + 2) + 1 := by
    unfold Ieee.Toward.cut
    simp only
    have := Bool.toNat_le (!neg && n % 1 <<< min d (n.log2 + 2) != 0)
    omega
  have hlog : n < 2 ^ (n.log2 + 1) := by
    by_cases h : n = 0
    · subst h; decide
    · exact (Nat.log2_lt h).1 (Nat.lt_succ_self _)
  by_cases hd : d ≤ n.log2 + 2
  · rw [Nat.min_eq_left hd, Nat.one_shiftLeft] at hcut
    have h1 := Nat.div_mul_le_self n (2 ^ d)
    have h2 := Nat.mul_le_mul_right (2 ^ d) hcut
    rw [Nat.add_mul, Nat.one_mul] at h2
    omega
  · rw [Nat.min_eq_right (by omega), Nat.one_shiftLeft] at hcut
    have h4 : 2 ^ (n.log2 + 1) ≤ 2 ^ (n.log2 + 2) := Nat.pow_le_pow_right (by omega) (by omega)
    rw [Nat.div_eq_of_lt (by omega)] at hcut
    have h2 := Nat.mul_le_mul_right (2 ^ d) hcut
    omega
theorem up_val (m : Nat) (e : Int) (neg : Bool) : ((Ieee.Toward.up.cut neg (m <<< e.toNat) (-e).toNat : Nat) : Rat) ≤ (m : Rat) * p2 e + 1 := by
  have h1 := up_cut neg (m <<< e.toNat) (-e).toNat
  generalize Ieee.Toward.up.cut neg (m <<< e.toNat) (-e).toNat = k at *
  have key : ((m <<< e.toNat : Nat) : Rat) = (m : Rat) * p2 e * ((2 ^ (-e).toNat : Nat) : Rat) := by
    rw [Nat.shiftLeft_eq, Rat.natCast_mul, ← p2_nat, ← p2_nat, Rat.mul_assoc, ← p2_add]
    congr 2
    omega
  have hD : (0 : Rat) < ((2 ^ (-e).toNat : Nat) : Rat) := Rat.natCast_pos.2 (Nat.two_pow_pos _)
  have c1 := natCast_le h1
  rw [Rat.natCast_mul, Rat.natCast_add, key] at c1
  refine Rat.le_of_mul_le_mul_right (c := ((2 ^ (-e).toNat : Nat) : Rat)) ?_ hD
  grind_linarith
/-- A whole number of steps that is not below. -/
theorem ceil_ok {x : Nat} (hx : FinW .f64 x) (h0 : 0 ≤ fval .f64 x) (h1 : fval .f64 x ≤ 64) : ∃ n : Int, f2i .f64 (intF 1 x) .i64 = some n ∧ 0 ≤ n ∧ n ≤ 66 := by
  obtain ⟨s, m, e, hd⟩ := hx
  have hv : fval .f64 x = sg s * ((m : Rat) * p2 e) := by unfold fval; rw [hd, dval_number]
  have hu := up_val m e s
  have a0 := val_nonneg m e
  have hi : intF 1 x = FloatKind.f64.format.write (.number s (Ieee.Toward.up.cut s (m <<< e.toNat) (-e).toNat) 0) := by
    unfold intF
    rw [hd]
    rfl
  rw [hi]
  rw [hv] at h0 h1
  have hneg : s = true → Ieee.Toward.up.cut s (m <<< e.toNat) (-e).toNat ≤ 66 → True := fun _ _ => trivial
  have hk : Ieee.Toward.up.cut s (m <<< e.toNat) (-e).toNat ≤ 65 := by
    have : ((Ieee.Toward.up.cut s (m <<< e.toNat) (-e).toNat : Nat) : Rat) ≤ ((65 : Nat) : Rat) := by
      have e1 : ((65 : Nat) : Rat) = 65 := rfl
      rw [e1]
      cases s
      · rw [sg_false] at h1; grind_linarith
      · rw [sg_true] at h0; grind_linarith
    exact of_natCast_le this
  have hz : s = true → Ieee.Toward.up.cut s (m <<< e.toNat) (-e).toNat = 0 := fun hs => by
    subst hs
    rw [sg_true] at h0
    have hm0 : (m : Rat) * p2 e = 0 := Rat.le_antisymm (by grind_linarith) a0
    have hm : m = 0 := by
      rcases Nat.eq_zero_or_pos m with h | h
      · exact h
      · have := Rat.mul_pos (Rat.natCast_pos.2 h) (p2_pos e)
        rw [hm0] at this
        exact absurd this Rat.lt_irrefl
    subst hm
    unfold Ieee.Toward.cut
    simp
  generalize Ieee.Toward.up.cut s (m <<< e.toNat) (-e).toNat = k at *
  have hkv : Ieee.Datum.number s k 0 = .number s k 0 := rfl
  have hval : dval (.number s k 0) = ((k : Int) : Rat) := by
    rw [dval_number, p2_zero, Rat.mul_one, Rat.intCast_natCast]
    cases s
    · rw [sg_false, Rat.one_mul]
    · rw [hz rfl]
      have e0 : ((0 : Nat) : Rat) = 0 := rfl
      rw [e0]
      grind_linarith
  have ht := top_nat (n := k) (by omega)
  have hk0 : 0 ≤ ((k : Int) : Rat) := Rat.intCast_nonneg.2 (by omega)
  have g := gives_write .f64 hval (by unfold Bd; constructor <;> grind_linarith)
  have hB : 2 * FloatKind.f64.format.binade = 9007199254740992 := by decide
  have hex := g.exact (Rep.int (by decide) (k : Int) (by omega))
  have hk65 : ((k : Int) : Rat) ≤ ((65 : Int) : Rat) := Rat.intCast_le_intCast.2 (by omega)
  have e65 : ((65 : Int) : Rat) = 65 := rfl
  rw [e65] at hk65
  obtain ⟨n, n1, n2, n3, n4, n5, n6⟩ := f2i_ok g.1 (by rw [hex]; grind_linarith) (by rw [hex]; grind_linarith)
  refine ⟨n, n1, n6 (by rw [hex]; exact hk0), ?_⟩
  rw [hex] at n4 n5
  rcases ilg 66 n with c | c
  · exfalso
    have h66 : ((66 : Int) : Rat) ≤ (n : Rat) := Rat.intCast_le_intCast.2 (by omega)
    have e66 : ((66 : Int) : Rat) = 66 := rfl
    rw [e66] at h66
    grind_linarith
  · exact c
theorem m_Ceil_ok {H : Heap} {x : Nat} : ACalls Try.prog n_m_Ceil [.float .f64 x] H fun r H' => r = .float .f64 (intF 1 x) ∧ H' = H := by
  refine k_m_Ceil.run rfl ?_
  unfold c_m_Ceil
  simp (disch := first | assumption | omega | rfl | (refine id ?_; simp only [gxD, ne_eq, reduceCtorEq, not_false_eq_true, Nat.reduceAdd, *]; done) | (refine id ?_; simp only [gxD]; omega)) only [↓gxPre, gxPost, ↓reduceIte, Nat.reduceEqDiff, reduceCtorEq, Nat.reduceAdd]
theorem i_ScaleComplex_ok {H : Heap} {a b w : Nat} : ACalls Try.prog n_i_ScaleComplex [.complex .f32 a b, .float .f32 w] H fun r H' => r = .complex .f32 (fbin .mul .f32 a w) (fbin .mul .f32 b w) ∧ H' = H := by
  refine k_i_ScaleComplex.run rfl ?_
  unfold c_i_ScaleComplex
  simp (disch := first | assumption | omega | rfl | (refine id ?_; simp only [gxD, ne_eq, reduceCtorEq, not_false_eq_true, Nat.reduceAdd, *]; done) | (refine id ?_; simp only [gxD]; omega)) only [↓gxPre, gxPost, ↓reduceIte, Nat.reduceEqDiff, reduceCtorEq, Nat.reduceAdd]
theorem s_l01Scale_ok {H : Heap} {a b w : Nat} : ACalls Try.prog n_s_l01Scale [.complex .f32 a b, .float .f32 w] H fun r H' => r = .complex .f32 (fbin .mul .f32 a w) (fbin .mul .f32 b w) ∧ H' = H := by
  refine k_s_l01Scale.run rfl ?_
  unfold c_s_l01Scale
  simp (disch := first | assumption | omega | rfl | (refine id ?_; simp only [gxD, ne_eq, reduceCtorEq, not_false_eq_true, Nat.reduceAdd, *]; done) | (refine id ?_; simp only [gxD]; omega)) only [↓gxPre, gxPost, ↓reduceIte, Nat.reduceEqDiff, reduceCtorEq, Nat.reduceAdd]
theorem i_isScale_ok {H : Heap} {x : Nat} : ACalls Try.prog n_i_isScale [.float .f32 x] H fun r H' => r = .bool (scaleF x) ∧ H' = H := by
  refine k_i_isScale.run rfl ?_
  unfold c_i_isScale
  cases h1 : fcB .geq .f32 x 1056964608
  · simp (disch := first | assumption | omega | rfl | (refine id ?_; simp only [gxD, ne_eq, reduceCtorEq, not_false_eq_true, Nat.reduceAdd, *]; done) | (refine id ?_; simp only [gxD]; omega)) only [↓gxPre, gxPost, ↓reduceIte, Nat.reduceEqDiff, reduceCtorEq, Nat.reduceAdd, h1]
    simp [scaleF, h1]
  · simp (disch := first | assumption | omega | rfl | (refine id ?_; simp only [gxD, ne_eq, reduceCtorEq, not_false_eq_true, Nat.reduceAdd, *]; done) | (refine id ?_; simp only [gxD]; omega)) only [↓gxPre, gxPost, ↓reduceIte, Nat.reduceEqDiff, reduceCtorEq, Nat.reduceAdd, h1]
    simp [scaleF, h1]
theorem s_l03Scale_ok {H : Heap} {x : Nat} : ACalls Try.prog n_s_l03Scale [.float .f32 x] H fun r H' => r = .bool (scaleF x) ∧ H' = H := by
  refine k_s_l03Scale.run rfl ?_
  unfold c_s_l03Scale
  cases h1 : fcB .geq .f32 x 1056964608
  · simp (disch := first | assumption | omega | rfl | (refine id ?_; simp only [gxD, ne_eq, reduceCtorEq, not_false_eq_true, Nat.reduceAdd, *]; done) | (refine id ?_; simp only [gxD]; omega)) only [↓gxPre, gxPost, ↓reduceIte, Nat.reduceEqDiff, reduceCtorEq, Nat.reduceAdd, h1]
    simp [scaleF, h1]
  · simp (disch := first | assumption | omega | rfl | (refine id ?_; simp only [gxD, ne_eq, reduceCtorEq, not_false_eq_true, Nat.reduceAdd, *]; done) | (refine id ?_; simp only [gxD]; omega)) only [↓gxPre, gxPost, ↓reduceIte, Nat.reduceEqDiff, reduceCtorEq, Nat.reduceAdd, h1]
    simp [scaleF, h1]
end Go.Proofs.Ytkojmlpaamdhoae

namespace Go.Proofs.Ytkojmlpaamdhoae
open Go.Gx
set_option maxRecDepth 100000
set_option linter.unusedSimpArgs false
set_option linter.unusedVariables false

theorem c_half32 : FinW .f32 1056964608 ∧ fval .f32 1056964608 = 1 / 2 := by
  have h : FloatKind.f32.decode 1056964608 = .number false 8388608 (-24) := by decide +kernel
  refine ⟨⟨_, _, _, h⟩, ?_⟩
  unfold fval
  rw [h]
  show sg false * _ = _
  unfold p2
  decide +kernel
theorem c_16 : FinW .f32 1098907648 ∧ fval .f32 1098907648 = 16 := by
  have h : FloatKind.f32.decode 1098907648 = .number false 8388608 (-19) := by decide +kernel
  refine ⟨⟨_, _, _, h⟩, ?_⟩
  unfold fval
  rw [h]
  show sg false * _ = _
  unfold p2
  decide +kernel
theorem c_3 : FinW .f32 1077936128 ∧ fval .f32 1077936128 = 3 := by
  have h : FloatKind.f32.decode 1077936128 = .number false 12582912 (-22) := by decide +kernel
  refine ⟨⟨_, _, _, h⟩, ?_⟩
  unfold fval
  rw [h]
  show sg false * _ = _
  unfold p2
  decide +kernel
theorem c_mhalf : FinW .f32 3204448256 ∧ fval .f32 3204448256 = -(1 / 2) := by
  have h : FloatKind.f32.decode 3204448256 = .number true 8388608 (-24) := by decide +kernel
  refine ⟨⟨_, _, _, h⟩, ?_⟩
  unfold fval
  rw [h]
  show sg true * _ = _
  unfold p2
  decide +kernel
def In32 (r : Nat) (a b : Rat) : Prop := FinW .f32 r ∧ a ≤ fval .f32 r ∧ fval .f32 r ≤ b
theorem In32_of {v a b : Rat} {r : Nat} (ha : Rep FloatKind.f32.format a) (hb : Rep FloatKind.f32.format b) (h1 : a ≤ v) (h2 : v ≤ b) (h3 : -(65536 : Rat) ≤ a) (h4 : b ≤ 65536) (g : Bd v (topK .f32) → Gives .f32 v r) : In32 r a b := by
  have h5 := p2_le (show (16 : Int) ≤ 127 by decide)
  have e : p2 16 = ((65536 : Nat) : Rat) := p2_nat 16
  have e2 : ((65536 : Nat) : Rat) = 65536 := rfl
  have ht := top32
  rw [e, e2] at h5
  have g' := g (by unfold Bd; constructor <;> grind_linarith)
  exact ⟨g'.1, g'.ge ha h1, g'.le hb h2⟩
theorem repI (n : Int) (h : n.natAbs ≤ 65536) {c : Rat} (e : c = (n : Rat)) : Rep FloatKind.f32.format c := by
  have hB : 2 * FloatKind.f32.format.binade = 16777216 := by decide
  rw [e]
  exact Rep.int (by decide) n (by omega)
theorem scale_dom {x : Nat} (h : scaleF x = true) : In32 x (1 / 2) 16 := by
  unfold scaleF at h
  rw [Bool.and_eq_true] at h
  have hx : FinW .f32 x := by
    obtain ⟨s1, m1, e1, hd1⟩ := c_half32.1
    obtain ⟨s2, m2, e2, hd2⟩ := c_16.1
    have g1 : ((FloatKind.f32.decode x).order (.number s1 m1 e1) == some .gt || (FloatKind.f32.decode x).order (.number s1 m1 e1) == some .eq) = true := by
      have := h.1
      rw [← hd1]
      exact this
    have g2 : ((FloatKind.f32.decode x).order (.number s2 m2 e2) == some .lt || (FloatKind.f32.decode x).order (.number s2 m2 e2) == some .eq) = true := by
      have := h.2
      rw [← hd2]
      exact this
    cases hd : FloatKind.f32.decode x with
    | nan a b =>
      rw [hd] at g1
      simp [Ieee.Datum.order] at g1
    | infinity s =>
      rw [hd] at g1 g2
      cases s
      · simp [Ieee.Datum.order] at g2
      · simp [Ieee.Datum.order] at g1
    | number s m e => exact ⟨s, m, e, hd⟩
  have h1 := h.1
  have h2 := h.2
  rw [fcB_geq hx c_half32.1, c_half32.2] at h1
  rw [fcB_leq hx c_16.1, c_16.2] at h2
  exact ⟨hx, of_decide_eq_true h1, of_decide_eq_true h2⟩
def kR (x : Nat) : Int := (f2i .f64 (intF 1 (f64 (fbin .mul .f32 1077936128 x))) .i64).getD 0
def kU (x : Nat) (k : Nat) : Nat := fbin .quo .f32 (i2f .f32 ((k : Int) - kR x)) x
def kA (x : Nat) (k : Nat) : Nat := fbin .mul .f32 (fbin .mul .f32 3204448256 (kU x k)) (kU x k)
def kW (x : Nat) (k : Nat) : Nat := fbin .quo .f32 (expR (kA x k)) x
def kC (x : Nat) (k : Nat) : Nat × Nat := (fbin .mul .f32 (narF (phX (f64 (kU x k)))) (kW x k), fbin .mul .f32 (narF (phY (f64 (kU x k)))) (kW x k))
def cv (p : Nat × Nat) : Value := .complex .f32 p.1 p.2
def kL (x : Nat) (n : Nat) : List (Nat × Nat) := (List.range n).map (kC x)
theorem kR_ok {x : Nat} (h : In32 x (1 / 2) 16) : f2i .f64 (intF 1 (f64 (fbin .mul .f32 1077936128 x))) .i64 = some (kR x) ∧ 0 ≤ kR x ∧ kR x ≤ 66 := by
  obtain ⟨a, b, c⟩ := h
  obtain ⟨f, g1, g2⟩ := In32_of (repI 0 (by decide) rfl) (repI 48 (by decide) rfl) (by show (0 : Rat) ≤ _; rw [c_3.2]; grind_linarith) (by show _ ≤ (48 : Rat); rw [c_3.2]; grind_linarith) (by decide) (by decide) (fmul_val c_3.1 a)
  obtain ⟨w, wv⟩ := f64_fin f
  have e0 : ((0 : Int) : Rat) = 0 := rfl
  have e48 : ((48 : Int) : Rat) = 48 := rfl
  rw [e0] at g1
  rw [e48] at g2
  obtain ⟨n, n1, n2, n3⟩ := ceil_ok w (by rw [wv]; exact g1) (by rw [wv]; grind_linarith)
  have hn : kR x = n := by unfold kR; rw [n1]; rfl
  rw [hn]
  exact ⟨n1, n2, n3⟩
theorem kU_in {x : Nat} (h : In32 x (1 / 2) 16) {k : Nat} (hk : (k : Int) ≤ 2 * kR x) : In32 (kU x k) (-132) 132 := by
  obtain ⟨a, b, c⟩ := h
  obtain ⟨_, r0', r1'⟩ := kR_ok ⟨a, b, c⟩
  have hz : ((k : Int) - kR x).natAbs ≤ 66 := by omega
  unfold kU
  generalize (k : Int) - kR x = z at *
  have hz1 : ((-66 : Int) : Rat) ≤ (z : Rat) := Rat.intCast_le_intCast.2 (by omega)
  have hz2 : (z : Rat) ≤ ((66 : Int) : Rat) := Rat.intCast_le_intCast.2 (by omega)
  have em : ((-66 : Int) : Rat) = -66 := rfl
  have ep : ((66 : Int) : Rat) = 66 := rfl
  rw [em] at hz1
  rw [ep] at hz2
  have ht := top32
  have h7 := p2_le (show (7 : Int) ≤ 127 by decide)
  have e7 : p2 7 = ((128 : Nat) : Rat) := p2_nat 7
  have e7' : ((128 : Nat) : Rat) = 128 := rfl
  rw [e7, e7'] at h7
  have g := i2f_val (k := .f32) (n := z) (by unfold Bd; constructor <;> grind_linarith)
  have hv := g.exact (repI z (by omega) rfl)
  have hx0 : fval .f32 x ≠ 0 := by intro hh; rw [hh] at b; grind_linarith
  have hq := Rat.div_mul_cancel (a := fval .f32 (i2f .f32 z)) hx0
  have gq := fun hb => fdiv_val (q := fval .f32 (i2f .f32 z) / fval .f32 x) g.1 a hx0 hq hb
  generalize fval .f32 (i2f .f32 z) / fval .f32 x = q at hq gq
  rw [hv] at hq
  have hxp : 0 < fval .f32 x := by grind_linarith
  have q1 : -132 ≤ q := by
    refine Rat.le_of_mul_le_mul_right (c := fval .f32 x) ?_ hxp
    rw [hq]; grind_linarith
  have q2 : q ≤ 132 := by
    refine Rat.le_of_mul_le_mul_right (c := fval .f32 x) ?_ hxp
    rw [hq]; grind_linarith
  exact In32_of (repI (-132) (by decide) rfl) (repI 132 (by decide) rfl) q1 q2 (by decide) (by decide) gq
theorem kA_in {x : Nat} (h : In32 x (1 / 2) 16) {k : Nat} (hk : (k : Int) ≤ 2 * kR x) : FinW .f32 (kA x k) ∧ fval .f32 (kA x k) ≤ 0 := by
  obtain ⟨a, b, c⟩ := kU_in h hk
  unfold kA
  generalize kU x k = u at *
  rcases (Rat.le_total : fval .f32 u ≤ 0 ∨ 0 ≤ fval .f32 u) with hs | hs
  · obtain ⟨m1, m2, m3⟩ := In32_of (r := fbin .mul .f32 3204448256 u) (repI 0 (by decide) rfl) (repI 66 (by decide) rfl) (by show (0 : Rat) ≤ _; rw [c_mhalf.2]; grind_linarith) (by show _ ≤ (66 : Rat); rw [c_mhalf.2]; grind_linarith) (by decide) (by decide) (fmul_val c_mhalf.1 a)
    have e0 : ((0 : Int) : Rat) = 0 := rfl
    have e66 : ((66 : Int) : Rat) = 66 := rfl
    rw [e0] at m2
    rw [e66] at m3
    obtain ⟨p1, p2'⟩ := mul_in m2 m3 (show (0 : Rat) ≤ -fval .f32 u by grind_linarith) (show -fval .f32 u ≤ 132 by grind_linarith)
    obtain ⟨x1, x2, x3⟩ := In32_of (r := fbin .mul .f32 (fbin .mul .f32 3204448256 u) u) (repI (-8712) (by decide) rfl) (repI 0 (by decide) rfl) (by show (-8712 : Rat) ≤ _; grind_linarith) (by show _ ≤ (0 : Rat); grind_linarith) (by decide) (by decide) (fmul_val m1 a)
    exact ⟨x1, x3⟩
  · obtain ⟨m1, m2, m3⟩ := In32_of (r := fbin .mul .f32 3204448256 u) (repI (-66) (by decide) rfl) (repI 0 (by decide) rfl) (by show (-66 : Rat) ≤ _; rw [c_mhalf.2]; grind_linarith) (by show _ ≤ (0 : Rat); rw [c_mhalf.2]; grind_linarith) (by decide) (by decide) (fmul_val c_mhalf.1 a)
    have e0 : ((0 : Int) : Rat) = 0 := rfl
    have e66 : ((-66 : Int) : Rat) = -66 := rfl
    rw [e66] at m2
    rw [e0] at m3
    obtain ⟨p1, p2'⟩ := mul_in (show (0 : Rat) ≤ -fval .f32 (fbin .mul .f32 3204448256 u) by grind_linarith) (show -fval .f32 (fbin .mul .f32 3204448256 u) ≤ 66 by grind_linarith) hs c
    obtain ⟨x1, x2, x3⟩ := In32_of (r := fbin .mul .f32 (fbin .mul .f32 3204448256 u) u) (repI (-8712) (by decide) rfl) (repI 0 (by decide) rfl) (by show (-8712 : Rat) ≤ _; grind_linarith) (by show _ ≤ (0 : Rat); grind_linarith) (by decide) (by decide) (fmul_val m1 a)
    exact ⟨x1, x3⟩
theorem expR_in {x : Nat} (hx : FinW .f32 x) (h0 : fval .f32 x ≤ 0) : In32 (expR x) 0 1 := by
  obtain ⟨a, b⟩ := f64_fin hx
  obtain ⟨c, d, e⟩ := expW_in a (by rw [b]; exact h0)
  have hp := p2_le (show (0 : Int) ≤ 127 by decide)
  have ht := top32
  rw [p2_zero] at hp
  obtain ⟨w, hw, g⟩ := f2f_fin c (by unfold Bd; constructor <;> grind_linarith)
  have he : expR x = w := by unfold expR; rw [hw]; rfl
  rw [he]
  exact ⟨g.1, g.ge (repI 0 (by decide) rfl) d, g.le (repI 1 (by decide) rfl) e⟩
theorem kW_in {x : Nat} (h : In32 x (1 / 2) 16) {k : Nat} (hk : (k : Int) ≤ 2 * kR x) : In32 (kW x k) 0 2 := by
  obtain ⟨f, f0⟩ := kA_in h hk
  obtain ⟨e1, e2, e3⟩ := expR_in f f0
  obtain ⟨a, b, c⟩ := h
  unfold kW
  generalize expR (kA x k) = e at *
  have hx0 : fval .f32 x ≠ 0 := by intro hh; rw [hh] at b; grind_linarith
  have hq := Rat.div_mul_cancel (a := fval .f32 e) hx0
  have gq := fun hb => fdiv_val (q := fval .f32 e / fval .f32 x) e1 a hx0 hq hb
  generalize fval .f32 e / fval .f32 x = q at hq gq
  have hxp : 0 < fval .f32 x := by grind_linarith
  have q1 : 0 ≤ q := by
    refine Rat.le_of_mul_le_mul_right (c := fval .f32 x) ?_ hxp
    rw [hq]; grind_linarith
  have q2 : q ≤ 2 := by
    refine Rat.le_of_mul_le_mul_right (c := fval .f32 x) ?_ hxp
    rw [hq]; grind_linarith
  exact In32_of (repI 0 (by decide) rfl) (repI 2 (by decide) rfl) q1 q2 (by decide) (by decide) gq
theorem kC_fin {x : Nat} (h : In32 x (1 / 2) 16) {k : Nat} (hk : (k : Int) ≤ 2 * kR x) : finF (kC x k).1 = true ∧ finF (kC x k).2 = true := by
  obtain ⟨u1, u2, u3⟩ := kU_in h hk
  obtain ⟨w1, w2, w3⟩ := kW_in h hk
  obtain ⟨v1, v2⟩ := f64_fin u1
  obtain ⟨_, _, _, hf⟩ := frac_in v1 (by rw [v2]; grind_linarith) (by rw [v2]; grind_linarith)
  obtain ⟨x1, x2⟩ := phX_in hf
  obtain ⟨_, n1, n2⟩ := nar_in x1
  obtain ⟨_, n3, n4⟩ := nar_in x2
  have hw : Bd (fval .f32 (kW x k)) 2 := by unfold Bd; constructor <;> grind_linarith
  clear hf x1 x2
  have m1 := bd_mul n2 hw
  have m2 := bd_mul n4 hw
  unfold Bd at m1 m2
  simp only [kC]
  clear u1 u2 u3 v1 v2 w2 w3 hw h hk
  generalize narF (phX (f64 (kU x k))) = a at *
  generalize narF (phY (f64 (kU x k))) = b at *
  generalize kW x k = w at *
  have f1 := In32_of (repI (-4) (by decide) rfl) (repI 4 (by decide) rfl) (show ((-4 : Int) : Rat) ≤ fval .f32 a * fval .f32 w from by show (-4 : Rat) ≤ _; grind_linarith) (show fval .f32 a * fval .f32 w ≤ ((4 : Int) : Rat) from by show _ ≤ (4 : Rat); grind_linarith) (by decide) (by decide) (fmul_val n1 w1)
  have f2 := In32_of (repI (-4) (by decide) rfl) (repI 4 (by decide) rfl) (show ((-4 : Int) : Rat) ≤ fval .f32 b * fval .f32 w from by show (-4 : Rat) ≤ _; grind_linarith) (show fval .f32 b * fval .f32 w ≤ ((4 : Int) : Rat) from by show _ ≤ (4 : Rat); grind_linarith) (by decide) (by decide) (fmul_val n3 w1)
  exact ⟨f1.1.fin, f2.1.fin⟩
theorem kC_1 (x k : Nat) : fbin .mul .f32 (narF (phX (f64 (kU x k)))) (kW x k) = (kC x k).1 := by simp only [kC]
theorem kC_2 (x k : Nat) : fbin .mul .f32 (narF (phY (f64 (kU x k)))) (kW x k) = (kC x k).2 := by simp only [kC]
theorem kL_succ (x n : Nat) : (kL x n).map cv ++ [.complex .f32 (kC x n).1 (kC x n).2] = (kL x (n + 1)).map cv := by simp [kL, List.range_succ, cv]
theorem i_kernel_ok {H : Heap} {x : Nat} (h : In32 x (1 / 2) 16) : ACalls Try.prog n_i_kernel [.float .f32 x] H fun r H' => Ext H H' ∧ H.n < H'.n ∧ r = .tuple #[.slice (some ⟨H.n, 0, none⟩) (2 * (kR x).toNat + 1) (2 * (kR x).toNat + 1), .int .i64 (kR x)] ∧ H'.blk H.n = some ⟨true, t_complex64, (kL x (2 * (kR x).toNat + 1)).map cv⟩ := by
  obtain ⟨a1, a2, a3⟩ := kR_ok h
  have ha := acv_trunc a1
  refine k_i_kernel.run rfl ?_
  unfold c_i_kernel
  simp (disch := first | assumption | omega | rfl | (refine id ?_; simp only [gxD, ne_eq, reduceCtorEq, not_false_eq_true, Nat.reduceAdd, *]; done) | (refine id ?_; simp only [gxD]; omega)) only [↓gxPre, gxPost, ↓reduceIte, Nat.reduceEqDiff, reduceCtorEq, Nat.reduceAdd]
  refine callR_pure m_Ceil_ok (.inl rfl) ?_
  simp (disch := first | assumption | omega | rfl | (refine id ?_; simp only [gxD, ne_eq, reduceCtorEq, not_false_eq_true, Nat.reduceAdd, *]; done) | (refine id ?_; simp only [gxD]; omega)) only [↓gxPre, gxPost, ↓reduceIte, Nat.reduceEqDiff, reduceCtorEq, Nat.reduceAdd, ha]
  obtain ⟨R, hR⟩ : ∃ R : Nat, kR x = R := ⟨(kR x).toNat, by omega⟩
  rw [hR, Int.toNat_natCast]
  rw [hR] at a2 a3
  refine loop_forH (2 * R + 1) (fun i => [.float .f32 x, .int .i64 (R : Int), .slice (some ⟨H.n, 0, none⟩) i i, .int .i64 (2 * (R : Int) + 1), .int .i64 (i : Int)])
    (fun i G => H.n + 1 ≤ G.n ∧ Ext H G ∧ G.blk H.n = some ⟨true, t_complex64, (kL x i).map cv⟩) rfl ⟨by simp only [new_n]; omega, ⟨by first | omega | (simp only [new_n, put_n]; omega) | (simp only [new_n, put_n] at *; omega), fun i hi => by simp (disch := first | assumption | omega | rfl | (refine id ?_; simp only [gxD, ne_eq, reduceCtorEq, not_false_eq_true, Nat.reduceAdd, *]; done) | (refine id ?_; simp only [gxD]; omega)) only [↓gxPre, gxPost, ↓reduceIte, Nat.reduceEqDiff, reduceCtorEq, Nat.reduceAdd, *]⟩, by simp (disch := first | assumption | omega | rfl | (refine id ?_; simp only [gxD, ne_eq, reduceCtorEq, not_false_eq_true, Nat.reduceAdd, *]; done) | (refine id ?_; simp only [gxD]; omega)) only [↓gxPre, gxPost, ↓reduceIte, Nat.reduceEqDiff, reduceCtorEq, Nat.reduceAdd]; rfl⟩ ?_ ?_
  · rintro G ⟨g1, g2, g3⟩
    have c : ¬ (((2 * R + 1 : Nat) : Int) < 2 * (R : Int) + 1) := by omega
    simp (disch := first | assumption | omega | rfl | (refine id ?_; simp only [gxD, ne_eq, reduceCtorEq, not_false_eq_true, Nat.reduceAdd, *]; done) | (refine id ?_; simp only [gxD]; omega)) only [↓gxPre, gxPost, ↓reduceIte, Nat.reduceEqDiff, reduceCtorEq, Nat.reduceAdd, c]
    exact ⟨g2, by omega, g3⟩
  · rintro i G hi ⟨g1, g2, g3⟩
    have hk : (i : Int) ≤ 2 * kR x := by omega
    have c : (i : Int) < 2 * (R : Int) + 1 := by omega
    have hU : fbin .quo .f32 (i2f .f32 ((i : Int) - (R : Int))) x = kU x i := by rw [← hR]; rfl
    have hA : fbin .mul .f32 (fbin .mul .f32 3204448256 (kU x i)) (kU x i) = kA x i := rfl
    have hW : fbin .quo .f32 (expR (kA x i)) x = kW x i := rfl
    obtain ⟨u1, u2, u3⟩ := kU_in h hk
    obtain ⟨f1, f0⟩ := kA_in h hk
    obtain ⟨v1, v2⟩ := f64_fin u1
    have hl64 := f64_lt u1
    simp (disch := first | assumption | omega | rfl | (refine id ?_; simp only [gxD, ne_eq, reduceCtorEq, not_false_eq_true, Nat.reduceAdd, *]; done) | (refine id ?_; simp only [gxD]; omega)) only [↓gxPre, gxPost, ↓reduceIte, Nat.reduceEqDiff, reduceCtorEq, Nat.reduceAdd, c, hU, hA]
    refine callR_pure (i_ExpNumber_ok f1 f0) (.inl rfl) ?_
    simp (disch := first | assumption | omega | rfl | (refine id ?_; simp only [gxD, ne_eq, reduceCtorEq, not_false_eq_true, Nat.reduceAdd, *]; done) | (refine id ?_; simp only [gxD]; omega)) only [↓gxPre, gxPost, ↓reduceIte, Nat.reduceEqDiff, reduceCtorEq, Nat.reduceAdd, hW]
    refine callR_pure (i_PhasorOf_ok v1 hl64 (by rw [v2]; grind_linarith) (by rw [v2]; grind_linarith)) (.inl rfl) ?_
    unfold phV
    simp (disch := first | assumption | omega | rfl | (refine id ?_; simp only [gxD, ne_eq, reduceCtorEq, not_false_eq_true, Nat.reduceAdd, *]; done) | (refine id ?_; simp only [gxD]; omega)) only [↓gxPre, gxPost, ↓reduceIte, Nat.reduceEqDiff, reduceCtorEq, Nat.reduceAdd]
    refine callR_pure i_ScaleComplex_ok (.inl rfl) ?_
    have hml : ((kL x i).map cv).length = i := by simp [kL]
    have hsn := kL_succ x i
    rw [kC_1, kC_2]
    obtain ⟨p1, p2', p3, p4⟩ := push_at g2 g3 (Nat.le_refl _) (by omega) hsn
    have oc : one (Value.complex .f32 (kC x i).1 (kC x i).2) = true := rfl
    simp (disch := first | assumption | omega | rfl | (refine id ?_; simp only [gxD, ne_eq, reduceCtorEq, not_false_eq_true, Nat.reduceAdd, *]; done) | (refine id ?_; simp only [gxD]; omega)) only [↓gxPre, gxPost, ↓reduceIte, Nat.reduceEqDiff, reduceCtorEq, Nat.reduceAdd, g3]
    exact ⟨by simp, by omega, p1, by rw [hsn]⟩
theorem s_l03Kernel_ok {H : Heap} {x : Nat} (h : In32 x (1 / 2) 16) : ACalls Try.prog n_s_l03Kernel [.float .f32 x] H fun r H' => Ext H H' ∧ H.n < H'.n ∧ r = .slice (some ⟨H.n, 0, none⟩) (2 * (kR x).toNat + 1) (2 * (kR x).toNat + 1) ∧ H'.blk H.n = some ⟨true, t_complex64, (kL x (2 * (kR x).toNat + 1)).map cv⟩ := by
  obtain ⟨a1, a2, a3⟩ := kR_ok h
  have ha := acv_trunc a1
  refine k_s_l03Kernel.run rfl ?_
  unfold c_s_l03Kernel
  simp (disch := first | assumption | omega | rfl | (refine id ?_; simp only [gxD, ne_eq, reduceCtorEq, not_false_eq_true, Nat.reduceAdd, *]; done) | (refine id ?_; simp only [gxD]; omega)) only [↓gxPre, gxPost, ↓reduceIte, Nat.reduceEqDiff, reduceCtorEq, Nat.reduceAdd]
  refine callR_pure m_Ceil_ok (.inl rfl) ?_
  simp (disch := first | assumption | omega | rfl | (refine id ?_; simp only [gxD, ne_eq, reduceCtorEq, not_false_eq_true, Nat.reduceAdd, *]; done) | (refine id ?_; simp only [gxD]; omega)) only [↓gxPre, gxPost, ↓reduceIte, Nat.reduceEqDiff, reduceCtorEq, Nat.reduceAdd, ha]
  obtain ⟨R, hR⟩ : ∃ R : Nat, kR x = R := ⟨(kR x).toNat, by omega⟩
  rw [hR, Int.toNat_natCast]
  rw [hR] at a2 a3
  refine loop_forH (2 * R + 1) (fun i => [.float .f32 x, .int .i64 (R : Int), .slice (some ⟨H.n, 0, none⟩) i i, .int .i64 (i : Int)])
    (fun i G => H.n + 1 ≤ G.n ∧ Ext H G ∧ G.blk H.n = some ⟨true, t_complex64, (kL x i).map cv⟩) rfl ⟨by simp only [new_n]; omega, ⟨by first | omega | (simp only [new_n, put_n]; omega) | (simp only [new_n, put_n] at *; omega), fun i hi => by simp (disch := first | assumption | omega | rfl | (refine id ?_; simp only [gxD, ne_eq, reduceCtorEq, not_false_eq_true, Nat.reduceAdd, *]; done) | (refine id ?_; simp only [gxD]; omega)) only [↓gxPre, gxPost, ↓reduceIte, Nat.reduceEqDiff, reduceCtorEq, Nat.reduceAdd, *]⟩, by simp (disch := first | assumption | omega | rfl | (refine id ?_; simp only [gxD, ne_eq, reduceCtorEq, not_false_eq_true, Nat.reduceAdd, *]; done) | (refine id ?_; simp only [gxD]; omega)) only [↓gxPre, gxPost, ↓reduceIte, Nat.reduceEqDiff, reduceCtorEq, Nat.reduceAdd]; rfl⟩ ?_ ?_
  · rintro G ⟨g1, g2, g3⟩
    have c : ¬ (((2 * R + 1 : Nat) : Int) ≤ 2 * (R : Int)) := by omega
    simp (disch := first | assumption | omega | rfl | (refine id ?_; simp only [gxD, ne_eq, reduceCtorEq, not_false_eq_true, Nat.reduceAdd, *]; done) | (refine id ?_; simp only [gxD]; omega)) only [↓gxPre, gxPost, ↓reduceIte, Nat.reduceEqDiff, reduceCtorEq, Nat.reduceAdd, c]
    exact ⟨g2, by omega, g3⟩
  · rintro i G hi ⟨g1, g2, g3⟩
    have hk : (i : Int) ≤ 2 * kR x := by omega
    have c : (i : Int) ≤ 2 * (R : Int) := by omega
    have hU : fbin .quo .f32 (i2f .f32 ((i : Int) - (R : Int))) x = kU x i := by rw [← hR]; rfl
    have hA : fbin .mul .f32 (fbin .mul .f32 3204448256 (kU x i)) (kU x i) = kA x i := rfl
    have hW : fbin .quo .f32 (expR (kA x i)) x = kW x i := rfl
    obtain ⟨u1, u2, u3⟩ := kU_in h hk
    obtain ⟨f1, f0⟩ := kA_in h hk
    obtain ⟨v1, v2⟩ := f64_fin u1
    have hl64 := f64_lt u1
    simp (disch := first | assumption | omega | rfl | (refine id ?_; simp only [gxD, ne_eq, reduceCtorEq, not_false_eq_true, Nat.reduceAdd, *]; done) | (refine id ?_; simp only [gxD]; omega)) only [↓gxPre, gxPost, ↓reduceIte, Nat.reduceEqDiff, reduceCtorEq, Nat.reduceAdd, c, hU, hA]
    refine callR_pure (s_l01Exp_ok f1 f0) (.inl rfl) ?_
    simp (disch := first | assumption | omega | rfl | (refine id ?_; simp only [gxD, ne_eq, reduceCtorEq, not_false_eq_true, Nat.reduceAdd, *]; done) | (refine id ?_; simp only [gxD]; omega)) only [↓gxPre, gxPost, ↓reduceIte, Nat.reduceEqDiff, reduceCtorEq, Nat.reduceAdd, hW]
    refine callR_pure (s_l01Phasor_ok v1 (by rw [v2]; grind_linarith) (by rw [v2]; grind_linarith)) (.inl rfl) ?_
    unfold phV
    simp (disch := first | assumption | omega | rfl | (refine id ?_; simp only [gxD, ne_eq, reduceCtorEq, not_false_eq_true, Nat.reduceAdd, *]; done) | (refine id ?_; simp only [gxD]; omega)) only [↓gxPre, gxPost, ↓reduceIte, Nat.reduceEqDiff, reduceCtorEq, Nat.reduceAdd]
    refine callR_pure s_l01Scale_ok (.inl rfl) ?_
    have hml : ((kL x i).map cv).length = i := by simp [kL]
    have hsn := kL_succ x i
    rw [kC_1, kC_2]
    obtain ⟨p1, p2', p3, p4⟩ := push_at g2 g3 (Nat.le_refl _) (by omega) hsn
    have oc : one (Value.complex .f32 (kC x i).1 (kC x i).2) = true := rfl
    simp (disch := first | assumption | omega | rfl | (refine id ?_; simp only [gxD, ne_eq, reduceCtorEq, not_false_eq_true, Nat.reduceAdd, *]; done) | (refine id ?_; simp only [gxD]; omega)) only [↓gxPre, gxPost, ↓reduceIte, Nat.reduceEqDiff, reduceCtorEq, Nat.reduceAdd, g3]
    exact ⟨by simp, by omega, p1, by rw [hsn]⟩
end Go.Proofs.Ytkojmlpaamdhoae

namespace Go.Proofs.Ytkojmlpaamdhoae
open Go.Gx
set_option maxRecDepth 100000
set_option linter.unusedSimpArgs false
set_option linter.unusedVariables false

def finC (p : Nat × Nat) : Bool := finF p.1 && finF p.2
theorem cv_ld {H : Heap} {v : Value} {xs : List (Nat × Nat)} (h : Sl H v (xs.map cv)) (j : Nat) (h1 : j < xs.length) : aLd (elp v j) H = some (.complex .f32 (xs.getD j (0, 0)).1 (xs.getD j (0, 0)).2) := by
  rw [Sl.ld h j (by simpa using h1)]
  simp [List.getD_eq_getElem?_getD, h1, cv]
theorem cv_ia {H : Heap} {v : Value} {xs : List (Nat × Nat)} (h : Sl H v (xs.map cv)) (k : IntKind) (j : Int) (h0 : 0 ≤ j) (h1 : j < xs.length) : aIa v (.int k j) H = some (elp v j.toNat) := Sl.ia h k j h0 (by simpa using h1)
theorem cv_len {H : Heap} {v : Value} {xs : List (Nat × Nat)} (h : Sl H v (xs.map cv)) : aLen v = some (.int .i64 xs.length) := by simpa using Sl.len h
theorem kL_len (x n : Nat) : (kL x n).length = n := by simp [kL]
theorem i_IsFiniteComplex_ok {H : Heap} {a b : Nat} : ACalls Try.prog n_i_IsFiniteComplex [.complex .f32 a b] H fun r H' => r = .bool (finF a && finF b) ∧ H' = H := by
  refine k_i_IsFiniteComplex.run rfl ?_
  unfold c_i_IsFiniteComplex
  simp (disch := first | assumption | omega | rfl | (refine id ?_; simp only [gxD, ne_eq, reduceCtorEq, not_false_eq_true, Nat.reduceAdd, *]; done) | (refine id ?_; simp only [gxD]; omega)) only [↓gxPre, gxPost, ↓reduceIte, Nat.reduceEqDiff, reduceCtorEq, Nat.reduceAdd]
  refine callR_pure i_IsFinite_ok (.inl rfl) ?_
  cases h : finF a
  · simp (disch := first | assumption | omega | rfl | (refine id ?_; simp only [gxD, ne_eq, reduceCtorEq, not_false_eq_true, Nat.reduceAdd, *]; done) | (refine id ?_; simp only [gxD]; omega)) only [↓gxPre, gxPost, ↓reduceIte, Nat.reduceEqDiff, reduceCtorEq, Nat.reduceAdd]
    simp
  · simp (disch := first | assumption | omega | rfl | (refine id ?_; simp only [gxD, ne_eq, reduceCtorEq, not_false_eq_true, Nat.reduceAdd, *]; done) | (refine id ?_; simp only [gxD]; omega)) only [↓gxPre, gxPost, ↓reduceIte, Nat.reduceEqDiff, reduceCtorEq, Nat.reduceAdd]
    refine callR_pure i_IsFinite_ok (.inl rfl) ?_
    simp (disch := first | assumption | omega | rfl | (refine id ?_; simp only [gxD, ne_eq, reduceCtorEq, not_false_eq_true, Nat.reduceAdd, *]; done) | (refine id ?_; simp only [gxD]; omega)) only [↓gxPre, gxPost, ↓reduceIte, Nat.reduceEqDiff, reduceCtorEq, Nat.reduceAdd]
    simp
theorem i_finiteComplex_ok {H : Heap} {v : Value} {xs : List (Nat × Nat)} (hv : Sl H v (xs.map cv)) (hn : xs.length ≤ 2 ^ 40) : ACalls Try.prog n_i_finiteComplex [v] H fun r H' => r = .tuple #[if xs.all finC = true then v else .slice none 0 0, .bool (xs.all finC)] ∧ H' = H := by
  refine k_i_finiteComplex.run rfl ?_
  unfold c_i_finiteComplex
  have o := Sl.one hv
  simp (disch := first | assumption | omega | rfl | (refine id ?_; simp only [gxD, ne_eq, reduceCtorEq, not_false_eq_true, Nat.reduceAdd, *]; done) | (refine id ?_; simp only [gxD]; omega)) only [↓gxPre, gxPost, ↓reduceIte, Nat.reduceEqDiff, reduceCtorEq, Nat.reduceAdd, cv_len hv]
  refine loop_forH xs.length (fun i => [v, v, .int .i64 xs.length, .int .i64 i]) (fun i G => G = H ∧ ∀ j, j < i → finC (xs.getD j (0, 0)) = true) rfl ⟨rfl, by intros; omega⟩ ?_ ?_
  · rintro _ ⟨rfl, hJ⟩
    have hall : xs.all finC = true := (allD (0, 0)).2 hJ
    simp (disch := first | assumption | omega | rfl | (refine id ?_; simp only [gxD, ne_eq, reduceCtorEq, not_false_eq_true, Nat.reduceAdd, *]; done) | (refine id ?_; simp only [gxD]; omega)) only [↓gxPre, gxPost, ↓reduceIte, Nat.reduceEqDiff, reduceCtorEq, Nat.reduceAdd, Int.lt_irrefl]
    simp [hall]
  · rintro i _ hi ⟨rfl, hJ⟩
    simp (disch := first | assumption | omega | rfl | (refine id ?_; simp only [gxD, ne_eq, reduceCtorEq, not_false_eq_true, Nat.reduceAdd, *]; done) | (refine id ?_; simp only [gxD]; omega)) only [↓gxPre, gxPost, ↓reduceIte, Nat.reduceEqDiff, reduceCtorEq, Nat.reduceAdd, cv_ia hv, cv_ld hv]
    refine callR_pure i_IsFiniteComplex_ok (.inl rfl) ?_
    cases hf : (finF (xs.getD i (0, 0)).1 && finF (xs.getD i (0, 0)).2)
    · have hno : xs.all finC = false := by
        cases ha : xs.all finC
        · rfl
        · have := (allD (0, 0)).1 ha i hi
          unfold finC at this
          rw [hf] at this
          cases this
      simp (disch := first | assumption | omega | rfl | (refine id ?_; simp only [gxD, ne_eq, reduceCtorEq, not_false_eq_true, Nat.reduceAdd, *]; done) | (refine id ?_; simp only [gxD]; omega)) only [↓gxPre, gxPost, ↓reduceIte, Nat.reduceEqDiff, reduceCtorEq, Nat.reduceAdd]
      simp [hno]
    · simp (disch := first | assumption | omega | rfl | (refine id ?_; simp only [gxD, ne_eq, reduceCtorEq, not_false_eq_true, Nat.reduceAdd, *]; done) | (refine id ?_; simp only [gxD]; omega)) only [↓gxPre, gxPost, ↓reduceIte, Nat.reduceEqDiff, reduceCtorEq, Nat.reduceAdd]
      exact ⟨by simp, Nat.forall_lt_succ_right.2 ⟨hJ, hf⟩⟩
theorem i_RippleKernel_law {H : Heap} {a0 : Nat} (b0 : a0 < 2 ^ 32) :
    ACalls Try.prog n_i_RippleKernel [.float .f32 a0] H fun r H' => ListR cv t_complex64 H (scaleF a0) (kL a0 (2 * (kR a0).toNat + 1)) r H' := by
  refine k_i_RippleKernel.run rfl ?_
  unfold c_i_RippleKernel
  simp (disch := first | assumption | omega | rfl | (refine id ?_; simp only [gxD, ne_eq, reduceCtorEq, not_false_eq_true, Nat.reduceAdd, *]; done) | (refine id ?_; simp only [gxD]; omega)) only [↓gxPre, gxPost, ↓reduceIte, Nat.reduceEqDiff, reduceCtorEq, Nat.reduceAdd]
  refine callR_pure i_isScale_ok (.inl rfl) ?_
  cases hs : scaleF a0
  · simp (disch := first | assumption | omega | rfl | (refine id ?_; simp only [gxD, ne_eq, reduceCtorEq, not_false_eq_true, Nat.reduceAdd, *]; done) | (refine id ?_; simp only [gxD]; omega)) only [↓gxPre, gxPost, ↓reduceIte, Nat.reduceEqDiff, reduceCtorEq, Nat.reduceAdd]
    exact .no rfl (.refl _)
  have h := scale_dom hs
  obtain ⟨_, r1, r2⟩ := kR_ok h
  simp (disch := first | assumption | omega | rfl | (refine id ?_; simp only [gxD, ne_eq, reduceCtorEq, not_false_eq_true, Nat.reduceAdd, *]; done) | (refine id ?_; simp only [gxD]; omega)) only [↓gxPre, gxPost, ↓reduceIte, Nat.reduceEqDiff, reduceCtorEq, Nat.reduceAdd]
  refine callR_of (i_kernel_ok h) ?_
  rintro _ G ⟨eG, nG, rfl, bG⟩
  have hlen := kL_len a0 (2 * (kR a0).toNat + 1)
  have hsl : Sl G (.slice (some ⟨H.n, 0, none⟩) (2 * (kR a0).toNat + 1) (2 * (kR a0).toNat + 1)) ((kL a0 (2 * (kR a0).toNat + 1)).map cv) := FS0.own bG nG (by simp [kL])
  have hall : (kL a0 (2 * (kR a0).toNat + 1)).all finC = true := by
    rw [List.all_eq_true]
    intro p hp
    obtain ⟨k, hk, rfl⟩ := List.mem_map.1 hp
    have hk' := List.mem_range.1 hk
    obtain ⟨c1, c2⟩ := kC_fin h (k := k) (by omega)
    unfold finC
    rw [c1, c2]
    rfl
  simp (disch := first | assumption | omega | rfl | (refine id ?_; simp only [gxD, ne_eq, reduceCtorEq, not_false_eq_true, Nat.reduceAdd, *]; done) | (refine id ?_; simp only [gxD]; omega)) only [↓gxPre, gxPost, ↓reduceIte, Nat.reduceEqDiff, reduceCtorEq, Nat.reduceAdd]
  refine callR_pure (i_finiteComplex_ok hsl (by omega)) (.inl rfl) ?_
  rw [hall]
  simp (disch := first | assumption | omega | rfl | (refine id ?_; simp only [gxD, ne_eq, reduceCtorEq, not_false_eq_true, Nat.reduceAdd, *]; done) | (refine id ?_; simp only [gxD]; omega)) only [↓gxPre, gxPost, ↓reduceIte, Nat.reduceEqDiff, reduceCtorEq, Nat.reduceAdd]
  exact .yes rfl eG (.mk bG (by simp [kL]) (Nat.le_refl _) nG nG) (by omega)
theorem s_RippleKernel_law {H : Heap} {a0 : Nat} (b0 : a0 < 2 ^ 32) :
    ACalls Try.prog n_s_RippleKernel [.float .f32 a0] H fun r H' => ListR cv t_complex64 H (scaleF a0) (kL a0 (2 * (kR a0).toNat + 1)) r H' := by
  refine k_s_RippleKernel.run rfl ?_
  unfold c_s_RippleKernel
  simp (disch := first | assumption | omega | rfl | (refine id ?_; simp only [gxD, ne_eq, reduceCtorEq, not_false_eq_true, Nat.reduceAdd, *]; done) | (refine id ?_; simp only [gxD]; omega)) only [↓gxPre, gxPost, ↓reduceIte, Nat.reduceEqDiff, reduceCtorEq, Nat.reduceAdd]
  refine callR_pure s_l03Scale_ok (.inl rfl) ?_
  cases hs : scaleF a0
  · simp (disch := first | assumption | omega | rfl | (refine id ?_; simp only [gxD, ne_eq, reduceCtorEq, not_false_eq_true, Nat.reduceAdd, *]; done) | (refine id ?_; simp only [gxD]; omega)) only [↓gxPre, gxPost, ↓reduceIte, Nat.reduceEqDiff, reduceCtorEq, Nat.reduceAdd]
    exact .no rfl (.refl _)
  have h := scale_dom hs
  obtain ⟨_, r1, r2⟩ := kR_ok h
  simp (disch := first | assumption | omega | rfl | (refine id ?_; simp only [gxD, ne_eq, reduceCtorEq, not_false_eq_true, Nat.reduceAdd, *]; done) | (refine id ?_; simp only [gxD]; omega)) only [↓gxPre, gxPost, ↓reduceIte, Nat.reduceEqDiff, reduceCtorEq, Nat.reduceAdd]
  refine callR_of (s_l03Kernel_ok h) ?_
  rintro _ G ⟨eG, nG, rfl, bG⟩
  have hlen := kL_len a0 (2 * (kR a0).toNat + 1)
  simp (disch := first | assumption | omega | rfl | (refine id ?_; simp only [gxD, ne_eq, reduceCtorEq, not_false_eq_true, Nat.reduceAdd, *]; done) | (refine id ?_; simp only [gxD]; omega)) only [↓gxPre, gxPost, ↓reduceIte, Nat.reduceEqDiff, reduceCtorEq, Nat.reduceAdd]
  exact .yes rfl eG (.mk bG (by simp [kL]) (Nat.le_refl _) nG nG) (by omega)
end Go.Proofs.Ytkojmlpaamdhoae

namespace Go.Proofs.Ytkojmlpaamdhoae
open Go.Gx
set_option maxRecDepth 100000
set_option linter.unusedSimpArgs false
set_option linter.unusedVariables false

def nkF (n : Int) : Nat := (f2f .f64 (i2f .f64 n) .f32).getD 0
def markC (k : Int) (j : Nat) : Value := .complex .f32 (nkF (k + (j : Int))) 1065353216
theorem nk_ok {n : Int} (h0 : 0 ≤ n) (h1 : n ≤ 2 ^ 62) : f2f .f64 (i2f .f64 n) .f32 = some (nkF n) ∧ FinW .f32 (nkF n) := by
  have e62 : p2 62 = ((4611686018427387904 : Nat) : Rat) := p2_nat 62
  have a1 : ((0 : Int) : Rat) ≤ (n : Rat) := Rat.intCast_le_intCast.2 h0
  have a2 : (n : Rat) ≤ ((4611686018427387904 : Int) : Rat) := Rat.intCast_le_intCast.2 (by omega)
  have e0 : ((0 : Int) : Rat) = 0 := rfl
  have e4 : ((4611686018427387904 : Int) : Rat) = ((4611686018427387904 : Nat) : Rat) := rfl
  rw [e0] at a1
  rw [e4, ← e62] at a2
  have t64 := top_ge (show (62 : Int) ≤ 1023 by decide)
  have t127 := p2_le (show (62 : Int) ≤ 127 by decide)
  have t32 := top32
  have hp := p2_pos 62
  have g := i2f_val (k := .f64) (n := n) (by unfold Bd; constructor <;> grind_linarith)
  have hb := g.bd (Rep.p2 (by decide)) (show Bd (n : Rat) (p2 62) by unfold Bd; constructor <;> grind_linarith)
  unfold Bd at hb
  obtain ⟨w, hw, gw⟩ := f2f_fin g.1 (by unfold Bd; constructor <;> grind_linarith)
  have hz : nkF n = w := by unfold nkF; rw [hw]; rfl
  rw [hz]
  exact ⟨hw, gw.1⟩
theorem one_nar : f2f .f64 4607182418800017408 .f32 = some 1065353216 := by decide +kernel
theorem one_fin32 : FinW .f32 1065353216 := by
  have h : FloatKind.f32.decode 1065353216 = .number false 8388608 (-23) := by decide +kernel
  exact ⟨_, _, _, h⟩
theorem acv_markC {n : Int} (h0 : 0 ≤ n) (h1 : n ≤ 2 ^ 62) : acv (.c .f32) (.complex .f64 (i2f .f64 n) 4607182418800017408) = some (.complex .f32 (nkF n) 1065353216) := by
  unfold acv
  simp only [(nk_ok h0 h1).1, one_nar]
theorem acv_wideC {a b : Nat} : acv (.c .f64) (.complex .f32 a b) = some (.complex .f64 (f64 a) (f64 b)) := by
  unfold acv
  simp only [f2f_wide]
theorem feq_self {w : Nat} (h : FinW .f32 w) : feq .f32 w w = true := by
  have := finW_neq h
  have e : fcB .neq .f32 w w = !feq .f32 w w := rfl
  rw [e] at this
  simpa using this
theorem w_sameComplex_ok {H : Heap} {a b : Nat} : ACalls Try.prog n_w_sameComplex [.complex .f64 a b, .complex .f64 a b] H fun r H' => r = .bool true ∧ H' = H := by
  refine k_w_sameComplex.run rfl ?_
  unfold c_w_sameComplex
  simp (disch := first | assumption | omega | rfl | (refine id ?_; simp only [gxD, ne_eq, reduceCtorEq, not_false_eq_true, Nat.reduceAdd, *]; done) | (refine id ?_; simp only [gxD]; omega)) only [↓gxPre, gxPost, ↓reduceIte, Nat.reduceEqDiff, reduceCtorEq, Nat.reduceAdd]
  refine callR_pure w_sameFloat_ok (.inl rfl) ?_
  simp (disch := first | assumption | omega | rfl | (refine id ?_; simp only [gxD, ne_eq, reduceCtorEq, not_false_eq_true, Nat.reduceAdd, *]; done) | (refine id ?_; simp only [gxD]; omega)) only [↓gxPre, gxPost, ↓reduceIte, Nat.reduceEqDiff, reduceCtorEq, Nat.reduceAdd]
  refine callR_pure w_sameFloat_ok (.inl rfl) ?_
  simp (disch := first | assumption | omega | rfl | (refine id ?_; simp only [gxD, ne_eq, reduceCtorEq, not_false_eq_true, Nat.reduceAdd, *]; done) | (refine id ?_; simp only [gxD]; omega)) only [↓gxPre, gxPost, ↓reduceIte, Nat.reduceEqDiff, reduceCtorEq, Nat.reduceAdd]
theorem w_eqComplex64S_ow {H : Heap} {v u : Value} {xs : List (Nat × Nat)} (hv : Sl H v (xs.map cv)) (hu : Sl H u (xs.map cv)) (hn : xs.length ≤ 2 ^ 40) :
    ACalls Try.prog n_w_eqComplex64S [v, u] H fun r H' => r = .bool true ∧ Ext H H' := by
  refine acalls_ext ?_
  refine k_w_eqComplex64S.run rfl ?_
  unfold c_w_eqComplex64S
  simp (disch := first | assumption | omega | rfl | (refine id ?_; simp only [gxD, ne_eq, reduceCtorEq, not_false_eq_true, Nat.reduceAdd, *]; done) | (refine id ?_; simp only [gxD]; omega)) only [↓gxPre, gxPost, ↓reduceIte, Nat.reduceEqDiff, reduceCtorEq, Nat.reduceAdd, cv_len hv, cv_len hu, ne_eq, not_true]
  refine loop_for xs.length (fun i => [v, u, .int .i64 i]) rfl ?_ ?_
  · simp (disch := first | assumption | omega | rfl | (refine id ?_; simp only [gxD, ne_eq, reduceCtorEq, not_false_eq_true, Nat.reduceAdd, *]; done) | (refine id ?_; simp only [gxD]; omega)) only [↓gxPre, gxPost, ↓reduceIte, Nat.reduceEqDiff, reduceCtorEq, Nat.reduceAdd, cv_len hv, Int.lt_irrefl]
  · intro i hi
    simp (disch := first | assumption | omega | rfl | (refine id ?_; simp only [gxD, ne_eq, reduceCtorEq, not_false_eq_true, Nat.reduceAdd, *]; done) | (refine id ?_; simp only [gxD]; omega)) only [↓gxPre, gxPost, ↓reduceIte, Nat.reduceEqDiff, reduceCtorEq, Nat.reduceAdd, cv_len hv, cv_ia hv, cv_ia hu, cv_ld hv, cv_ld hu, acv_wideC]
    refine callR_pure w_sameComplex_ok (.inl rfl) ?_
    simp (disch := first | assumption | omega | rfl | (refine id ?_; simp only [gxD, ne_eq, reduceCtorEq, not_false_eq_true, Nat.reduceAdd, *]; done) | (refine id ?_; simp only [gxD]; omega)) only [↓gxPre, gxPost, ↓reduceIte, Nat.reduceEqDiff, reduceCtorEq, Nat.reduceAdd]
    simp
theorem w_markComplex64S_ow {lo hi : Nat} {H : Heap} {ty : TypeId} {v : Value} {l : List Value} {k : Int} (o : OwL lo hi H ty v l) (h0 : 0 ≤ k) (h1 : k ≤ 2 ^ 61) (hn : l.length ≤ 2 ^ 61) :
    ACalls Try.prog n_w_markComplex64S [v, .int .i64 k] H fun r H' => r = .int .i64 (k + l.length) ∧ OwL lo hi H' ty v ((List.range l.length).map (markC k)) ∧ Fr v H H' := by
  refine k_w_markComplex64S.run rfl ?_
  unfold c_w_markComplex64S
  rcases o with ⟨rfl, rfl⟩ | ⟨h, rfl, g1, g2, g3, hb⟩
  · simp (disch := first | assumption | omega | rfl | (refine id ?_; simp only [gxD, ne_eq, reduceCtorEq, not_false_eq_true, Nat.reduceAdd, *]; done) | (refine id ?_; simp only [gxD]; omega)) only [↓gxPre, gxPost, ↓reduceIte, Nat.reduceEqDiff, reduceCtorEq, Nat.reduceAdd]
    refine loop_for 0 (fun i => [.slice none 0 0, .int .i64 k, .int .i64 i]) rfl ?_ ?_
    · simp (disch := first | assumption | omega | rfl | (refine id ?_; simp only [gxD, ne_eq, reduceCtorEq, not_false_eq_true, Nat.reduceAdd, *]; done) | (refine id ?_; simp only [gxD]; omega)) only [↓gxPre, gxPost, ↓reduceIte, Nat.reduceEqDiff, reduceCtorEq, Nat.reduceAdd]
      exact ⟨by simp, .nil, .refl _ _⟩
    · intro i hi; omega
  · simp (disch := first | assumption | omega | rfl | (refine id ?_; simp only [gxD, ne_eq, reduceCtorEq, not_false_eq_true, Nat.reduceAdd, *]; done) | (refine id ?_; simp only [gxD]; omega)) only [↓gxPre, gxPost, ↓reduceIte, Nat.reduceEqDiff, reduceCtorEq, Nat.reduceAdd]
    refine loop_forH l.length (fun i => [.slice (some ⟨h, 0, none⟩) l.length l.length, .int .i64 (k + i), .int .i64 i]) (fun i H' => H' = H.put h ⟨true, ty, overL (markC k) i l⟩) (by simp) (by simp [overL_zero, put_id hb]) ?_ ?_
    · rintro _ rfl
      simp (disch := first | assumption | omega | rfl | (refine id ?_; simp only [gxD, ne_eq, reduceCtorEq, not_false_eq_true, Nat.reduceAdd, *]; done) | (refine id ?_; simp only [gxD]; omega)) only [↓gxPre, gxPost, ↓reduceIte, Nat.reduceEqDiff, reduceCtorEq, Nat.reduceAdd, Int.lt_irrefl]
      rw [overL_all _ _ _ rfl]
      exact ⟨.mk (hput_self _ _ _) (by simp) g1 g2 (by rw [put_n]; exact g3), ⟨rfl, fun i hi => hput_other _ _ _ _ fun e => hi (by rw [e]; rfl)⟩⟩
    · rintro i _ hi rfl
      have hl' := overL_length (markC k) i l (by omega)
      have := overL_set (markC k) i l (by omega)
      have hm := acv_markC (n := k + (i : Int)) (by omega) (by omega)
      have oc : one (Value.complex .f32 (nkF (k + (i : Int))) 1065353216) = true := rfl
      simp (disch := first | assumption | omega | rfl | (refine id ?_; simp only [gxD, ne_eq, reduceCtorEq, not_false_eq_true, Nat.reduceAdd, *]; done) | (refine id ?_; simp only [gxD]; omega)) only [↓gxPre, gxPost, ↓reduceIte, Nat.reduceEqDiff, reduceCtorEq, Nat.reduceAdd, hl', hm]
      simp only [markC] at this ⊢
      rw [this]
      simp [Int.add_assoc]
theorem w_heldComplex64S_ow {lo hi n : Nat} {H : Heap} {ty : TypeId} {v : Value} {k : Int} (o : OwL lo hi H ty v ((List.range n).map (markC k))) (h0 : 0 ≤ k) (h1 : k ≤ 2 ^ 61) (hn : n ≤ 2 ^ 61) :
    ACalls Try.prog n_w_heldComplex64S [v, .int .i64 k] H fun r H' => r = .int .i64 (k + n) ∧ Ext H H' := by
  refine acalls_ext ?_
  have hs := o.sl
  have hlen : aLen v = some (.int .i64 n) := by simpa using Sl.len hs
  have hia : ∀ j : Int, 0 ≤ j → j < n → aIa v (.int .i64 j) H = some (elp v j.toNat) := fun j a b => Sl.ia hs .i64 j a (by simpa using b)
  have hld : ∀ j : Nat, j < n → aLd (elp v j) H = some (.complex .f32 (nkF (k + (j : Int))) 1065353216) := fun j hj => by
    rw [Sl.ld hs j (by simpa using hj)]
    simp [hj, markC]
  refine k_w_heldComplex64S.run rfl ?_
  unfold c_w_heldComplex64S
  simp (disch := first | assumption | omega | rfl | (refine id ?_; simp only [gxD, ne_eq, reduceCtorEq, not_false_eq_true, Nat.reduceAdd, *]; done) | (refine id ?_; simp only [gxD]; omega)) only [↓gxPre, gxPost, ↓reduceIte, Nat.reduceEqDiff, reduceCtorEq, Nat.reduceAdd]
  refine loop_for n (fun i => [v, .int .i64 (k + i), .int .i64 i]) (by simp) ?_ ?_
  · simp (disch := first | assumption | omega | rfl | (refine id ?_; simp only [gxD, ne_eq, reduceCtorEq, not_false_eq_true, Nat.reduceAdd, *]; done) | (refine id ?_; simp only [gxD]; omega)) only [↓gxPre, gxPost, ↓reduceIte, Nat.reduceEqDiff, reduceCtorEq, Nat.reduceAdd, hlen, Int.lt_irrefl]
  · intro i hi
    have hm := acv_markC (n := k + (i : Int)) (by omega) (by omega)
    have f1 := feq_self (nk_ok (n := k + (i : Int)) (by omega) (by omega)).2
    have f2 := feq_self one_fin32
    simp (disch := first | assumption | omega | rfl | (refine id ?_; simp only [gxD, ne_eq, reduceCtorEq, not_false_eq_true, Nat.reduceAdd, *]; done) | (refine id ?_; simp only [gxD]; omega)) only [↓gxPre, gxPost, ↓reduceIte, Nat.reduceEqDiff, reduceCtorEq, Nat.reduceAdd, hlen, hia, hld, hm, f1, f2, Bool.and_self]
    simp [Int.add_assoc]
end Go.Proofs.Ytkojmlpaamdhoae
