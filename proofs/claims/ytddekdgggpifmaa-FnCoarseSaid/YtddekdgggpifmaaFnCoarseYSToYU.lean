/- What the functions of the program do: contracts that are proved. -/
import Derived.Test.YtddekdgggpifmaaFnCoarseYJToYR
namespace Go.Proofs.Ytddekdgggpifmaa
open Go.Gx
set_option maxRecDepth 100000
set_option linter.unusedSimpArgs false
set_option linter.unusedVariables false

def oneW : Nat := 1065353216
theorem lines_scheme : schemeF linesW oneW = true := by decide +kernel
theorem nowD_bz (ws : List Nat) (sc : Nat) (xs : List Nat) : ∀ t, (nowD ws sc xs t).length = bzN xs.length t
  | 0 => rfl
  | t + 1 => by rw [nowD_succ, liftF_len1, nowD_bz ws sc xs t, bzN_succ]; omega
theorem moreD_bz (ws : List Nat) (sc : Nat) (xs : List Nat) : moreD ws sc xs = bzM xs.length := by
  funext t
  unfold moreD bzM
  rw [nowD_bz]
theorem stopD_bz (ws : List Nat) (sc : Nat) (xs : List Nat) (L : Nat) : stopN (moreD ws sc xs) L = bzS xs.length L := by
  unfold bzS
  rw [moreD_bz]
theorem levelsD_bz (ws : List Nat) (sc : Nat) (xs : List Nat) (L : Nat) : (levelsD ws sc xs L).length = bzS xs.length L + 1 := by rw [levelsD_len, stopD_bz]
theorem levelsD_sizes (ws : List Nat) (sc : Nat) (xs : List Nat) (L : Nat) : (levelsD ws sc xs L).map List.length = bzL xs.length L := by
  unfold levelsD
  rw [List.map_append, List.map_cons, List.map_nil, nowD_bz, stopD_bz, bzL]
  congr 1
  unfold outD bzO
  rw [List.map_map]
  refine List.map_congr_left fun k _ => ?_
  show ((liftF ws sc (nowD ws sc xs k)).2).length = _
  rw [liftF_len2, nowD_bz]
theorem levelsD_lo {ws : List Nat} {sc : Nat} {xs : List Nat} {L k : Nat} (hk : k < bzS xs.length L) : (levelsD ws sc xs L).getD k [] = (liftF ws sc (nowD ws sc xs k)).2 := levelsD_at (by rw [stopD_bz]; exact hk)
theorem levelsD_top {ws : List Nat} {sc : Nat} {xs : List Nat} {L : Nat} : (levelsD ws sc xs L).getD (bzS xs.length L) [] = nowD ws sc xs (bzS xs.length L) := by
  have := levelsD_last ws sc xs L
  rwa [stopD_bz] at this
theorem bz_four : ∀ n : Fin 13, ∀ L : Fin 7, bzS n.val L.val ≤ 4 := by decide +kernel
theorem bz_more {n L k : Nat} (hk : k < bzS n L) : 2 ≤ bzN n k := by
  have := stopN_all (p := bzM n) L k hk
  unfold bzM at this
  have := of_decide_eq_true this
  omega
theorem fin_small {xs : List Nat} (h : xs.length / 2 = 0) (ws : List Nat) (sc : Nat) : liftF ws sc xs = (evL 0 xs xs.length, odL 0 xs xs.length) := by
  unfold liftF
  rw [if_pos h]
theorem gl_all {s N : Nat} {xs : List Nat} (h : GL s N xs) : xs.all finF = true := all_fin fun i hi => (h i hi).1
theorem QdL.gl {xs : List Nat} (h : QdL xs) : GL 2 32 xs := fun j hj => by
  obtain ⟨a1, a2, q, b1, b2, b3⟩ := (h j hj).ok
  refine ⟨a1, q, ?_, by omega⟩
  have e : p2 (-((2 : Nat) : Int)) = 1 / 4 := p2_q
  unfold vF
  rw [b3, e]
  grind_linarith
/-- All levels lie on grids. -/
theorem lines_now {xs : List Nat} {L : Nat} (h : QdL xs) (hn : xs.length ≤ 12) (hL : L ≤ 6) : ∀ t, t ≤ bzS xs.length L → GL (2 + 3 * t) (32 * 16 ^ t) (nowD linesW oneW xs t)
  | 0, _ => h.gl
  | t + 1, ht => by
    have ih := lines_now h hn hL t (by omega)
    have h4 := bz_four ⟨xs.length, by omega⟩ ⟨L, by omega⟩
    simp only at h4
    have hp : 16 ^ t ≤ 16 ^ 3 := Nat.pow_le_pow_right (by omega) (by omega)
    have h2 := bz_more (show t < bzS xs.length L by omega)
    have g := (lines_lift (by omega) (by omega) ih (by rw [nowD_bz]; exact h2)).1
    rw [nowD_succ]
    have e : 16 * (32 * 16 ^ t) = 32 * 16 ^ (t + 1) := by rw [Nat.pow_succ]; omega
    rw [← e]
    exact g
theorem lines_hi {xs : List Nat} {L t : Nat} (h : QdL xs) (hn : xs.length ≤ 12) (hL : L ≤ 6) (ht : t < bzS xs.length L) : GL (2 + 3 * t + 1) (4 * (32 * 16 ^ t)) (liftF linesW oneW (nowD linesW oneW xs t)).2 := by
  have ih := lines_now h hn hL t (by omega)
  have h4 := bz_four ⟨xs.length, by omega⟩ ⟨L, by omega⟩
  simp only at h4
  have hp : 16 ^ t ≤ 16 ^ 3 := Nat.pow_le_pow_right (by omega) (by omega)
  have h2 := bz_more (show t < bzS xs.length L by omega)
  exact (lines_lift (by omega) (by omega) ih (by rw [nowD_bz]; exact h2)).2.1
theorem QdL.long {xs : List Nat} (h : QdL xs) (h1 : 1 ≤ xs.length) (hn : xs.length ≤ 12) : isLongF xs = true := by
  unfold isLongF
  rw [gl_all h.gl, within_true.2 (by omega)]
  rfl
theorem lines_deep {xs : List Nat} {L : Nat} (h : QdL xs) (h1 : 1 ≤ xs.length) (hn : xs.length ≤ 12) (l1 : 1 ≤ L) (hL : L ≤ 6) : deepOk linesW oneW xs (L : Int) = true :=
  deepOk_yes lines_scheme (h.long h1 hn) (within_true.2 (by omega)) fun k hk => by
    rw [Int.toNat_natCast, stopD_bz] at hk
    have a := lines_now h hn hL (k + 1) (by omega)
    rw [nowD_succ] at a
    have b := lines_hi h hn hL hk
    unfold liftOkF
    rw [gl_all a, gl_all b]
    simp
/-- Levels of lines are undone. -/
theorem lines_back {xs : List Nat} {L : Nat} (h : QdL xs) (h1 : 1 ≤ xs.length) (hn : xs.length ≤ 12) (hL : L ≤ 6) : ∀ t, t ≤ bzS xs.length L →
    (dropD linesW oneW (levelsD linesW oneW xs L) t).length = bzN xs.length (bzS xs.length L - t) ∧ ∀ j, j < bzN xs.length (bzS xs.length L - t) → FinW .f32 ((dropD linesW oneW (levelsD linesW oneW xs L) t).getD j 0) ∧ vF (dropD linesW oneW (levelsD linesW oneW xs L) t) j = vF (nowD linesW oneW xs (bzS xs.length L - t)) j
  | 0, _ => by
    rw [dropD_zero, levelsD_bz, Nat.add_sub_cancel, levelsD_top, Nat.sub_zero, nowD_bz]
    have a := lines_now h hn hL (bzS xs.length L) (Nat.le_refl _)
    exact ⟨rfl, fun j hj => ⟨(a j (by rw [nowD_bz]; exact hj)).1, rfl⟩⟩
  | t + 1, ht => by
    obtain ⟨ih1, ih2⟩ := lines_back h h1 hn hL t (by omega)
    obtain ⟨k, hk⟩ : ∃ k, k = bzS xs.length L - (t + 1) := ⟨_, rfl⟩
    have e1 : bzS xs.length L - t = k + 1 := by omega
    have e2 : (levelsD linesW oneW xs L).length - 2 - t = k := by rw [levelsD_bz]; omega
    have h4 := bz_four ⟨xs.length, by omega⟩ ⟨L, by omega⟩
    simp only at h4
    have hp : 16 ^ k ≤ 16 ^ 3 := Nat.pow_le_pow_right (by omega) (by omega)
    have h2 := bz_more (show k < bzS xs.length L by omega)
    have a := lines_now h hn hL k (by omega)
    have hb := nowD_bz linesW oneW xs k
    rw [e1] at ih1 ih2
    rw [dropD_succ, e2, levelsD_lo (by omega), ← hk]
    have hs : bzN xs.length (k + 1) = (bzN xs.length k + 1) / 2 := by rw [bzN_succ]; omega
    obtain ⟨d1, d2⟩ := lines_drop (by omega) (by omega) a (by rw [hb]; exact h2) (lo := dropD linesW oneW (levelsD linesW oneW xs L) t) (by rw [ih1, hb, hs]) fun j hj => by
      have := ih2 j (by omega)
      rw [nowD_succ] at this
      exact this
    rw [hb] at d1 d2
    exact ⟨d1, d2⟩
theorem bands_lines {xs : List Nat} {L : Nat} (h : QdL xs) (h1 : 1 ≤ xs.length) (hn : xs.length ≤ 12) (l1 : 1 ≤ L) (hL : L ≤ 6) : bandsF (levelsD linesW oneW xs L) = true := by
  unfold bandsF
  rw [levelsD_sizes, bz_ok ⟨xs.length, by omega⟩ ⟨L, by omega⟩ h1 l1, Bool.true_and]
  refine (allD []).2 fun k hk => ?_
  rw [levelsD_bz] at hk
  by_cases c : k < bzS xs.length L
  · rw [levelsD_lo c]
    exact gl_all (lines_hi h hn hL c)
  · have : k = bzS xs.length L := by omega
    rw [this, levelsD_top]
    exact gl_all (lines_now h hn hL _ (Nat.le_refl _))
theorem lines_un {xs : List Nat} {L : Nat} (h : QdL xs) (h1 : 1 ≤ xs.length) (hn : xs.length ≤ 12) (l1 : 1 ≤ L) (hL : L ≤ 6) : unOk linesW oneW (levelsD linesW oneW xs L) = true :=
  unOk_yes lines_scheme (bands_lines h h1 hn l1 hL) fun k hk => by
    rw [levelsD_bz, Nat.add_sub_cancel] at hk
    obtain ⟨a1, a2⟩ := lines_back h h1 hn hL (k + 1) (by omega)
    exact all_fin fun i hi => (a2 i (by omega)).1

/-! ### bounds alone -/
/-- A list's numbers are finite, within a bound. -/
def BL (B : Rat) (xs : List Nat) : Prop := ∀ j, j < xs.length → FinW .f32 (xs.getD j 0) ∧ Bd (vF xs j) B
theorem BL.mono {B C : Rat} {xs : List Nat} (h : BL B xs) (hc : B ≤ C) : BL C xs := fun j hj => ⟨(h j hj).1, bd_mono (h j hj).2 hc⟩
theorem BL.all {B : Rat} {xs : List Nat} (h : BL B xs) : xs.all finF = true := all_fin fun i hi => (h i hi).1
theorem step_bd {x w a b : Nat} {W B : Rat} (hB : 1 / 16 ≤ B) (hB2 : B ≤ 1000000000000000) (hx : FinW .f32 x ∧ Bd (fval .f32 x) B) (hw : FinW .f32 w ∧ fval .f32 w = W) (hW : Bd W 2) (ha : FinW .f32 a ∧ Bd (fval .f32 a) B) (hb : FinW .f32 b ∧ Bd (fval .f32 b) B) :
    FinW .f32 (addF x (mulF w (addF a b))) ∧ Bd (fval .f32 (addF x (mulF w (addF a b)))) (6 * B) := by
  obtain ⟨x1, x2, x3⟩ := hx
  obtain ⟨a1, a2, a3⟩ := ha
  obtain ⟨b1, b2, b3⟩ := hb
  unfold addF mulF
  obtain ⟨p1, p2, p3⟩ := add_near (k := .f32) (M := 2 * B) a1 b1 ⟨by grind_linarith, by grind_linarith⟩ ⟨by grind_linarith, by grind_linarith⟩
  simp only [epsK] at p2 p3
  obtain ⟨m1, m2⟩ := bd_mul (x := W) (y := fval .f32 (fbin .add .f32 a b)) (A := 2) (B := 21 / 10 * B) hW ⟨by grind_linarith, by grind_linarith⟩
  obtain ⟨q1, q2, q3⟩ := mul_near (k := .f32) (M := 5 * B) hw.1 p1 ⟨by grind_linarith, by grind_linarith⟩ (by rw [hw.2]; exact ⟨by grind_linarith, by grind_linarith⟩)
  rw [hw.2] at q2 q3
  simp only [epsK] at q2 q3
  obtain ⟨r1, r2, r3⟩ := add_near (k := .f32) (M := 6 * B) x1 q1 ⟨by grind_linarith, by grind_linarith⟩ ⟨by grind_linarith, by grind_linarith⟩
  simp only [epsK] at r2 r3
  exact ⟨r1, by grind_linarith, by grind_linarith⟩
end Go.Proofs.Ytddekdgggpifmaa

namespace Go.Proofs.Ytddekdgggpifmaa
open Go.Gx
set_option maxRecDepth 100000
set_option linter.unusedSimpArgs false
set_option linter.unusedVariables false

theorem map_at {f : Nat → Nat} {xs : List Nat} {j : Nat} (h : j < xs.length) : (xs.map f).getD j 0 = f (xs.getD j 0) := by simp [List.getD_eq_getElem?_getD, h]
theorem drop_form {lo hi : List Nat} (h1 : 1 ≤ hi.length) : ∃ a b e1 o1 : List Nat, a.length = lo.length ∧ b.length = hi.length ∧ e1.length = lo.length ∧ o1.length = hi.length ∧
    (∀ j, j < lo.length → a.getD j 0 = fbin .quo .f32 (lo.getD j 0) 1065353216) ∧ (∀ j, j < hi.length → b.getD j 0 = fbin .mul .f32 (hi.getD j 0) 1065353216) ∧
    (∀ j, j < lo.length → e1.getD j 0 = addF (a.getD j 0) (mulF (fneg .f32 1048576000) (addF (b.getD (j - 1) 0) (b.getD (min j (hi.length - 1)) 0)))) ∧
    (∀ j, j < hi.length → o1.getD j 0 = addF (b.getD j 0) (mulF (fneg .f32 3204448256) (addF (e1.getD j 0) (e1.getD (min (j + 1) (lo.length - 1)) 0)))) ∧ dropF linesW oneW lo hi = wovL 0 e1 o1 e1.length := by
  obtain ⟨a, ha⟩ : ∃ a, a = lo.map fun x => fbin .quo .f32 x 1065353216 := ⟨_, rfl⟩
  obtain ⟨b, hb⟩ : ∃ b, b = hi.map fun x => fbin .mul .f32 x 1065353216 := ⟨_, rfl⟩
  have la : a.length = lo.length := by rw [ha, List.length_map]
  have lb : b.length = hi.length := by rw [hb, List.length_map]
  obtain ⟨e1, he1⟩ : ∃ e1, e1 = (weighF 1 (fneg .f32 1048576000) (a, b)).1 := ⟨_, rfl⟩
  obtain ⟨o1, ho1⟩ : ∃ o1, o1 = (weighF 0 (fneg .f32 3204448256) (e1, b)).2 := ⟨_, rfl⟩
  have le1 : e1.length = a.length := by rw [he1]; exact weighF_len1 _ _ _
  have lo1 : o1.length = b.length := by rw [ho1]; exact weighF_len2 _ _ _
  refine ⟨a, b, e1, o1, la, lb, by omega, by omega, fun j hj => by rw [ha]; exact map_at hj, fun j hj => by rw [hb]; exact map_at hj, fun j hj => ?_, fun j hj => ?_, ?_⟩
  · rw [he1, weigh1_at (by omega), ← lb]; rfl
  · rw [ho1, weigh0_at (by omega), ← la, ← le1]; rfl
  · have w1 : weighF 1 (fneg .f32 1048576000) (a, b) = (e1, b) := by rw [he1]; rfl
    have w2 : weighF 0 (fneg .f32 3204448256) (e1, b) = (e1, o1) := by rw [ho1]; rfl
    have w3 : weighDown linesW (a, b) linesW.length = (e1, o1) := by
      show weighF 0 (fneg .f32 3204448256) (weighF 1 (fneg .f32 1048576000) (a, b)) = _
      rw [w1, w2]
    unfold dropF
    rw [if_neg (by omega)]
    show (let p := weighDown linesW (lo.map fun x => fbin .quo .f32 x 1065353216, hi.map fun x => fbin .mul .f32 x 1065353216) linesW.length; wovL 0 p.1 p.2 p.1.length) = _
    rw [← ha, ← hb]
    simp only [w3]
theorem wov_all {P : Nat → Prop} {ev od : List Nat} (h1 : od.length ≤ ev.length) (h2 : ev.length ≤ od.length + 1) (he : ∀ j, j < ev.length → P (ev.getD j 0)) (ho : ∀ j, j < od.length → P (od.getD j 0)) :
    (wovL 0 ev od ev.length).length = ev.length + od.length ∧ ∀ i, i < (wovL 0 ev od ev.length).length → P ((wovL 0 ev od ev.length).getD i 0) := by
  have hlen : (wovL 0 ev od ev.length).length = ev.length + od.length := by rw [wovL_lens]; omega
  refine ⟨hlen, fun i hi => ?_⟩
  rw [wovL_at (d := 0) (ev := ev) (od := od) ev.length (by omega) i hi]
  rw [hlen] at hi
  by_cases c : i % 2 = 0
  · rw [if_pos c]; exact he _ (by omega)
  · rw [if_neg c]; exact ho _ (by omega)
theorem drop_bd {lo hi : List Nat} {B : Rat} (hB : 1 / 16 ≤ B) (hB2 : B ≤ 10000000000000) (h1 : BL B lo) (h2 : BL B hi) (f1 : hi.length ≤ lo.length) (f2 : lo.length ≤ hi.length + 1) : BL (36 * B) (dropF linesW oneW lo hi) := by
  by_cases h0 : hi.length = 0
  · have : dropF linesW oneW lo hi = lo := by unfold dropF; rw [if_pos h0]
    rw [this]
    exact h1.mono (by grind_linarith)
  obtain ⟨a, b, e1, o1, la, lb, le, lo', ha, hb, he, ho, hd⟩ := drop_form (lo := lo) (hi := hi) (by omega)
  have A : ∀ j, j < lo.length → FinW .f32 (a.getD j 0) ∧ Bd (fval .f32 (a.getD j 0)) B := fun j hj => by
    rw [ha j hj]
    have := quo_one_ex (h1 j hj).1
    exact ⟨this.1, by rw [this.2]; exact (h1 j hj).2⟩
  have C : ∀ j, j < hi.length → FinW .f32 (b.getD j 0) ∧ Bd (fval .f32 (b.getD j 0)) B := fun j hj => by
    rw [hb j hj]
    have := mul_one_ex (h2 j hj).1
    exact ⟨this.1, by rw [this.2]; exact (h2 j hj).2⟩
  have D : ∀ j, j < lo.length → FinW .f32 (e1.getD j 0) ∧ Bd (fval .f32 (e1.getD j 0)) (6 * B) := fun j hj => by
    rw [he j hj]
    exact step_bd hB (by grind_linarith) (A j hj) mquart_v ⟨by grind_linarith, by grind_linarith⟩ (C (j - 1) (by omega)) (C (min j (hi.length - 1)) (by omega))
  have E : ∀ j, j < hi.length → FinW .f32 (o1.getD j 0) ∧ Bd (fval .f32 (o1.getD j 0)) (36 * B) := fun j hj => by
    rw [ho j hj]
    have := step_bd (B := 6 * B) (by grind_linarith) (by grind_linarith) ⟨(C j hj).1, bd_mono (C j hj).2 (by grind_linarith)⟩ phalf_v ⟨by grind_linarith, by grind_linarith⟩ (D j (by omega)) (D (min (j + 1) (lo.length - 1)) (by omega))
    exact ⟨this.1, bd_mono this.2 (by grind_linarith)⟩
  rw [hd]
  exact (wov_all (P := fun w => FinW .f32 w ∧ Bd (fval .f32 w) (36 * B)) (by omega) (by omega) (fun j hj => ⟨(D j (by omega)).1, bd_mono (D j (by omega)).2 (by grind_linarith)⟩) fun j hj => E j (by omega)).2
def pw36 (B : Rat) : Nat → Rat
  | 0 => B
  | t + 1 => 36 * pw36 B t
theorem gl_bl {s N : Nat} {xs : List Nat} (h : GL s N xs) (hN : N ≤ 4000000) : BL 4000000 xs := fun j hj => ⟨(h j hj).1, by
  have h1 := (h j hj).2.bd
  have h2 : ((N : Nat) : Rat) ≤ ((4000000 : Nat) : Rat) := natCast_le hN
  have e : ((4000000 : Nat) : Rat) = 4000000 := rfl
  rw [e] at h2
  exact bd_mono h1 h2⟩
/-- Coarser lists are finite. -/
theorem lines_coarse {xs : List Nat} {L : Nat} (h : QdL xs) (h1 : 1 ≤ xs.length) (hn : xs.length ≤ 12) (l1 : 1 ≤ L) (hL : L ≤ 6) (keep : Nat) : unOk linesW oneW (coarseU (levelsD linesW oneW xs L) keep ((levelsD linesW oneW xs L).length - 1 - keep)) = true := by
  have hd := deepOk_parts (lines_deep h h1 hn l1 hL)
  have hb := coarse_bands (keep := keep) (t := (levelsD linesW oneW xs L).length - 1 - keep) (h.long h1 hn) l1 hL (n := L) (by
    have := hd.2.2.2
    rwa [Int.toNat_natCast] at this)
  obtain ⟨yss, hy⟩ : ∃ yss, yss = coarseU (levelsD linesW oneW xs L) keep ((levelsD linesW oneW xs L).length - 1 - keep) := ⟨_, rfl⟩
  have h4 := bz_four ⟨xs.length, by omega⟩ ⟨L, by omega⟩
  simp only at h4
  have hyl : yss.length = bzS xs.length L + 1 := by rw [hy, coarseU_len, levelsD_bz]
  have hrow : ∀ k, k < yss.length → BL 4000000 (yss.getD k []) := fun k hk => by
    rw [hyl] at hk
    have hbase : BL 4000000 ((levelsD linesW oneW xs L).getD k []) := by
      by_cases c : k < bzS xs.length L
      · rw [levelsD_lo c]
        have hp : 16 ^ k ≤ 16 ^ 3 := Nat.pow_le_pow_right (by omega) (by omega)
        exact gl_bl (lines_hi h hn hL c) (by omega)
      · have e : k = bzS xs.length L := by omega
        rw [e, levelsD_top]
        have hp : 16 ^ bzS xs.length L ≤ 16 ^ 4 := Nat.pow_le_pow_right (by omega) (by omega)
        exact gl_bl (lines_now h hn hL _ (Nat.le_refl _)) (by omega)
    rw [hy, coarseU_at (by rw [levelsD_bz]; exact hk)]
    by_cases c : k < (levelsD linesW oneW xs L).length - 1 - keep
    · rw [if_pos c]
      unfold coarseL
      by_cases c2 : k + 1 + keep < (levelsD linesW oneW xs L).length
      · rw [if_pos c2]
        intro j hj
        unfold vF zerosF
        rw [rep0_at]
        exact ⟨finW_zero.1, by rw [finW_zero.2]; constructor <;> grind_linarith⟩
      · rw [if_neg c2]; exact hbase
    · rw [if_neg c]; exact hbase
  rw [← hy] at hb ⊢
  have hsz := bands_sizes hb
  have hbd : ∀ t, t ≤ bzS xs.length L → BL (pw36 4000000 t) (dropD linesW oneW yss t) := by
    intro t
    induction t with
    | zero => intro _; exact hrow _ (by omega)
    | succ t ih =>
      intro ht
      have ih := ih (by omega)
      have hf := fit_facts (dropD_fit (ws := linesW) (sc := oneW) hsz (t := t) (by omega))
      have hp : 4000000 ≤ pw36 4000000 t ∧ pw36 4000000 t ≤ 10000000000000 := by
        rcases (by omega : t = 0 ∨ t = 1 ∨ t = 2 ∨ t = 3) with rfl | rfl | rfl | rfl <;> simp only [pw36] <;> constructor <;> grind_linarith
      rw [dropD_succ]
      exact drop_bd (by grind_linarith) hp.2 ih ((hrow _ (by omega)).mono hp.1) (by omega) (by omega)
  exact unOk_yes lines_scheme hb fun k hk => (hbd (k + 1) (by omega)).all
theorem coarse_keep {xss : List (List Nat)} {keep : Nat} (h : xss.length ≤ keep) : coarseU xss keep (xss.length - 1 - keep) = xss := by
  rw [show xss.length - 1 - keep = 0 by omega, coarseU_zero]
theorem zerosF_at (n j : Nat) : (zerosF n).getD j 0 = 0 := rep0_at n j
/-- Finer lists. -/
theorem lines_grow {xs : List Nat} (h : QdL xs) (h1 : 1 ≤ xs.length) (hn : xs.length ≤ 12) :
    (dropF linesW oneW xs (zerosF xs.length)).length = 2 * xs.length ∧ GL 3 64 (dropF linesW oneW xs (zerosF xs.length)) ∧ (∀ j, j < xs.length → vF (dropF linesW oneW xs (zerosF xs.length)) (2 * j) = vF xs j) ∧
      ∀ j, j < xs.length → vF (dropF linesW oneW xs (zerosF xs.length)) (2 * j + 1) = 1 / 2 * (vF xs j + vF xs (min (j + 1) (xs.length - 1))) := by
  have g := h.gl
  obtain ⟨a, b, e1, o1, la, lb, le, lo', ha, hb, he, ho, hd⟩ := drop_form (lo := xs) (hi := zerosF xs.length) (by rw [zerosF_length]; exact h1)
  rw [zerosF_length] at lb lo' hb he ho
  have A : ∀ j, j < xs.length → FinW .f32 (a.getD j 0) ∧ fval .f32 (a.getD j 0) = vF xs j := fun j hj => by
    rw [ha j hj]
    exact quo_one_ex (g j hj).1
  have C : ∀ j, j < xs.length → FinW .f32 (b.getD j 0) ∧ fval .f32 (b.getD j 0) = 0 := fun j hj => by
    rw [hb j hj, zerosF_at]
    have := mul_one_ex finW_zero.1
    exact ⟨this.1, by rw [this.2, finW_zero.2]⟩
  have D : ∀ j, j < xs.length → FinW .f32 (e1.getD j 0) ∧ fval .f32 (e1.getD j 0) = vF xs j := fun j hj => by
    rw [he j hj]
    obtain ⟨a1, a2⟩ := A j hj
    obtain ⟨b1, b2⟩ := C (j - 1) (by omega)
    obtain ⟨c1, c2⟩ := C (min j (xs.length - 1)) (by omega)
    have e3 : fval .f32 (a.getD j 0) + -1 / 4 * (fval .f32 (b.getD (j - 1) 0) + fval .f32 (b.getD (min j (xs.length - 1)) 0)) = vF xs j := by rw [a2, b2, c2]; grind_linarith
    have st := step_exact (s1 := 2) (s2 := 2) (s3 := 2) a1 mquart_v b1 c1 (by rw [b2, c2]; have := Gr.zero 2 16777216; have e : (0 : Rat) + 0 = 0 := by grind_linarith
                                                                              rw [e]; exact this) (by rw [b2, c2]; have := Gr.zero 2 16777216; have e : -1 / 4 * ((0 : Rat) + 0) = 0 := by grind_linarith
                                                                                                      rw [e]; exact this) (by rw [e3]; exact (g j hj).2.mono (by omega)) (by omega) (by omega) (by omega)
    exact ⟨st.1, by rw [st.2, e3]⟩
  have E : ∀ j, j < xs.length → FinW .f32 (o1.getD j 0) ∧ fval .f32 (o1.getD j 0) = 1 / 2 * (vF xs j + vF xs (min (j + 1) (xs.length - 1))) ∧ Gr 3 64 (1 / 2 * (vF xs j + vF xs (min (j + 1) (xs.length - 1)))) := fun j hj => by
    rw [ho j hj]
    obtain ⟨a1, a2⟩ := C j hj
    obtain ⟨b1, b2⟩ := D j hj
    obtain ⟨c1, c2⟩ := D (min (j + 1) (xs.length - 1)) (by omega)
    have g1 := (g j hj).2.add (g (min (j + 1) (xs.length - 1)) (by omega)).2
    have g2 := g1.part 1 (c := 1 / 2) (.inl (by rw [p2_h]))
    have e3 : fval .f32 (b.getD j 0) + 1 / 2 * (fval .f32 (e1.getD j 0) + fval .f32 (e1.getD (min (j + 1) (xs.length - 1)) 0)) = 1 / 2 * (vF xs j + vF xs (min (j + 1) (xs.length - 1))) := by rw [a2, b2, c2]; grind_linarith
    have st := step_exact (s1 := 2) (s2 := 3) (s3 := 3) a1 phalf_v b1 c1 (by rw [b2, c2]; exact g1.mono (by omega)) (by rw [b2, c2]; exact g2.mono (by omega)) (by rw [e3]; exact g2.mono (by omega)) (by omega) (by omega) (by omega)
    exact ⟨st.1, by rw [st.2, e3], g2.mono (by omega)⟩
  have hlen : (wovL 0 e1 o1 e1.length).length = 2 * xs.length := by rw [wovL_lens]; omega
  have hat : ∀ i, i < 2 * xs.length → (wovL 0 e1 o1 e1.length).getD i 0 = if i % 2 = 0 then e1.getD (i / 2) 0 else o1.getD (i / 2) 0 := fun i hi => wovL_at (d := 0) (ev := e1) (od := o1) e1.length (by omega) i (by omega)
  rw [hd]
  refine ⟨hlen, fun i hi => ?_, fun j hj => ?_, fun j hj => ?_⟩
  · rw [hlen] at hi
    unfold vF
    rw [hat i hi]
    by_cases c : i % 2 = 0
    · rw [if_pos c]
      obtain ⟨d1, d2⟩ := D (i / 2) (by omega)
      exact ⟨d1, by rw [d2]; exact ((g (i / 2) (by omega)).2.up 1).mono (by omega)⟩
    · rw [if_neg c]
      obtain ⟨d1, d2, d3⟩ := E (i / 2) (by omega)
      exact ⟨d1, by rw [d2]; exact d3⟩
  · show fval .f32 ((wovL 0 e1 o1 e1.length).getD (2 * j) 0) = _
    rw [hat (2 * j) (by omega), if_pos (by omega), show 2 * j / 2 = j by omega]
    exact (D j hj).2
  · show fval .f32 ((wovL 0 e1 o1 e1.length).getD (2 * j + 1) 0) = _
    rw [hat (2 * j + 1) (by omega), if_neg (by omega), show (2 * j + 1) / 2 = j by omega]
    exact (E j hj).2.1
/-- Finer lists have no ripples. -/
theorem grow_flat {xs : List Nat} (h : QdL xs) (h1 : 1 ≤ xs.length) (hn : xs.length ≤ 12) {j : Nat} (hj : j < xs.length) :
    FinW .f32 ((liftF linesW oneW (dropF linesW oneW xs (zerosF xs.length))).2.getD j 0) ∧ vF (liftF linesW oneW (dropF linesW oneW xs (zerosF xs.length))).2 j = 0 := by
  obtain ⟨g1, g2, g3, g4⟩ := lines_grow h h1 hn
  obtain ⟨G, hG⟩ : ∃ G, G = dropF linesW oneW xs (zerosF xs.length) := ⟨_, rfl⟩
  rw [← hG] at g1 g2 g3 g4 ⊢
  obtain ⟨a1, a2, a3, a4⟩ := lines_lift (s := 3) (N := 64) (by omega) (by omega) g2 (by omega)
  have hl2 := liftF_len2 linesW oneW G
  refine ⟨(a2 j (by show j < (liftF linesW oneW G).2.length; omega)).1, ?_⟩
  have h3 := a3 j (by omega)
  have e1 : vF (odL 0 G G.length) j = vF G (2 * j + 1) := by unfold vF; rw [odL_at (by omega)]
  have e2 : vF (evL 0 G G.length) j = vF G (2 * j) := by unfold vF; rw [evL_at (by omega)]
  have em : min (j + 1) ((G.length + 1) / 2 - 1) = min (j + 1) (xs.length - 1) := by omega
  rw [em] at h3
  have e3 : vF (evL 0 G G.length) (min (j + 1) (xs.length - 1)) = vF G (2 * min (j + 1) (xs.length - 1)) := by unfold vF; rw [evL_at (by omega)]
  rw [e1, e2, e3, g3 j hj, g4 j hj, g3 _ (by omega)] at h3
  show vF (liftF linesW 1065353216 G).2 j = 0
  rw [h3]
  grind_linarith
end Go.Proofs.Ytddekdgggpifmaa

namespace Go.Proofs.Ytddekdgggpifmaa
open Go.Gx
set_option maxRecDepth 100000
set_option linter.unusedSimpArgs false
set_option linter.unusedVariables false

theorem fcB_neq {k : FloatKind} {x y : Nat} (hx : FinW k x) (hy : FinW k y) : fcB .neq k x y = !decide (fval k x = fval k y) := by
  obtain ⟨A, B, P, hP, h1, h2, h3⟩ := order_val hx hy
  rw [h1, h2]
  unfold fcB fcmp
  simp only [h3]
  have hi : ((A : Rat) * P = (B : Rat) * P) ↔ A = B := by
    constructor
    · intro hh
      rcases Int.lt_trichotomy A B with c | c | c
      · have := (mul_lt_iff hP).2 c; rw [hh] at this; exact absurd this Rat.lt_irrefl
      · exact c
      · have := (mul_lt_iff hP).2 c; rw [hh] at this; exact absurd this Rat.lt_irrefl
    · rintro rfl; rfl
  rw [Bool.eq_iff_iff, Bool.not_eq_true', decide_eq_false_iff_not, hi]
  rcases Int.lt_trichotomy A B with c | c | c
  · have : compare A B = .lt := Int.compare_eq_lt.2 c
    simp [this]; omega
  · have : compare A B = .eq := Int.compare_eq_eq.2 c
    simp [this, c]
  · have : compare A B = .gt := Int.compare_eq_gt.2 c
    simp [this]; omega
theorem size_val {x : Nat} (hx : FinW .f32 x) : FinW .f32 (sizeF x) ∧ fval .f32 (sizeF x) = absR (fval .f32 x) := by
  unfold sizeF absR
  rw [fcB_lss hx finW_zero.1, fcB_eql hx finW_zero.1, finW_zero.2]
  by_cases c : fval .f32 x < 0
  · rw [decide_eq_true c, if_pos rfl, if_neg (Rat.not_le.2 c)]
    exact finW_fneg hx
  · rw [decide_eq_false c, if_neg (by decide), if_pos (Rat.not_lt.1 c)]
    by_cases c2 : fval .f32 x = 0
    · rw [decide_eq_true c2, if_pos rfl, c2]
      exact finW_zero
    · rw [decide_eq_false c2, if_neg (by decide)]
      exact ⟨hx, rfl⟩
theorem outQ_val {b : Bool} {t x : Nat} (ht : FinW .f32 t) (hx : FinW .f32 x) : outQ b t x = (b && decide (absR (fval .f32 x) ≤ fval .f32 t)) := by
  obtain ⟨s1, s2⟩ := size_val hx
  unfold outQ
  rw [fcB_leq s1 ht, s2]
theorem cntK_mono {b : Bool} {t u : Nat} {xs : List Nat} (ht : FinW .f32 t) (hu : FinW .f32 u) (h : fval .f32 t ≤ fval .f32 u) (hx : ∀ i, i < xs.length → FinW .f32 (xs.getD i 0)) : ∀ n, n ≤ xs.length → cntK b t xs n ≤ cntK b u xs n
  | 0, _ => Nat.le_refl _
  | n + 1, hn => by
    have ih := cntK_mono (b := b) ht hu h hx n (by omega)
    rw [cntK_succ, cntK_succ, outQ_val ht (hx n (by omega)), outQ_val hu (hx n (by omega))]
    cases b
    · simp only [Bool.false_and]
      rw [if_neg (by decide), if_neg (by decide)]
      exact ih
    · simp only [Bool.true_and, decide_eq_true_eq]
      by_cases c : absR (fval .f32 (xs.getD n 0)) ≤ fval .f32 t
      · rw [if_pos c, if_pos (Rat.le_trans c h)]
        omega
      · rw [if_neg c]
        split <;> omega
theorem cntS_mono {t u : Nat} {xss : List (List Nat)} (ht : FinW .f32 t) (hu : FinW .f32 u) (h : fval .f32 t ≤ fval .f32 u) (hx : ∀ k, k < xss.length → ∀ i, i < (xss.getD k []).length → FinW .f32 ((xss.getD k []).getD i 0)) : ∀ n, n ≤ xss.length → cntS t xss n ≤ cntS u xss n
  | 0, _ => Nat.le_refl _
  | n + 1, hn => by
    have ih := cntS_mono ht hu h hx n (by omega)
    have := cntK_mono (b := decide (n + 1 < xss.length)) ht hu h (hx n (by omega)) _ (Nat.le_refl _)
    rw [cntS_succ, cntS_succ]
    omega
/-- A limit: a quarter's word, not negative. -/
theorem limit_all : ∀ n : Fin 17, leastF (quartW (n.val : Int)) = true := by decide +kernel
theorem limit_val {q : Int} (h0 : 0 ≤ q) (h1 : q < 17) : leastF (quartW q) = true ∧ FinW .f32 (quartW q) ∧ 0 ≤ fval .f32 (quartW q) ∧ quartW q < 2 ^ 32 := by
  have a := limit_all ⟨q.toNat, by omega⟩
  have e : ((q.toNat : Nat) : Int) = q := by omega
  simp only [e] at a
  obtain ⟨b1, b2⟩ := least_val a
  have c := (Qd.ok ⟨q, by omega, by omega, rfl⟩ : FinW .f32 (quartW q) ∧ quartW q < 2 ^ 32 ∧ _)
  exact ⟨a, b1, b2, c.2.1⟩
/-! ### places -/
def covI (n L k : Nat) (S : List Int) : Nat → List Int := foldI (fun i S => S.set (covA n L k i) (S.getD (covA n L k i) 0 + 1)) S
def covK (n L : Nat) : Nat → List Int := foldI (fun k S => covI n L k S ((bzL n L).getD k 0)) (List.replicate n 0)
theorem covI_succ (n L k : Nat) (S : List Int) (i : Nat) : covI n L k S (i + 1) = (covI n L k S i).set (covA n L k i) ((covI n L k S i).getD (covA n L k i) 0 + 1) := rfl
theorem covK_succ (n L k : Nat) : covK n L (k + 1) = covI n L k (covK n L k) ((bzL n L).getD k 0) := rfl
theorem covI_len (n L k : Nat) (S : List Int) : ∀ i, (covI n L k S i).length = S.length
  | 0 => rfl
  | i + 1 => by rw [covI_succ, List.length_set, covI_len n L k S i]
theorem covK_len (n L : Nat) : ∀ k, (covK n L k).length = n
  | 0 => by simp [covK, foldI_zero]
  | k + 1 => by rw [covK_succ, covI_len, covK_len n L k]
theorem cov_all : ∀ n : Fin 13, ∀ L : Fin 6, 1 ≤ n.val → 1 ≤ L.val → covK n.val L.val (bzS n.val L.val + 1) = List.replicate n.val 1 := by decide +kernel
theorem cov_in : ∀ n : Fin 13, ∀ L : Fin 6, 1 ≤ n.val → 1 ≤ L.val → ∀ k : Fin 7, k.val ≤ bzS n.val L.val → ∀ i : Fin 13, i.val < (bzL n.val L.val).getD k.val 0 → covA n.val L.val k.val i.val < n.val := by decide +kernel
theorem cov_small : ∀ n : Fin 13, ∀ L : Fin 6, 1 ≤ n.val → 1 ≤ L.val → ∀ k : Fin 7, k.val ≤ bzS n.val L.val → (bzL n.val L.val).getD k.val 0 ≤ 12 := by decide +kernel
theorem getD_out {l : List Int} {j : Nat} (h : l.length ≤ j) : l.getD j 0 = 0 := by simp [List.getD_eq_getElem?_getD, List.getElem?_eq_none h]
theorem covI_bd (n L k : Nat) {S : List Int} {M : Int} (h0 : 0 ≤ M) (h : ∀ j, 0 ≤ S.getD j 0 ∧ S.getD j 0 ≤ M) : ∀ i : Nat, ∀ j, 0 ≤ (covI n L k S i).getD j 0 ∧ (covI n L k S i).getD j 0 ≤ M + i
  | 0, j => by have := h j; simp only [covI, foldI_zero]; omega
  | i + 1, j => by
    have ih := covI_bd n L k h0 h i
    rw [covI_succ]
    by_cases c : covA n L k i = j
    · subst c
      by_cases hl : covA n L k i < (covI n L k S i).length
      · rw [Go.Gx.getD_set_self hl]
        have := ih (covA n L k i)
        omega
      · have e := getD_out (l := (covI n L k S i).set (covA n L k i) ((covI n L k S i).getD (covA n L k i) 0 + 1)) (j := covA n L k i) (by rw [List.length_set]; omega)
        rw [e]; omega
    · rw [Go.Gx.getD_set_ne c]
      have := ih j
      omega
theorem covK_bd (n L : Nat) (hs : ∀ k, (bzL n L).getD k 0 ≤ 128) : ∀ k : Nat, ∀ j, 0 ≤ (covK n L k).getD j 0 ∧ (covK n L k).getD j 0 ≤ 128 * k
  | 0, j => by
    by_cases c : j < n
    · simp [covK, foldI_zero, List.getD_eq_getElem?_getD, List.getElem?_replicate, c]
    · simp [covK, foldI_zero, List.getD_eq_getElem?_getD, List.getElem?_replicate, c]
  | k + 1, j => by
    have := covI_bd n L k (M := 128 * k) (by omega) (covK_bd n L hs k) ((bzL n L).getD k 0) j
    have h := hs k
    rw [covK_succ]
    omega
theorem bzL_le {n L : Nat} (h1 : 1 ≤ n) (h2 : n ≤ 128) (k : Nat) : (bzL n L).getD k 0 ≤ 128 := by
  by_cases c : k < bzS n L
  · have hb := bzN_bd h1 k
    have : (bzL n L).getD k 0 = bzN n k / 2 := by rw [bzL, getD_app_lt (by rw [bzO_length]; exact c), bzO, getD_range_map c]
    omega
  · by_cases hke : k = bzS n L
    · have hb := bzN_bd h1 (bzS n L)
      have := @getD_app_at _ (bzO n (bzS n L)) (bzN n (bzS n L)) 0
      rw [bzO_length, ← bzL] at this
      rw [hke]
      omega
    · have : (bzL n L).getD k 0 = 0 := by simp [List.getD_eq_getElem?_getD, List.getElem?_eq_none (l := bzL n L) (i := k) (by simp [bzL, bzO_length]; omega)]
      omega
/-! ### words -/
theorem w32_range {n : Nat} {f : Nat → Nat} (h : ∀ j, f j < 2 ^ 32) : W32 ((List.range n).map f) := fun j => by
  by_cases hj : j < n
  · rw [getD_range_map hj]; exact h j
  · simp [List.getD_eq_getElem?_getD, List.getElem?_eq_none (l := List.range n) (i := j) (by simp; omega)]
theorem w32_map {f : Nat → Nat} {xs : List Nat} (h : ∀ x, f x < 2 ^ 32) : W32 (xs.map f) := fun j => by
  by_cases hj : j < xs.length
  · rw [map_at hj]; exact h _
  · simp [List.getD_eq_getElem?_getD, List.getElem?_eq_none (Nat.le_of_not_lt hj)]
theorem liftF_w {ws : List Nat} {sc : Nat} {xs : List Nat} (h : W32 xs) : W32 (liftF ws sc xs).1 ∧ W32 (liftF ws sc xs).2 := by
  unfold liftF
  split
  · exact ⟨w32_range fun j => h _, w32_range fun j => h _⟩
  · exact ⟨w32_map fun x => fbin_lt .mul .f32 _ _, w32_map fun x => fbin_lt .quo .f32 _ _⟩
theorem weighF_w {k w : Nat} {p : List Nat × List Nat} (h : W32 p.1 ∧ W32 p.2) : W32 (weighF k w p).1 ∧ W32 (weighF k w p).2 := by
  unfold weighF
  split
  · exact ⟨h.1, w32_range fun j => fbin_lt .add .f32 _ _⟩
  · exact ⟨w32_range fun j => fbin_lt .add .f32 _ _, h.2⟩
theorem weighDown_w {ws : List Nat} {p : List Nat × List Nat} (h : W32 p.1 ∧ W32 p.2) : ∀ n, W32 (weighDown ws p n).1 ∧ W32 (weighDown ws p n).2
  | 0 => h
  | n + 1 => weighF_w (weighDown_w h n)
theorem dropF_w {ws : List Nat} {sc : Nat} {ev od : List Nat} (h : W32 ev) (hl : ev.length ≤ od.length + 1) : W32 (dropF ws sc ev od) := by
  unfold dropF
  split
  · exact h
  · obtain ⟨p, hp⟩ : ∃ p, p = weighDown ws (ev.map fun x => fbin .quo .f32 x sc, od.map fun x => fbin .mul .f32 x sc) ws.length := ⟨_, rfl⟩
    have hw := weighDown_w (ws := ws) (p := (ev.map fun x => fbin .quo .f32 x sc, od.map fun x => fbin .mul .f32 x sc)) ⟨w32_map fun x => fbin_lt .quo .f32 _ _, w32_map fun x => fbin_lt .mul .f32 _ _⟩ ws.length
    have hn := weighDown_len ws (ev.map fun x => fbin .quo .f32 x sc, od.map fun x => fbin .mul .f32 x sc) ws.length
    rw [← hp] at hw hn
    simp only [List.length_map] at hn
    show W32 (let p := weighDown ws (ev.map fun x => fbin .quo .f32 x sc, od.map fun x => fbin .mul .f32 x sc) ws.length; wovL 0 p.1 p.2 p.1.length)
    rw [← hp]
    intro j
    by_cases hj : j < (wovL 0 p.1 p.2 p.1.length).length
    · show (wovL 0 p.1 p.2 p.1.length).getD j 0 < _
      rw [wovL_at (d := 0) (ev := p.1) (od := p.2) p.1.length (by omega) j hj]
      split
      · exact hw.1 _
      · exact hw.2 _
    · show (wovL 0 p.1 p.2 p.1.length).getD j 0 < _
      simp [List.getD_eq_getElem?_getD, List.getElem?_eq_none (Nat.le_of_not_lt hj)]
theorem nowD_w {ws : List Nat} {sc : Nat} {xs : List Nat} (h : W32 xs) : ∀ t, W32 (nowD ws sc xs t)
  | 0 => h
  | t + 1 => (liftF_w (nowD_w h t)).1
theorem levelsD_w {ws : List Nat} {sc : Nat} {xs : List Nat} (h : W32 xs) (L : Nat) : W32S (levelsD ws sc xs L) := fun k => by
  by_cases c : k < bzS xs.length L
  · rw [levelsD_lo c]; exact (liftF_w (nowD_w h k)).2
  · by_cases e : k = bzS xs.length L
    · subst e
      rw [levelsD_top]; exact nowD_w h _
    · have : (levelsD ws sc xs L).getD k [] = [] := by simp [List.getD_eq_getElem?_getD, List.getElem?_eq_none (l := levelsD ws sc xs L) (i := k) (by rw [levelsD_bz]; omega)]
      rw [this]; intro j; simp
end Go.Proofs.Ytddekdgggpifmaa
