/- What the functions of the program do: contracts that are proved. -/
import Derived.Test.YtddekdgggpifmaaFnLiftsXSToYK
namespace Go.Proofs.Ytddekdgggpifmaa
open Go.Gx
set_option maxRecDepth 100000
set_option linter.unusedSimpArgs false
set_option linter.unusedVariables false

theorem qd_max {L : List Nat} (hQ : QdL L) : ∃ M : Rat, okR M ∧ M ≤ 8 ∧ (∀ i, i < L.length → Bd (vF L i) M) ∧ M * M ≤ sqR L L.length + 1 / 16 := by
  suffices h : ∀ n, n ≤ L.length → ∃ M : Rat, 1 / 4 ≤ M ∧ M ≤ 8 ∧ (∀ i, i < n → Bd (vF L i) M) ∧ M * M ≤ sqR L n + 1 / 16 by
    obtain ⟨M, h1, h2, h3, h4⟩ := h L.length (Nat.le_refl _)
    exact ⟨M, ⟨by grind_linarith, by grind_linarith⟩, h2, h3, h4⟩
  intro n
  induction n with
  | zero =>
    intro _
    refine ⟨1 / 4, by grind_linarith, by grind_linarith, fun i hi => by omega, ?_⟩
    have : sqR L 0 = 0 := rfl
    rw [this]
    decide +kernel
  | succ n ih =>
    intro hn
    obtain ⟨M, h1, h2, h3, h4⟩ := ih (by omega)
    obtain ⟨_, _, z, z1, z2, hz⟩ := (hQ n (by omega)).ok
    have hs : sqR L (n + 1) = sqR L n + vF L n * vF L n := rfl
    have hx : vF L n = (z : Rat) / 4 := hz
    have b1 : (z : Rat) ≤ 32 := by have := Rat.intCast_le_intCast.2 z2; simpa using this
    have b2 : -32 ≤ (z : Rat) := by have := Rat.intCast_le_intCast.2 z1; simpa using this
    have q0 := sq_nonneg (vF L n)
    have s0 : 0 ≤ sqR L n := sumR_nonneg fun j _ => sq_nonneg _
    by_cases c : Bd (vF L n) M
    · refine ⟨M, h1, h2, fun i hi => ?_, by rw [hs]; grind_linarith⟩
      by_cases ci : i = n
      · subst ci; exact c
      · exact h3 i (by omega)
    · rcases Rat.le_total (a := 0) (b := vF L n) with p | p
      · have hM : M ≤ vF L n := by
          rcases Rat.le_total (a := vF L n) (b := M) with r | r
          · exact absurd ⟨by grind_linarith, r⟩ c
          · exact r
        refine ⟨vF L n, by grind_linarith, by rw [hx]; grind_linarith, fun i hi => ?_, by rw [hs]; grind_linarith⟩
        by_cases ci : i = n
        · subst ci; exact ⟨by grind_linarith, by grind_linarith⟩
        · have := h3 i (by omega)
          exact ⟨by have := this.1; grind_linarith, by have := this.2; grind_linarith⟩
      · have hM : M ≤ -vF L n := by
          rcases Rat.le_total (a := -vF L n) (b := M) with r | r
          · exact absurd ⟨by grind_linarith, by grind_linarith⟩ c
          · exact r
        refine ⟨-vF L n, by grind_linarith, by rw [hx]; grind_linarith, fun i hi => ?_, by rw [hs]; grind_linarith⟩
        by_cases ci : i = n
        · subst ci; exact ⟨by grind_linarith, by grind_linarith⟩
        · have := h3 i (by omega)
          exact ⟨by have := this.1; grind_linarith, by have := this.2; grind_linarith⟩
theorem psQ_valid (q : Bool) : validPairF (psQ q) = true := by
  cases q
  · exact haar_valid
  · exact four_valid
theorem psQ_w (q : Bool) : W32 (psQ q) := fun j => by
  match q, j with
  | true, 0 => decide
  | true, 1 => decide
  | true, 2 => decide
  | true, 3 => decide
  | true, j + 4 => simp [psQ, fourP, List.getD_eq_getElem?_getD]
  | false, 0 => decide
  | false, 1 => decide
  | false, j + 2 => simp [psQ, haarP, List.getD_eq_getElem?_getD]
theorem psQ_len (q : Bool) : 2 ≤ (psQ q).length ∧ (psQ q).length ≤ 4 := by cases q <;> decide
theorem all_fin {xs : List Nat} (h : ∀ i, i < xs.length → FinW .f32 (xs.getD i 0)) : xs.all finF = true := (allD 0).2 fun i hi => (h i hi).fin
theorem split_ok (q : Bool) {xs : List Nat} {m : Nat} {M : Rat} (hM : okR M) (hl : xs.length = 2 * m) (h1 : 1 ≤ m) (h2 : m ≤ 64) (hx : ∀ i, i < 2 * m → FinW .f32 (xs.getD i 0) ∧ Bd (vF xs i) M) : splitOk xs (psQ q) = true := by
  unfold splitOk isLongF
  have f1 : xs.all finF = true := all_fin fun i hi => (hx i (by omega)).1
  have f2 : (tapL xs (psQ q)).all finF = true := all_fin fun i hi => (split_near q hM hl hx (by rw [tapL_len] at hi; omega)).1.1
  have f3 : (tapL xs (highL (psQ q))).all finF = true := all_fin fun i hi => (split_near q hM hl hx (by rw [tapL_len] at hi; omega)).2.1
  rw [f1, f2, f3, psQ_valid, within_true.2 (by omega), decide_eq_true (show xs.length % 2 = 0 by omega)]
  rfl
theorem pred_next {m t s : Nat} (ht : t < m) (hs : s = if t = 0 then m - 1 else t - 1) : s < m ∧ (s + 1) % m = t := by
  by_cases c : t = 0
  · rw [if_pos c] at hs
    refine ⟨by omega, ?_⟩
    rw [hs, show m - 1 + 1 = m by omega, Nat.mod_self, c]
  · rw [if_neg c] at hs
    refine ⟨by omega, ?_⟩
    rw [hs, show t - 1 + 1 = t by omega, Nat.mod_eq_of_lt ht]
/-- What is split is joined again, nearly. -/
theorem ring_back (q : Bool) {xs lo : List Nat} {m : Nat} {M η : Rat} (hM : okR M) (hl : xs.length = 2 * m) (hx : ∀ i, i < 2 * m → FinW .f32 (xs.getD i 0) ∧ Bd (vF xs i) M) (hlo : lo.length = m) (h0 : 0 ≤ η) (h1 : η ≤ M / 10)
    (hL : ∀ j, j < m → FinW .f32 (lo.getD j 0) ∧ Bd (vF lo j - vF (tapL xs (psQ q)) j) η) {i : Nat} (hi : i < 2 * m) :
    FinW .f32 ((joinL lo (tapL xs (highL (psQ q))) (psQ q)).getD i 0) ∧ Bd (vF (joinL lo (tapL xs (highL (psQ q))) (psQ q)) i - vF xs i) (η + M / 50000) := by
  obtain ⟨m0, m1⟩ := id hM
  have ht : i / 2 < m := by omega
  obtain ⟨s, hs⟩ : ∃ s, s = if i / 2 = 0 then m - 1 else i / 2 - 1 := ⟨_, rfl⟩
  obtain ⟨hsm, hsn⟩ := pred_next ht hs
  have bnd : ∀ j, j < m → Bd (loQ q (vF xs (2 * j)) (vF xs (2 * j + 1)) (vF xs (2 * ((j + 1) % m))) (vF xs (2 * ((j + 1) % m) + 1))) (17 / 10 * M) ∧ Bd (hiQ q (vF xs (2 * j)) (vF xs (2 * j + 1)) (vF xs (2 * ((j + 1) % m))) (vF xs (2 * ((j + 1) % m) + 1))) (17 / 10 * M) := fun j hj => by
    obtain ⟨n1, n2, n3⟩ := mod_next hj
    exact lo_bd q (hx (2 * j) (by omega)).2 (hx (2 * j + 1) (by omega)).2 (hx (2 * ((j + 1) % m)) (by omega)).2 (hx (2 * ((j + 1) % m) + 1) (by omega)).2
  have nl : ∀ j, j < m → Bd (vF lo j - loQ q (vF xs (2 * j)) (vF xs (2 * j + 1)) (vF xs (2 * ((j + 1) % m))) (vF xs (2 * ((j + 1) % m) + 1))) (η + 2 * M / 1000000) := fun j hj => by
    obtain ⟨a1, a2, a3⟩ := (split_near q hM hl hx hj).1
    obtain ⟨b1, b2⟩ := (hL j hj).2
    unfold vF at *
    exact ⟨by grind_linarith, by grind_linarith⟩
  have nh : ∀ j, j < m → Bd (vF (tapL xs (highL (psQ q))) j - hiQ q (vF xs (2 * j)) (vF xs (2 * j + 1)) (vF xs (2 * ((j + 1) % m))) (vF xs (2 * ((j + 1) % m) + 1))) (2 * M / 1000000) := fun j hj => by
    obtain ⟨a1, a2, a3⟩ := (split_near q hM hl hx hj).2
    unfold vF at *
    exact ⟨by grind_linarith, by grind_linarith⟩
  have bl : ∀ j, j < m → FinW .f32 (lo.getD j 0) ∧ Bd (vF lo j) (2 * M) := fun j hj => by
    obtain ⟨a1, a2⟩ := nl j hj
    obtain ⟨b1, b2⟩ := (bnd j hj).1
    exact ⟨(hL j hj).1, by grind_linarith, by grind_linarith⟩
  have bh : ∀ j, j < m → FinW .f32 ((tapL xs (highL (psQ q))).getD j 0) ∧ Bd (vF (tapL xs (highL (psQ q))) j) (2 * M) := fun j hj => by
    obtain ⟨a1, a2⟩ := nh j hj
    obtain ⟨b1, b2⟩ := (bnd j hj).2
    exact ⟨(split_near q hM hl hx hj).2.1, by grind_linarith, by grind_linarith⟩
  obtain ⟨j1, j2⟩ := join_near q hM hlo bl bh ht hs
  have n1 := (mod_next ht).2.2
  have ns := nl s hsm
  have hs' := nh s hsm
  rw [hsn] at ns hs'
  obtain ⟨c1, c2⟩ := back_alg q (hx (2 * (i / 2)) (by omega)).2 (hx (2 * (i / 2) + 1) (by omega)).2 (hx (2 * ((i / 2 + 1) % m)) (by omega)).2 (hx (2 * ((i / 2 + 1) % m) + 1) (by omega)).2 (hx (2 * s) (by omega)).2 (hx (2 * s + 1) (by omega)).2 (by grind_linarith) (by grind_linarith) (nl _ ht) (nh _ ht) ns hs'
  obtain ⟨p1, p2, p3⟩ := j1
  obtain ⟨r1, r2, r3⟩ := j2
  rcases (by omega : i = 2 * (i / 2) ∨ i = 2 * (i / 2) + 1) with e | e
  · rw [e]
    have e' : 2 * (i / 2) / 2 = i / 2 := by omega
    refine ⟨p1, ?_⟩
    obtain ⟨c3, c4⟩ := c1
    show Bd (fval .f32 _ - _) _
    exact ⟨by grind_linarith, by grind_linarith⟩
  · rw [e]
    refine ⟨r1, ?_⟩
    obtain ⟨c3, c4⟩ := c2
    show Bd (fval .f32 _ - _) _
    exact ⟨by grind_linarith, by grind_linarith⟩
theorem joinL_len (lo hi ps : List Nat) : (joinL lo hi ps).length = 2 * lo.length := joinN_len _ _ _ _ _
theorem join_ok (q : Bool) {lo hi : List Nat} {m : Nat} (hl : lo.length = m) (hh : hi.length = m) (h1 : 1 ≤ m) (h2 : m ≤ 64) (hx : ∀ i, i < m → FinW .f32 (lo.getD i 0)) (hy : ∀ i, i < m → FinW .f32 (hi.getD i 0)) (hz : ∀ i, i < 2 * m → FinW .f32 ((joinL lo hi (psQ q)).getD i 0)) : joinOk lo hi (psQ q) = true := by
  unfold joinOk
  rw [all_fin fun i hi => hx i (by omega), all_fin fun i hi => hy i (by omega), all_fin fun i hi => hz i (by rw [joinL_len] at hi; omega), psQ_valid, within_true.2 (by omega), decide_eq_true (show hi.length = lo.length by omega)]
  rfl
def finV64 (w : Nat) (v : Rat) : Bool := decide (FloatKind.f64.decode w = .number false (w % 4503599627370496 + 4503599627370496) ((w / 4503599627370496 : Nat) - 1075)) && decide (fval .f64 w = v)
theorem finV64_ok {w : Nat} {v : Rat} (h : finV64 w v = true) : FinW .f64 w ∧ fval .f64 w = v := by
  unfold finV64 at h
  rw [Bool.and_eq_true, decide_eq_true_eq, decide_eq_true_eq] at h
  exact ⟨⟨_, _, _, h.1⟩, h.2⟩
theorem c01_val : FinW .f64 4576918229304087675 ∧ fval .f64 4576918229304087675 = 5764607523034235 / 576460752303423488 := finV64_ok (by decide +kernel)
theorem c001_val : FinW .f64 4562254508917369340 ∧ fval .f64 4562254508917369340 = 1152921504606847 / 1152921504606846976 := finV64_ok (by decide +kernel)
theorem one_val : FinW .f64 4607182418800017408 ∧ fval .f64 4607182418800017408 = 1 := finV64_ok (by decide +kernel)
/-- Differences within a share. -/
theorem rel_gtr {a b : Nat} (ha : FinW .f64 a) (hb : FinW .f64 b) (h0 : 0 ≤ fval .f64 b) (h1 : fval .f64 b ≤ 1000000000) (hd : Bd (fval .f64 a - fval .f64 b) (9 / 1000 * (1 + fval .f64 b))) :
    fcB .gtr .f64 (gapW a b) (fbin .mul .f64 4576918229304087675 (fbin .add .f64 4607182418800017408 b)) = false := by
  obtain ⟨o1, o2⟩ := one_val
  obtain ⟨c1, c2⟩ := c01_val
  obtain ⟨s1, s2, s3⟩ := add_near (k := .f64) (M := 2000000000) o1 hb ⟨by grind_linarith, by grind_linarith⟩ (by rw [o2]; exact ⟨by grind_linarith, by grind_linarith⟩)
  rw [o2] at s2 s3
  simp only [epsK] at s2 s3
  obtain ⟨p1, p2, p3⟩ := mul_near (k := .f64) (M := 100000000) c1 s1 ⟨by grind_linarith, by grind_linarith⟩ (by rw [c2]; exact ⟨by grind_linarith, by grind_linarith⟩)
  rw [c2] at p2 p3
  simp only [epsK] at p2 p3
  obtain ⟨d1, d2⟩ := hd
  exact gap_gtr ha hb p1 (by grind_linarith) (by grind_linarith)
theorem leq_01 {a b : Nat} (ha : FinW .f32 a) (hb : FinW .f32 b) (hd : Bd (fval .f32 a - fval .f32 b) (9 / 1000)) : fcB .leq .f64 (gapW (f64 a) (f64 b)) 4576918229304087675 = true := by
  obtain ⟨a1, a2⟩ := f64_fin ha
  obtain ⟨b1, b2⟩ := f64_fin hb
  obtain ⟨c1, c2⟩ := c01_val
  obtain ⟨d1, d2⟩ := hd
  exact gap_leq a1 b1 c1 (by rw [a2, b2, c2]; grind_linarith) (by rw [a2, b2, c2]; grind_linarith)
/-- The energies, as the law compares them. -/
theorem rings_energy (q : Bool) {xs : List Nat} {m : Nat} {M : Rat} (hM : okR M) (hM8 : M ≤ 8) (hl : xs.length = 2 * m) (h2 : m ≤ 12) (hx : ∀ i, i < 2 * m → FinW .f32 (xs.getD i 0) ∧ Bd (vF xs i) M) (hs : M * M ≤ sqR xs (2 * m) + 1 / 16) :
    fcB .gtr .f64 (gapW (fbin .add .f64 (sqD (tapL xs (psQ q)) m) (sqD (tapL xs (highL (psQ q))) m)) (sqD xs (2 * m))) (fbin .mul .f64 4576918229304087675 (fbin .add .f64 4607182418800017408 (sqD xs (2 * m)))) = false := by
  obtain ⟨m0, m1⟩ := id hM
  obtain ⟨e1, e2⟩ := split_energy q hM hl hx
  have llo : (tapL xs (psQ q)).length = m := by rw [tapL_len]; omega
  have lhi : (tapL xs (highL (psQ q))).length = m := by rw [tapL_len]; omega
  have bnd : ∀ j, j < m → (FinW .f32 ((tapL xs (psQ q)).getD j 0) ∧ Bd (vF (tapL xs (psQ q)) j) 16) ∧ (FinW .f32 ((tapL xs (highL (psQ q))).getD j 0) ∧ Bd (vF (tapL xs (highL (psQ q))) j) 16) := fun j hj => by
    obtain ⟨n1, n2, n3⟩ := mod_next hj
    obtain ⟨⟨a1, a2, a3⟩, ⟨b1, b2, b3⟩⟩ := split_near q hM hl hx hj
    obtain ⟨⟨c1, c2⟩, ⟨d1, d2⟩⟩ := lo_bd q (hx (2 * j) (by omega)).2 (hx (2 * j + 1) (by omega)).2 (hx (2 * ((j + 1) % m)) (by omega)).2 (hx (2 * ((j + 1) % m) + 1) (by omega)).2
    unfold vF at *
    exact ⟨⟨a1, ⟨by grind_linarith, by grind_linarith⟩⟩, ⟨b1, ⟨by grind_linarith, by grind_linarith⟩⟩⟩
  obtain ⟨s1, s2, s3⟩ := sq_near (M := 16) (by grind_linarith) (by grind_linarith) (fun i hi => (bnd i (by omega)).1) m (by omega) (by omega)
  obtain ⟨t1, t2, t3⟩ := sq_near (M := 16) (by grind_linarith) (by grind_linarith) (fun i hi => (bnd i (by omega)).2) m (by omega) (by omega)
  obtain ⟨u1, u2, u3⟩ := sq_near (xs := xs) (M := 16) (by grind_linarith) (by grind_linarith) (fun i hi => ⟨(hx i (by omega)).1, by have := (hx i (by omega)).2; exact ⟨by have := this.1; grind_linarith, by have := this.2; grind_linarith⟩⟩) (2 * m) (by omega) (by omega)
  have hmr : (m : Rat) ≤ 12 := by have := natCast_le h2; simpa using this
  have hmr0 : (0 : Rat) ≤ m := Rat.natCast_nonneg
  have hm2 : ((2 * m : Nat) : Rat) = 2 * (m : Rat) := by rw [Rat.natCast_mul]; rfl
  rw [hm2] at u2 u3
  have S0 : 0 ≤ sqR xs (2 * m) := sumR_nonneg fun j _ => sq_nonneg _
  have MM0 := sq_nonneg M
  have hMM : M * M ≤ 64 := by
    have := sq_bd (x := M) (M := 8) ⟨by grind_linarith, hM8⟩
    grind_linarith
  have k1 : (m : Rat) * (M * M / 30000) ≤ 12 * (M * M / 30000) := Rat.mul_le_mul_of_nonneg_right hmr (by grind_linarith)
  have Sb : sqR xs (2 * m) ≤ 2000 := by
    have := (sumR_near (f := fun i => vF xs i * vF xs i) (g := fun _ => 0) (c := 64) (n := 2 * m) fun j hj => by
      have a := sq_bd (hx j hj).2
      have b := sq_nonneg (vF xs j)
      constructor <;> grind_linarith).1
    have z : ∀ n, sumR (fun _ => 0) n = 0 := fun n => by
      induction n with
      | zero => rfl
      | succ n ih => rw [sumR, ih]; grind_linarith
    rw [z, hm2] at this
    unfold sqR
    grind_linarith
  have L0 : 0 ≤ sqR (tapL xs (psQ q)) m := sumR_nonneg fun j _ => sq_nonneg _
  have H0 : 0 ≤ sqR (tapL xs (highL (psQ q))) m := sumR_nonneg fun j _ => sq_nonneg _
  obtain ⟨v1, v2, v3⟩ := add_near (k := .f64) (M := 10000) s1 t1 ⟨by grind_linarith, by grind_linarith⟩ ⟨by grind_linarith, by grind_linarith⟩
  simp only [epsK] at v2 v3
  have u0 : 0 ≤ fval .f64 (sqD xs (2 * m)) := sqD_nonneg (fun i hi => (hx i (by omega)).1) (fun i hi => (hx i (by omega)).2) hM8 _ (by omega) (by omega)
  exact rel_gtr v1 u1 u0 (by grind_linarith) ⟨by grind_linarith, by grind_linarith⟩
/-- An even list has nothing that is high. -/
def noneW : Bool → Nat
  | true => fbin .add .f32 (fbin .add .f32 (fbin .add .f32 (fbin .add .f32 0 (fbin .mul .f32 3187966958 1077936128)) (fbin .mul .f32 3194324472 1077936128)) (fbin .mul .f32 1062610415 1077936128)) (fbin .mul .f32 3203876586 1077936128)
  | false => fbin .add .f32 (fbin .add .f32 0 (fbin .mul .f32 1060439283 1077936128)) (fbin .mul .f32 3207922931 1077936128)
theorem none_ok (q : Bool) : fcB .gtr .f64 (gapW (f64 (noneW q)) 0) 4562254508917369340 = false := by cases q <;> decide +kernel
theorem three_val : FinW .f32 1077936128 ∧ fval .f32 1077936128 = 3 := finV_ok (by decide +kernel)
theorem rep_at {n i w : Nat} (h : i < n) : (List.replicate n w).getD i 0 = w := by simp [List.getD_eq_getElem?_getD, h]
theorem none_at (q : Bool) {m j : Nat} (hj : j < m) : (tapL (List.replicate (2 * m) 1077936128) (highL (psQ q))).getD j 0 = noneW q := by
  have hl : (List.replicate (2 * m) 1077936128).length = 2 * m := by simp
  have r : ∀ k, (List.replicate (2 * m) 1077936128).getD (k % (2 * m)) 0 = 1077936128 := fun k => rep_at (Nat.mod_lt _ (by omega))
  rw [tapL_at (by rw [hl]; omega)]
  cases q
  · have e : highL (psQ false) = haarG := haarG_eq
    rw [e]
    show tapF _ haarG j 2 = _
    rw [tapF_succ, tapF_succ, hl, r, r]
    rfl
  · have e : highL (psQ true) = fourG := fourG_eq
    rw [e]
    show tapF _ fourG j 4 = _
    rw [tapF_succ, tapF_succ, tapF_succ, tapF_succ, hl, r, r, r, r]
    rfl
def otD (q : Bool) : Nat → Nat := foldI (fun k s => fbin .add .f64 s (fbin .mul .f64 (f64 ((highL (psQ q)).getD k 0)) (f64 ((psQ q).getD k 0)))) 0
theorem ot_ok (q : Bool) : fcB .lss .f64 (gapW (otD q (psQ q).length) 0) 4562254508917369340 = true := by cases q <;> decide +kernel
end Go.Proofs.Ytddekdgggpifmaa

namespace Go.Proofs.Ytddekdgggpifmaa
open Go.Gx
set_option maxRecDepth 100000
set_option linter.unusedSimpArgs false
set_option linter.unusedVariables false

def lnT (c : Nat) : Nat → Nat
  | 0 => 8 * c
  | 1 => 4 * c
  | 2 => 2 * c
  | _ => c
theorem lnT_two (c : Nat) : ∀ t, t < 3 → lnT c t = 2 * lnT c (t + 1)
  | 0, _ => by simp only [lnT]; omega
  | 1, _ => by simp only [lnT]; omega
  | 2, _ => by simp only [lnT]
theorem lnT_bd {c : Nat} (h1 : 1 ≤ c) (h2 : c ≤ 4) : ∀ t, 1 ≤ lnT c t ∧ lnT c t ≤ 32
  | 0 => by simp only [lnT]; omega
  | 1 => by simp only [lnT]; omega
  | 2 => by simp only [lnT]; omega
  | t + 3 => by simp only [lnT]; omega
theorem lnT_bd1 {c : Nat} (h1 : 1 ≤ c) (h2 : c ≤ 4) : ∀ t, lnT c (t + 1) ≤ 16
  | 0 => by simp only [lnT]; omega
  | 1 => by simp only [lnT]; omega
  | t + 2 => by simp only [lnT]; omega
def bT (M : Rat) : Nat → Rat
  | 0 => M
  | t + 1 => 2 * bT M t
theorem bT_ge {M : Rat} (h : 1 / 16 ≤ M) : ∀ t, M ≤ bT M t
  | 0 => Rat.le_refl
  | t + 1 => by have := bT_ge h t; rw [bT]; grind_linarith
theorem bT_le {M : Rat} (h0 : 1 / 16 ≤ M) (h : M ≤ 8) : ∀ t, t ≤ 3 → bT M t ≤ 64
  | 0, _ => by rw [bT]; grind_linarith
  | 1, _ => by rw [bT, bT]; grind_linarith
  | 2, _ => by rw [bT, bT, bT]; grind_linarith
  | 3, _ => by rw [bT, bT, bT, bT]; grind_linarith
theorem bT_okR {M : Rat} (h0 : 1 / 16 ≤ M) (h : M ≤ 8) {t : Nat} (ht : t ≤ 3) : okR (bT M t) := ⟨by have := bT_ge h0 t; grind_linarith, by have := bT_le h0 h t ht; grind_linarith⟩
section
variable {xs : List Nat} {c n : Nat} {M : Rat}
theorem nowS_ln (hl : xs.length = 8 * c) (ps : List Nat) : ∀ t, t ≤ 3 → (nowS xs ps t).length = lnT c t
  | 0, _ => hl
  | t + 1, h => by
    rw [nowS_succ, tapL_len, nowS_ln hl ps t (by omega), lnT_two c t (by omega)]
    omega
theorem bd_mono {x A B : Rat} (h : Bd x A) (hab : A ≤ B) : Bd x B := ⟨by have := h.1; grind_linarith, by have := h.2; grind_linarith⟩
theorem level_ok (q : Bool) (h0 : 1 / 16 ≤ M) (h8 : M ≤ 8) (hl : xs.length = 8 * c) (hx : ∀ i, i < 8 * c → FinW .f32 (xs.getD i 0) ∧ Bd (vF xs i) M) :
    ∀ t, t ≤ 3 → ∀ i, i < lnT c t → FinW .f32 ((nowS xs (psQ q) t).getD i 0) ∧ Bd (vF (nowS xs (psQ q) t) i) (bT M t)
  | 0, _ => hx
  | t + 1, ht => fun i hi => by
    have ih := level_ok q h0 h8 hl hx t (by omega)
    have h2 := lnT_two c t (by omega)
    have hM := bT_okR h0 h8 (show t ≤ 3 by omega)
    have hm0 := hM.1
    obtain ⟨n1, n2, n3⟩ := mod_next hi
    obtain ⟨a1, a2, a3⟩ := (split_near q hM (by rw [nowS_ln hl _ t (by omega), h2]) (fun i hi => ih i (by omega)) hi).1
    obtain ⟨b1, b2⟩ := (lo_bd q (ih (2 * i) (by omega)).2 (ih (2 * i + 1) (by omega)).2 (ih (2 * ((i + 1) % lnT c (t + 1))) (by omega)).2 (ih (2 * ((i + 1) % lnT c (t + 1)) + 1) (by omega)).2).1
    rw [nowS_succ]
    refine ⟨a1, ?_⟩
    unfold vF at *
    rw [bT]
    exact ⟨by grind_linarith, by grind_linarith⟩
theorem det_ok (q : Bool) (h0 : 1 / 16 ≤ M) (h8 : M ≤ 8) (hl : xs.length = 8 * c) (hx : ∀ i, i < 8 * c → FinW .f32 (xs.getD i 0) ∧ Bd (vF xs i) M) {t : Nat} (ht : t < 3) {i : Nat} (hi : i < lnT c (t + 1)) :
    FinW .f32 ((tapL (nowS xs (psQ q) t) (highL (psQ q))).getD i 0) ∧ Bd (vF (tapL (nowS xs (psQ q) t) (highL (psQ q))) i) (bT M (t + 1)) := by
  have ih := level_ok q h0 h8 hl hx t (by omega)
  have h2 := lnT_two c t (by omega)
  have hM := bT_okR h0 h8 (show t ≤ 3 by omega)
  have hm0 := hM.1
  obtain ⟨n1, n2, n3⟩ := mod_next hi
  obtain ⟨a1, a2, a3⟩ := (split_near q hM (by rw [nowS_ln hl _ t (by omega), h2]) (fun i hi => ih i (by omega)) hi).2
  obtain ⟨b1, b2⟩ := (lo_bd q (ih (2 * i) (by omega)).2 (ih (2 * i + 1) (by omega)).2 (ih (2 * ((i + 1) % lnT c (t + 1))) (by omega)).2 (ih (2 * ((i + 1) % lnT c (t + 1)) + 1) (by omega)).2).2
  refine ⟨a1, ?_⟩
  unfold vF at *
  rw [bT]
  exact ⟨by grind_linarith, by grind_linarith⟩
theorem det_ln (hl : xs.length = 8 * c) (ps ps' : List Nat) {t : Nat} (ht : t < 3) : (tapL (nowS xs ps t) ps').length = lnT c (t + 1) := by
  rw [tapL_len, nowS_ln hl _ t (by omega), lnT_two c t ht]
  omega
theorem dets_at {ps : List Nat} {t : Nat} (ht : t < n) : (detsS xs ps n).getD t [] = tapL (nowS xs ps t) (highL ps) := getD_range_map ht
theorem levels_ok (q : Bool) (h0 : 1 / 16 ≤ M) (h8 : M ≤ 8) (hl : xs.length = 8 * c) (hc : 1 ≤ c) (hc4 : c ≤ 4) (hn : 1 ≤ n) (hn3 : n ≤ 3) (hx : ∀ i, i < 8 * c → FinW .f32 (xs.getD i 0) ∧ Bd (vF xs i) M) :
    splitLevOk xs (psQ q) (n : Int) = true := by
  unfold splitLevOk isLongF
  have f1 : xs.all finF = true := all_fin fun i hi => (hx i (by omega)).1
  have f2 : xs.length % 2 ^ ((n : Int)).toNat = 0 := by
    rw [Int.toNat_natCast, hl]
    rcases (by omega : n = 1 ∨ n = 2 ∨ n = 3) with rfl | rfl | rfl <;> omega
  have f3 : ((List.range ((n : Int)).toNat).all fun t => splitOk (nowS xs (psQ q) t) (psQ q)) = true := by
    rw [List.all_eq_true]
    intro t ht
    have ht' : t < n := by simpa using ht
    have h2 := lnT_two c t (by omega)
    have hb := lnT_bd hc hc4 (t + 1)
    exact split_ok q (bT_okR h0 h8 (show t ≤ 3 by omega)) (by rw [nowS_ln hl _ t (by omega), h2]) hb.1 (by omega) fun i hi => level_ok q h0 h8 hl hx t (by omega) i (by omega)
  rw [f1, decide_eq_true f2, f3, psQ_valid, within_true.2 (by omega), within_true.2 (by omega)]
  rfl
theorem bands_valid (q : Bool) (h0 : 1 / 16 ≤ M) (h8 : M ≤ 8) (hl : xs.length = 8 * c) (hc : 1 ≤ c) (hc4 : c ≤ 4) (hn : 1 ≤ n) (hn3 : n ≤ 3) (hx : ∀ i, i < 8 * c → FinW .f32 (xs.getD i 0) ∧ Bd (vF xs i) M) :
    validBandsF (nowS xs (psQ q) n) (detsS xs (psQ q) n) = true := by
  unfold validBandsF
  have dl := detsS_length xs (psQ q) n
  have d0 : ((detsS xs (psQ q) n).getD 0 []).length ≤ 64 := by
    rw [dets_at (by omega), det_ln hl _ _ (by omega)]
    have := lnT_bd hc hc4 (0 + 1)
    omega
  have f1 : (nowS xs (psQ q) n).all finF = true := all_fin fun i hi => (level_ok q h0 h8 hl hx n hn3 i (by rw [nowS_ln hl _ n hn3] at hi; exact hi)).1
  have f2 : ((detsS xs (psQ q) n).all fun ys => ys.all finF) = true := (allD []).2 fun t ht => by
    rw [dl] at ht
    rw [dets_at ht]
    exact all_fin fun i hi => (det_ok q h0 h8 hl hx (by omega) (by rw [det_ln hl _ _ (by omega)] at hi; exact hi)).1
  have f3 : (List.range (detsS xs (psQ q) n).length).all (detAt (detsS xs (psQ q) n)) = true := by
    rw [List.all_eq_true]
    intro t ht
    have ht' : t < n := by simpa [dl] using ht
    have hb := lnT_bd hc hc4 (t + 1)
    unfold detAt
    rw [dets_at ht', det_ln hl _ _ (by omega)]
    by_cases t0 : t = 0
    · rw [decide_eq_true hb.1, decide_eq_true t0]
      rfl
    · rw [dets_at (by omega), det_ln hl _ _ (by omega)]
      have := lnT_two c t (by omega)
      have e : t - 1 + 1 = t := by omega
      rw [e, decide_eq_true hb.1, decide_eq_true this]
      simp
  have f4 : (nowS xs (psQ q) n).length = ((detsS xs (psQ q) n).getD ((detsS xs (psQ q) n).length - 1) []).length := by
    rw [dl, dets_at (by omega), det_ln hl _ _ (by omega), nowS_ln hl _ n hn3]
    congr 1
    omega
  rw [dl] at f3 f4 ⊢
  rw [within_true.2 (by omega), decide_eq_true d0, f1, f2, f3, decide_eq_true f4]
  rfl
/-- Levels are undone, nearly. -/
theorem levels_back (q : Bool) (h0 : 1 / 16 ≤ M) (h8 : M ≤ 8) (hl : xs.length = 8 * c) (hc : 1 ≤ c) (hc4 : c ≤ 4) (hn : 1 ≤ n) (hn3 : n ≤ 3) (hx : ∀ i, i < 8 * c → FinW .f32 (xs.getD i 0) ∧ Bd (vF xs i) M) :
    ∀ t, t ≤ n → (nowJ (nowS xs (psQ q) n) (detsS xs (psQ q) n) (psQ q) t).length = lnT c (n - t) ∧ ∀ i, i < lnT c (n - t) → FinW .f32 ((nowJ (nowS xs (psQ q) n) (detsS xs (psQ q) n) (psQ q) t).getD i 0) ∧
      Bd (vF (nowJ (nowS xs (psQ q) n) (detsS xs (psQ q) n) (psQ q) t) i - vF (nowS xs (psQ q) (n - t)) i) ((bT M n - bT M (n - t)) / 50000)
  | 0, _ => by
    refine ⟨nowS_ln hl _ n hn3, fun i hi => ⟨(level_ok q h0 h8 hl hx n hn3 i hi).1, ?_⟩⟩
    show Bd (vF (nowS xs (psQ q) n) i - vF (nowS xs (psQ q) n) i) ((bT M n - bT M n) / 50000)
    constructor <;> grind_linarith
  | t + 1, ht => by
    obtain ⟨ih1, ih2⟩ := levels_back q h0 h8 hl hc hc4 hn hn3 hx t (by omega)
    have dl := detsS_length xs (psQ q) n
    obtain ⟨k, hk⟩ : ∃ k, k = n - (t + 1) := ⟨_, rfl⟩
    have e1 : n - t = k + 1 := by omega
    have e2 : (detsS xs (psQ q) n).length - 1 - t = k := by rw [dl]; omega
    rw [nowJ_succ, e2, dets_at (by omega), ← hk]
    rw [e1] at ih1 ih2
    have h2 := lnT_two c k (by omega)
    have hM := bT_okR h0 h8 (show k ≤ 3 by omega)
    have hbk := bT_ge h0 k
    have hbk1 := bT_ge h0 (k + 1)
    have hbn := bT_le h0 h8 n hn3
    have hmn : bT M (k + 1) ≤ bT M n := by
      rcases (by omega : n = k + 1 ∨ n = k + 2 ∨ n = k + 3) with e | e | e
      · rw [e]; exact Rat.le_refl
      · rw [e]
        have e3 : bT M (k + 2) = 2 * bT M (k + 1) := rfl
        rw [e3]; grind_linarith
      · rw [e]
        have e3 : bT M (k + 3) = 2 * (2 * bT M (k + 1)) := rfl
        rw [e3]; grind_linarith
    have ek : bT M (k + 1) = 2 * bT M k := rfl
    have hb8 : bT M n ≤ 8 * M := by
      rcases (by omega : n = 1 ∨ n = 2 ∨ n = 3) with e | e | e
      · rw [e, bT, bT]; grind_linarith
      · rw [e, bT, bT, bT]; grind_linarith
      · rw [e, bT, bT, bT, bT]; grind_linarith
    refine ⟨by rw [joinL_len, ih1, h2], fun i hi => ?_⟩
    obtain ⟨a1, a2⟩ := ring_back q (xs := nowS xs (psQ q) k) (lo := nowJ (nowS xs (psQ q) n) (detsS xs (psQ q) n) (psQ q) t) (m := lnT c (k + 1)) (η := (bT M n - bT M (k + 1)) / 50000) hM (by rw [nowS_ln hl _ k (by omega), h2]) (fun i hi => level_ok q h0 h8 hl hx k (by omega) i (by omega)) ih1 (by grind_linarith) (by grind_linarith)
      (fun j hj => ih2 j hj) (i := i) (by omega)
    refine ⟨a1, bd_mono a2 ?_⟩
    grind_linarith
end
end Go.Proofs.Ytddekdgggpifmaa

namespace Go.Proofs.Ytddekdgggpifmaa
open Go.Gx
set_option maxRecDepth 100000
set_option linter.unusedSimpArgs false
set_option linter.unusedVariables false

/-! ### joining, exactly -/
def prevI (m t : Nat) : Nat := if t = 0 then m - 1 else t - 1
def JR (q : Bool) (m : Nat) (L G : Nat → Rat) (i : Nat) : Rat :=
  if i % 2 = 0 then jeQ q (L (i / 2)) (G (i / 2)) (L (prevI m (i / 2))) (G (prevI m (i / 2))) else joQ q (L (i / 2)) (G (i / 2)) (L (prevI m (i / 2))) (G (prevI m (i / 2)))
def ZR (q : Bool) (c n : Nat) (C : Nat → Rat) (D : Nat → Nat → Rat) : Nat → Nat → Rat
  | 0 => C
  | t + 1 => JR q (lnT c (n - t)) (ZR q c n C D t) (D (n - 1 - t))
theorem je_sum (q : Bool) (a b a' b' : Nat → Rat) : ∀ N, sumR (fun l => jeQ q (a l) (b l) (a' l) (b' l)) N = jeQ q (sumR a N) (sumR b N) (sumR a' N) (sumR b' N)
  | 0 => by cases q <;> simp only [sumR, jeQ] <;> grind_linarith
  | N + 1 => by
    have ih := je_sum q a b a' b' N
    rw [sumR, ih]
    cases q <;> simp only [sumR, jeQ] <;> grind_linarith
theorem jo_sum (q : Bool) (a b a' b' : Nat → Rat) : ∀ N, sumR (fun l => joQ q (a l) (b l) (a' l) (b' l)) N = joQ q (sumR a N) (sumR b N) (sumR a' N) (sumR b' N)
  | 0 => by cases q <;> simp only [sumR, joQ] <;> grind_linarith
  | N + 1 => by
    have ih := jo_sum q a b a' b' N
    rw [sumR, ih]
    cases q <;> simp only [sumR, joQ] <;> grind_linarith
theorem JR_sum (q : Bool) (m : Nat) (L G : Nat → Nat → Rat) (N i : Nat) : sumR (fun l => JR q m (L l) (G l) i) N = JR q m (fun j => sumR (fun l => L l j) N) (fun j => sumR (fun l => G l j) N) i := by
  unfold JR
  by_cases c : i % 2 = 0
  · simp only [if_pos c]
    exact je_sum q _ _ _ _ N
  · simp only [if_neg c]
    exact jo_sum q _ _ _ _ N
theorem ZR_sum (q : Bool) (c n : Nat) (C : Nat → Nat → Rat) (D : Nat → Nat → Nat → Rat) (N : Nat) : ∀ t i, sumR (fun l => ZR q c n (C l) (D l) t i) N = ZR q c n (fun j => sumR (fun l => C l j) N) (fun k j => sumR (fun l => D l k j) N) t i
  | 0, i => rfl
  | t + 1, i => by
    have e : (fun j => sumR (fun l => ZR q c n (C l) (D l) t j) N) = ZR q c n (fun j => sumR (fun l => C l j) N) (fun k j => sumR (fun l => D l k j) N) t := funext fun j => ZR_sum q c n C D N t j
    show sumR (fun l => JR q (lnT c (n - t)) (ZR q c n (C l) (D l) t) (D l (n - 1 - t)) i) N = _
    rw [JR_sum, e]
    rfl
theorem JR_congr {q : Bool} {m : Nat} {L L' G G' : Nat → Rat} (hL : ∀ j, j < m → L j = L' j) (hG : ∀ j, j < m → G j = G' j) {i : Nat} (hi : i < 2 * m) : JR q m L G i = JR q m L' G' i := by
  have h1 : i / 2 < m := by omega
  have h2 : prevI m (i / 2) < m := by unfold prevI; split <;> omega
  unfold JR
  rw [hL _ h1, hG _ h1, hL _ h2, hG _ h2]
theorem ZR_congr {q : Bool} {c n : Nat} (hn3 : n ≤ 3) {C C' : Nat → Rat} {D D' : Nat → Nat → Rat} (hC : ∀ j, j < lnT c n → C j = C' j) (hD : ∀ k, k < n → ∀ j, j < lnT c (k + 1) → D k j = D' k j) : ∀ t, t ≤ n → ∀ i, i < lnT c (n - t) → ZR q c n C D t i = ZR q c n C' D' t i
  | 0, _, i, hi => hC i hi
  | t + 1, ht, i, hi => by
    have h2 := lnT_two c (n - (t + 1)) (by omega)
    have e : n - (t + 1) + 1 = n - t := by omega
    rw [e] at h2
    refine JR_congr (fun j hj => ZR_congr hn3 hC hD t (by omega) j hj) (fun j hj => hD _ (by omega) j ?_) (by omega)
    have e2 : n - 1 - t + 1 = n - t := by omega
    rw [e2]
    exact hj
theorem sumR_one (d : Rat) {N k : Nat} (h : k < N) : sumR (fun l => if l = k then d else 0) N = d := by
  induction N with
  | zero => omega
  | succ N ih =>
    rw [sumR]
    by_cases c : k = N
    · subst c
      rw [if_pos rfl]
      have : sumR (fun l => if l = k then d else 0) k = sumR (fun _ => 0) k := sumR_congr fun j hj => if_neg (by omega)
      rw [this]
      have z : ∀ n, sumR (fun _ => 0) n = 0 := fun n => by
        induction n with
        | zero => rfl
        | succ n ih => rw [sumR, ih]; grind_linarith
      rw [z]
      grind_linarith
    · rw [if_neg (by omega), ih (by omega)]
      grind_linarith

/-! ### joined bands of any kind -/
def BtR : Nat → Rat
  | 0 => 64
  | t + 1 => 7 / 4 * BtR t
def etR : Nat → Rat
  | 0 => 0
  | t + 1 => etR t + 5 / 2000000 * BtR t
theorem BtR_bd : ∀ t, t ≤ 3 → 64 ≤ BtR t ∧ BtR t ≤ 343 ∧ 0 ≤ etR t ∧ etR t ≤ 1 / 1000
  | 0, _ => by simp only [BtR, etR]; refine ⟨?_, ?_, ?_, ?_⟩ <;> grind_linarith
  | 1, _ => by simp only [BtR, etR]; refine ⟨?_, ?_, ?_, ?_⟩ <;> grind_linarith
  | 2, _ => by simp only [BtR, etR]; refine ⟨?_, ?_, ?_, ?_⟩ <;> grind_linarith
  | 3, _ => by simp only [BtR, etR]; refine ⟨?_, ?_, ?_, ?_⟩ <;> grind_linarith
theorem je_bd (q : Bool) {l h l' h' B : Rat} (h1 : Bd l B) (h2 : Bd h B) (h3 : Bd l' B) (h4 : Bd h' B) : Bd (jeQ q l h l' h') (17 / 10 * B) ∧ Bd (joQ q l h l' h') (17 / 10 * B) := by
  obtain ⟨a1, a2⟩ := h1
  obtain ⟨b1, b2⟩ := h2
  obtain ⟨c1, c2⟩ := h3
  obtain ⟨d1, d2⟩ := h4
  cases q <;> simp only [jeQ, joQ] <;> exact ⟨⟨by grind_linarith, by grind_linarith⟩, ⟨by grind_linarith, by grind_linarith⟩⟩
theorem je_diff (q : Bool) {l h l' h' k k' e : Rat} (h1 : Bd (l - k) e) (h3 : Bd (l' - k') e) (he : 0 ≤ e) : Bd (jeQ q l h l' h' - jeQ q k h k' h') e ∧ Bd (joQ q l h l' h' - joQ q k h k' h') e := by
  obtain ⟨a1, a2⟩ := h1
  obtain ⟨c1, c2⟩ := h3
  cases q <;> simp only [jeQ, joQ] <;> exact ⟨⟨by grind_linarith, by grind_linarith⟩, ⟨by grind_linarith, by grind_linarith⟩⟩
theorem join_any (q : Bool) {c n : Nat} (hn3 : n ≤ 3) {cs : List Nat} {yss : List (List Nat)} (hy : yss.length = n) (hcl : cs.length = lnT c n) (hyl : ∀ k, k < n → (yss.getD k []).length = lnT c (k + 1))
    (hcf : ∀ i, i < lnT c n → FinW .f32 (cs.getD i 0) ∧ Bd (vF cs i) 64) (hyf : ∀ k, k < n → ∀ i, i < lnT c (k + 1) → FinW .f32 ((yss.getD k []).getD i 0) ∧ Bd (vF (yss.getD k []) i) 64) :
    ∀ t, t ≤ n → (nowJ cs yss (psQ q) t).length = lnT c (n - t) ∧ ∀ i, i < lnT c (n - t) → FinW .f32 ((nowJ cs yss (psQ q) t).getD i 0) ∧ Bd (vF (nowJ cs yss (psQ q) t) i) (BtR t) ∧
      Bd (vF (nowJ cs yss (psQ q) t) i - ZR q c n (vF cs) (fun k => vF (yss.getD k [])) t i) (etR t)
  | 0, _ => ⟨hcl, fun i hi => ⟨(hcf i hi).1, (hcf i hi).2, by
      show Bd (vF cs i - vF cs i) 0
      constructor <;> grind_linarith⟩⟩
  | t + 1, ht => by
    obtain ⟨ih1, ih2⟩ := join_any q hn3 hy hcl hyl hcf hyf t (by omega)
    obtain ⟨b1, b2, b3, b4⟩ := BtR_bd t (by omega)
    have h2 := lnT_two c (n - (t + 1)) (by omega)
    have e : n - (t + 1) + 1 = n - t := by omega
    have ek : n - 1 - t + 1 = n - t := by omega
    have e2 : yss.length - 1 - t = n - 1 - t := by rw [hy]
    rw [e] at h2
    have hdk : ∀ i, i < lnT c (n - t) → FinW .f32 ((yss.getD (n - 1 - t) []).getD i 0) ∧ Bd (vF (yss.getD (n - 1 - t) []) i) (BtR t) := fun i hi => by
      have := hyf (n - 1 - t) (by omega) i (by rw [ek]; exact hi)
      exact ⟨this.1, bd_mono this.2 b1⟩
    rw [nowJ_succ, e2]
    refine ⟨by rw [joinL_len, ih1, h2], fun i hi => ?_⟩
    have hi2 : i / 2 < lnT c (n - t) := by omega
    have hs : prevI (lnT c (n - t)) (i / 2) < lnT c (n - t) := by unfold prevI; split <;> omega
    obtain ⟨j1, j2⟩ := join_near q (lo := nowJ cs yss (psQ q) t) (hi := yss.getD (n - 1 - t) []) (m := lnT c (n - t)) (M := BtR t / 2) ⟨by grind_linarith, by grind_linarith⟩ ih1 (fun i hi => ⟨(ih2 i hi).1, bd_mono (ih2 i hi).2.1 (by grind_linarith)⟩) (fun i hi => ⟨(hdk i hi).1, bd_mono (hdk i hi).2 (by grind_linarith)⟩) hi2 rfl
    obtain ⟨g1, g2⟩ := je_bd q (ih2 _ hi2).2.1 (hdk _ hi2).2 (ih2 _ hs).2.1 (hdk _ hs).2
    obtain ⟨d1, d2⟩ := je_diff q (h := vF (yss.getD (n - 1 - t) []) (i / 2)) (h' := vF (yss.getD (n - 1 - t) []) (prevI (lnT c (n - t)) (i / 2))) (ih2 _ hi2).2.2 (ih2 _ hs).2.2 b3
    have eB : BtR (t + 1) = 7 / 4 * BtR t := rfl
    have eE : etR (t + 1) = etR t + 5 / 2000000 * BtR t := rfl
    have eZ : ZR q c n (vF cs) (fun k => vF (yss.getD k [])) (t + 1) i = JR q (lnT c (n - t)) (ZR q c n (vF cs) (fun k => vF (yss.getD k [])) t) (vF (yss.getD (n - 1 - t) [])) i := rfl
    rw [eB, eE, eZ]
    change Nr _ (jeQ q _ _ (vF _ (prevI (lnT c (n - t)) (i / 2))) (vF _ (prevI (lnT c (n - t)) (i / 2)))) _ at j1
    change Nr _ (joQ q _ _ (vF _ (prevI (lnT c (n - t)) (i / 2))) (vF _ (prevI (lnT c (n - t)) (i / 2)))) _ at j2
    unfold JR
    rcases (by omega : i % 2 = 0 ∨ i % 2 = 1) with p | p
    · rw [if_pos p]
      have ei : 2 * (i / 2) = i := by omega
      rw [ei] at j1
      obtain ⟨k1, k2, k3⟩ := j1
      obtain ⟨g3, g4⟩ := g1
      obtain ⟨d3, d4⟩ := d1
      refine ⟨k1, ?_, ?_⟩
      · show Bd (fval .f32 _) _
        exact ⟨by grind_linarith, by grind_linarith⟩
      · show Bd (fval .f32 _ - _) _
        exact ⟨by grind_linarith, by grind_linarith⟩
    · rw [if_neg (by omega)]
      have ei : 2 * (i / 2) + 1 = i := by omega
      rw [ei] at j2
      obtain ⟨k1, k2, k3⟩ := j2
      obtain ⟨g3, g4⟩ := g2
      obtain ⟨d3, d4⟩ := d2
      refine ⟨k1, ?_, ?_⟩
      · show Bd (fval .f32 _) _
        exact ⟨by grind_linarith, by grind_linarith⟩
      · show Bd (fval .f32 _ - _) _
        exact ⟨by grind_linarith, by grind_linarith⟩
end Go.Proofs.Ytddekdgggpifmaa

namespace Go.Proofs.Ytddekdgggpifmaa
open Go.Gx
set_option maxRecDepth 100000
set_option linter.unusedSimpArgs false
set_option linter.unusedVariables false

theorem rep0_at (n i : Nat) : (List.replicate n 0).getD i 0 = 0 := by
  by_cases h : i < n
  · exact rep_at h
  · simp [List.getD_eq_getElem?_getD, List.getElem?_eq_none (l := List.replicate n 0) (i := i) (by simp; omega)]
theorem keepL_v (b : Bool) (xs : List Nat) (i : Nat) : vF (keepL b xs) i = if b = true then vF xs i else 0 := by
  cases b
  · have : keepL false xs = List.replicate xs.length 0 := rfl
    rw [this]
    unfold vF
    rw [rep0_at, finW_zero.2]
    rfl
  · rfl
theorem keepL_ok {b : Bool} {xs : List Nat} {i : Nat} {B : Rat} (h : FinW .f32 (xs.getD i 0) ∧ Bd (vF xs i) B) (hB : 0 ≤ B) : FinW .f32 ((keepL b xs).getD i 0) ∧ Bd (vF (keepL b xs) i) B := by
  rw [keepL_v]
  cases b
  · have : keepL false xs = List.replicate xs.length 0 := rfl
    rw [this, rep0_at]
    refine ⟨finW_zero.1, ?_⟩
    rw [if_neg (by decide)]
    constructor <;> grind_linarith
  · rw [if_pos rfl]
    exact h
theorem aloneK_at {n j : Nat} {l : Int} (h : j < n) : (aloneK n l).getD j false = decide ((j : Int) = l) := getD_range_map h
/-! ### sums of alone bands -/
def accF (f : Nat → Nat) : Nat → Nat := foldI (fun l a => fbin .add .f32 a (f l)) 0
theorem accF_succ (f : Nat → Nat) (K : Nat) : accF f (K + 1) = fbin .add .f32 (accF f K) (f K) := rfl
theorem acc_near {f : Nat → Nat} {N : Nat} (hN : N ≤ 4) (hf : ∀ l, l < N → FinW .f32 (f l) ∧ Bd (fval .f32 (f l)) 343) : ∀ K, K ≤ N → FinW .f32 (accF f K) ∧ Bd (fval .f32 (accF f K)) ((K : Rat) * 344) ∧ Bd (fval .f32 (accF f K) - sumR (fun l => fval .f32 (f l)) K) ((K : Rat) * (2 / 10000))
  | 0, _ => by
    have e : ((0 : Nat) : Rat) = 0 := rfl
    refine ⟨finW_zero.1, ?_, ?_⟩
    · show Bd (fval .f32 0) _
      rw [finW_zero.2, e]
      constructor <;> grind_linarith
    · show Bd (fval .f32 0 - sumR _ 0) _
      rw [finW_zero.2, e, sumR]
      constructor <;> grind_linarith
  | K + 1, hK => by
    obtain ⟨a1, ⟨a2, a3⟩, ⟨a4, a5⟩⟩ := acc_near hN hf K (by omega)
    obtain ⟨b1, ⟨b2, b3⟩⟩ := hf K (by omega)
    have hk : (K : Rat) ≤ 3 := by have := natCast_le (show K ≤ 3 by omega); simpa using this
    have hk0 : (0 : Rat) ≤ K := Rat.natCast_nonneg
    obtain ⟨s1, s2, s3⟩ := add_near (k := .f32) (M := 1400) a1 b1 ⟨by grind_linarith, by grind_linarith⟩ ⟨by grind_linarith, by grind_linarith⟩
    simp only [epsK] at s2 s3
    have e : ((K + 1 : Nat) : Rat) = (K : Rat) + 1 := by rw [Rat.natCast_add]; rfl
    rw [accF_succ, sumR, e]
    exact ⟨s1, ⟨by grind_linarith, by grind_linarith⟩, ⟨by grind_linarith, by grind_linarith⟩⟩
section
variable {xs : List Nat} {c n : Nat} {M : Rat}
def bandW (q : Bool) (xs : List Nat) (n l : Nat) : List Nat := aloneL (nowS xs (psQ q) n) (detsS xs (psQ q) n) (psQ q) (l : Int)
theorem alone_any (q : Bool) (h0 : 1 / 16 ≤ M) (h8 : M ≤ 8) (hl : xs.length = 8 * c) (hn : 1 ≤ n) (hn3 : n ≤ 3) (hx : ∀ i, i < 8 * c → FinW .f32 (xs.getD i 0) ∧ Bd (vF xs i) M) (l : Nat) :
    ∀ t, t ≤ n → (nowJ (keepL (decide ((l : Int) = n)) (nowS xs (psQ q) n)) (keepS (aloneK n l) (detsS xs (psQ q) n) n) (psQ q) t).length = lnT c (n - t) ∧ ∀ i, i < lnT c (n - t) → FinW .f32 ((nowJ (keepL (decide ((l : Int) = n)) (nowS xs (psQ q) n)) (keepS (aloneK n l) (detsS xs (psQ q) n) n) (psQ q) t).getD i 0) ∧
      Bd (vF (nowJ (keepL (decide ((l : Int) = n)) (nowS xs (psQ q) n)) (keepS (aloneK n l) (detsS xs (psQ q) n) n) (psQ q) t) i) (BtR t) ∧
      Bd (vF (nowJ (keepL (decide ((l : Int) = n)) (nowS xs (psQ q) n)) (keepS (aloneK n l) (detsS xs (psQ q) n) n) (psQ q) t) i - ZR q c n (vF (keepL (decide ((l : Int) = n)) (nowS xs (psQ q) n))) (fun k => vF ((keepS (aloneK n l) (detsS xs (psQ q) n) n).getD k [])) t i) (etR t) := by
  have dl := detsS_length xs (psQ q) n
  refine join_any q hn3 (keepS_length _ _ _) (by rw [keepL_length, nowS_ln hl _ n hn3]) (fun k hk => ?_) (fun i hi => ?_) (fun k hk i hi => ?_)
  · rw [keepS_getD hk, keepL_length, dets_at hk, det_ln hl _ _ (by omega)]
  · have h := level_ok q h0 h8 hl hx n hn3 i hi
    exact keepL_ok ⟨h.1, bd_mono h.2 (bT_le h0 h8 n hn3)⟩ (by grind_linarith)
  · rw [keepS_getD hk, dets_at hk]
    have h := det_ok q h0 h8 hl hx (by omega) hi
    exact keepL_ok ⟨h.1, bd_mono h.2 (bT_le h0 h8 (k + 1) (by omega))⟩ (by grind_linarith)
theorem bandW_eq (q : Bool) (l : Nat) : bandW q xs n l = nowJ (keepL (decide ((l : Int) = n)) (nowS xs (psQ q) n)) (keepS (aloneK n l) (detsS xs (psQ q) n) n) (psQ q) n := by
  unfold bandW aloneL
  rw [detsS_length]
theorem alone_ok (q : Bool) (h0 : 1 / 16 ≤ M) (h8 : M ≤ 8) (hl : xs.length = 8 * c) (hc : 1 ≤ c) (hc4 : c ≤ 4) (hn : 1 ≤ n) (hn3 : n ≤ 3) (hx : ∀ i, i < 8 * c → FinW .f32 (xs.getD i 0) ∧ Bd (vF xs i) M) {l : Nat} (hln : l ≤ n) :
    aloneOk (nowS xs (psQ q) n) (detsS xs (psQ q) n) (psQ q) (l : Int) = true ∧ (bandW q xs n l).length = 8 * c := by
  have h := alone_any q h0 h8 hl hn hn3 hx l
  refine ⟨?_, ?_⟩
  · unfold aloneOk
    rw [bands_valid q h0 h8 hl hc hc4 hn hn3 hx, psQ_valid, detsS_length, within_true.2 (by omega)]
    unfold allJ
    simp only [Bool.true_and, keepS_length]
    rw [List.all_eq_true]
    intro t ht
    have ht' : t < n := by simpa using ht
    obtain ⟨a1, a2⟩ := h (t + 1) (by omega)
    exact all_fin fun i hi => (a2 i (by rw [a1] at hi; exact hi)).1
  · rw [bandW_eq, (h n (Nat.le_refl _)).1, Nat.sub_self]
    rfl
/-- Lists of single bands, together, are the list. -/
theorem all_near (q : Bool) (h0 : 1 / 16 ≤ M) (h8 : M ≤ 8) (hl : xs.length = 8 * c) (hc : 1 ≤ c) (hc4 : c ≤ 4) (hn : 1 ≤ n) (hn3 : n ≤ 3) (hx : ∀ i, i < 8 * c → FinW .f32 (xs.getD i 0) ∧ Bd (vF xs i) M) {i : Nat} (hi : i < 8 * c) :
    FinW .f32 (accF (fun l => (bandW q xs n l).getD i 0) (n + 1)) ∧ Bd (fval .f32 (accF (fun l => (bandW q xs n l).getD i 0) (n + 1)) - vF xs i) (9 / 1000) := by
  have hi' : i < lnT c (n - n) := by rw [Nat.sub_self]; exact hi
  obtain ⟨b1, b2, b3, b4⟩ := BtR_bd n hn3
  have h : ∀ l, FinW .f32 ((bandW q xs n l).getD i 0) ∧ Bd (fval .f32 ((bandW q xs n l).getD i 0)) 343 := fun l => by
    have a := (alone_any q h0 h8 hl hn hn3 hx l n (Nat.le_refl _)).2 i hi'
    rw [bandW_eq]
    exact ⟨a.1, bd_mono a.2.1 b2⟩
  obtain ⟨a1, _, ⟨a2, a3⟩⟩ := acc_near (f := fun l => (bandW q xs n l).getD i 0) (N := n + 1) (by omega) (fun l _ => h l) (n + 1) (Nat.le_refl _)
  -- the sum of the exact ones
  obtain ⟨s1, s2⟩ := sumR_near (n := n + 1) (f := fun l => fval .f32 ((bandW q xs n l).getD i 0)) (g := fun l => ZR q c n (vF (keepL (decide ((l : Int) = n)) (nowS xs (psQ q) n))) (fun k => vF ((keepS (aloneK n l) (detsS xs (psQ q) n) n).getD k [])) n i) (c := 1 / 1000) fun l hln => by
    have a := (alone_any q h0 h8 hl hn hn3 hx l n (Nat.le_refl _)).2 i hi'
    rw [bandW_eq]
    obtain ⟨p1, p2⟩ : Bd (fval .f32 (_ : Nat) - _) _ := a.2.2
    constructor <;> grind_linarith
  rw [ZR_sum] at s1 s2
  have e1 : ZR q c n (fun j => sumR (fun l => vF (keepL (decide ((l : Int) = n)) (nowS xs (psQ q) n)) j) (n + 1)) (fun k j => sumR (fun l => vF ((keepS (aloneK n l) (detsS xs (psQ q) n) n).getD k []) j) (n + 1)) n i
      = ZR q c n (vF (nowS xs (psQ q) n)) (fun k => vF ((detsS xs (psQ q) n).getD k [])) n i := by
    refine ZR_congr hn3 (fun j hj => ?_) (fun k hk j hj => ?_) n (Nat.le_refl _) i hi'
    · rw [← sumR_one (vF (nowS xs (psQ q) n) j) (show n < n + 1 by omega)]
      refine sumR_congr fun l hln => ?_
      rw [keepL_v]
      by_cases c : l = n
      · rw [if_pos c, if_pos (by simp [c])]
      · rw [if_neg c, if_neg (by simp; omega)]
    · rw [← sumR_one (vF ((detsS xs (psQ q) n).getD k []) j) (show k < n + 1 by omega)]
      refine sumR_congr fun l hln => ?_
      rw [keepS_getD hk, keepL_v, aloneK_at hk]
      by_cases c : l = k
      · rw [if_pos c, if_pos (by simp [c])]
      · rw [if_neg c, if_neg (by simp; omega)]
  rw [e1] at s1 s2
  -- all bands together
  have hany := (join_any q hn3 (cs := nowS xs (psQ q) n) (yss := detsS xs (psQ q) n) (detsS_length _ _ _) (nowS_ln hl _ n hn3) (fun k hk => by rw [dets_at hk, det_ln hl _ _ (by omega)]) (fun i hi => by
    have h := level_ok q h0 h8 hl hx n hn3 i hi
    exact ⟨h.1, bd_mono h.2 (bT_le h0 h8 n hn3)⟩) (fun k hk i hi => by
    rw [dets_at hk]
    have h := det_ok q h0 h8 hl hx (by omega) hi
    exact ⟨h.1, bd_mono h.2 (bT_le h0 h8 (k + 1) (by omega))⟩) n (Nat.le_refl _)).2 i hi'
  obtain ⟨_, _, ⟨t1, t2⟩⟩ := hany
  obtain ⟨_, ⟨u1, u2⟩⟩ := (levels_back q h0 h8 hl hc hc4 hn hn3 hx n (Nat.le_refl _)).2 i hi'
  rw [Nat.sub_self] at u1 u2
  have z0 : nowS xs (psQ q) 0 = xs := rfl
  have z1 : bT M 0 = M := rfl
  rw [z0, z1] at u1 u2
  have hb8 := bT_le h0 h8 n hn3
  have hk : ((n + 1 : Nat) : Rat) ≤ 4 := by have := natCast_le (show n + 1 ≤ 4 by omega); simpa using this
  have hk0 : (0 : Rat) ≤ ((n + 1 : Nat) : Rat) := Rat.natCast_nonneg
  exact ⟨a1, by grind_linarith, by grind_linarith⟩

/-! ### energies -/
def sq3 (xs : List Nat) : Nat → Nat := foldI (fun i s => fbin .add .f32 s (fbin .mul .f32 (xs.getD i 0) (xs.getD i 0))) 0
theorem sq3_near {xs : List Nat} {B : Rat} (h1 : 1 / 16 ≤ B) (h2 : B ≤ 1000) (hl : xs.length ≤ 16) (hf : ∀ i, i < xs.length → FinW .f32 (xs.getD i 0) ∧ Bd (vF xs i) B) : ∀ n, n ≤ xs.length →
    FinW .f32 (sq3 xs n) ∧ Bd (fval .f32 (sq3 xs n)) ((n : Rat) * (11 / 10 * (B * B))) ∧ Bd (fval .f32 (sq3 xs n) - sqR xs n) ((n : Rat) * (19 * (B * B) / 8000000))
  | 0, _ => by
    have e : ((0 : Nat) : Rat) = 0 := rfl
    refine ⟨finW_zero.1, ?_, ?_⟩
    · show Bd (fval .f32 0) _
      rw [finW_zero.2, e]
      constructor <;> grind_linarith
    · show Bd (fval .f32 0 - sumR _ 0) _
      rw [finW_zero.2, e, sumR]
      constructor <;> grind_linarith
  | n + 1, hn => by
    obtain ⟨a1, ⟨a2, a3⟩, ⟨a4, a5⟩⟩ := sq3_near h1 h2 hl hf n (by omega)
    obtain ⟨f1, f2⟩ := hf n (by omega)
    have hq : vF xs n * vF xs n ≤ B * B := sq_bd f2
    have hq0 := sq_nonneg (vF xs n)
    have hB0 : 1 / 256 ≤ B * B := by
      have := Rat.mul_le_mul_of_nonneg_left h1 (show 0 ≤ B by grind_linarith)
      grind_linarith
    have hB1 : B * B ≤ 1000 * 1000 := sq_bd ⟨by grind_linarith, h2⟩
    have hk : (n : Rat) ≤ 15 := by have := natCast_le (show n ≤ 15 by omega); simpa using this
    have hk0 : (0 : Rat) ≤ n := Rat.natCast_nonneg
    have hkB : (n : Rat) * (B * B) ≤ 15 * (B * B) := Rat.mul_le_mul_of_nonneg_right hk (by grind_linarith)
    have hkB0 : 0 ≤ (n : Rat) * (B * B) := Rat.mul_nonneg hk0 (by grind_linarith)
    have e2 : fval .f32 (xs.getD n 0) = vF xs n := rfl
    obtain ⟨m1, m2, m3⟩ := mul_near (k := .f32) (M := B * B) f1 f1 ⟨by grind_linarith, by grind_linarith⟩ (by rw [e2]; exact ⟨by grind_linarith, by grind_linarith⟩)
    rw [e2] at m2 m3
    simp only [epsK] at m2 m3
    obtain ⟨s1, s2, s3⟩ := add_near (k := .f32) (M := 18 * (B * B)) a1 m1 ⟨by grind_linarith, by grind_linarith⟩ ⟨by grind_linarith, by grind_linarith⟩
    simp only [epsK] at s2 s3
    have e : ((n + 1 : Nat) : Rat) = (n : Rat) + 1 := by rw [Rat.natCast_add]; rfl
    have es : sqR xs (n + 1) = sqR xs n + vF xs n * vF xs n := rfl
    have eF : sq3 xs (n + 1) = fbin .add .f32 (sq3 xs n) (fbin .mul .f32 (xs.getD n 0) (xs.getD n 0)) := rfl
    rw [eF, es, e]
    exact ⟨s1, ⟨by grind_linarith, by grind_linarith⟩, ⟨by grind_linarith, by grind_linarith⟩⟩
end
end Go.Proofs.Ytddekdgggpifmaa

namespace Go.Proofs.Ytddekdgggpifmaa
open Go.Gx
set_option maxRecDepth 100000
set_option linter.unusedSimpArgs false
set_option linter.unusedVariables false
section
variable {xs : List Nat} {c n : Nat} {M : Rat}
theorem natR {a b : Nat} (h : a ≤ b) : (a : Rat) ≤ (b : Rat) := natCast_le h
theorem lnM (h0 : 0 ≤ M) (hc4 : c ≤ 4) : ∀ t, t < 3 → (lnT c (t + 1) : Rat) * (bT M t * bT M t) ≤ 64 * (M * M) := by
  have hMM := sq_nonneg M
  have hcr : (c : Rat) ≤ 4 := by have := natR hc4; simpa using this
  have hcM := Rat.mul_le_mul_of_nonneg_right hcr hMM
  have e4 : ((4 * c : Nat) : Rat) = 4 * (c : Rat) := by rw [Rat.natCast_mul]; rfl
  have e2 : ((2 * c : Nat) : Rat) = 2 * (c : Rat) := by rw [Rat.natCast_mul]; rfl
  intro t ht
  rcases (by omega : t = 0 ∨ t = 1 ∨ t = 2) with rfl | rfl | rfl
  · simp only [lnT, bT, e4]; grind_linarith
  · simp only [lnT, bT, e2]; grind_linarith
  · simp only [lnT, bT]; grind_linarith
theorem lnM2 (h0 : 0 ≤ M) (hc4 : c ≤ 4) : ∀ t, 1 ≤ t → t ≤ 3 → (lnT c t : Rat) * (bT M t * bT M t) ≤ 256 * (M * M) := by
  have hMM := sq_nonneg M
  have hcr : (c : Rat) ≤ 4 := by have := natR hc4; simpa using this
  have hcM := Rat.mul_le_mul_of_nonneg_right hcr hMM
  have e4 : ((4 * c : Nat) : Rat) = 4 * (c : Rat) := by rw [Rat.natCast_mul]; rfl
  have e2 : ((2 * c : Nat) : Rat) = 2 * (c : Rat) := by rw [Rat.natCast_mul]; rfl
  intro t h1 ht
  rcases (by omega : t = 1 ∨ t = 2 ∨ t = 3) with rfl | rfl | rfl
  · simp only [lnT, bT, e4]; grind_linarith
  · simp only [lnT, bT, e2]; grind_linarith
  · simp only [lnT, bT]; grind_linarith
def detQ (q : Bool) (xs : List Nat) (k : Nat) : List Nat := tapL (nowS xs (psQ q) k) (highL (psQ q))
theorem tot_near (q : Bool) (h0 : 1 / 16 ≤ M) (h8 : M ≤ 8) (hl : xs.length = 8 * c) (hc : 1 ≤ c) (hc4 : c ≤ 4) (hx : ∀ i, i < 8 * c → FinW .f32 (xs.getD i 0) ∧ Bd (vF xs i) M) :
    ∀ t, t ≤ 3 → Bd (sqR (nowS xs (psQ q) t) (lnT c t) + sumR (fun k => sqR (detQ q xs k) (lnT c (k + 1))) t - sqR xs (8 * c)) ((t : Rat) * (64 * (M * M) / 30000))
  | 0, _ => by
    have e : ((0 : Nat) : Rat) = 0 := rfl
    show Bd (sqR xs (8 * c) + 0 - sqR xs (8 * c)) _
    rw [e]
    constructor <;> grind_linarith
  | t + 1, ht => by
    obtain ⟨i1, i2⟩ := tot_near q h0 h8 hl hc hc4 hx t (by omega)
    have h2 := lnT_two c t (by omega)
    obtain ⟨e1, e2⟩ := split_energy q (bT_okR h0 h8 (show t ≤ 3 by omega)) (xs := nowS xs (psQ q) t) (m := lnT c (t + 1)) (by rw [nowS_ln hl _ t (by omega), h2]) fun i hi => level_ok q h0 h8 hl hx t (by omega) i (by omega)
    have e3 := lnM (M := M) (c := c) (by grind_linarith) hc4 t (by omega)
    rw [← h2] at e1 e2
    have e : ((t + 1 : Nat) : Rat) = (t : Rat) + 1 := by rw [Rat.natCast_add]; rfl
    rw [nowS_succ, sumR, e]
    have ed : sqR (detQ q xs t) (lnT c (t + 1)) = sqR (tapL (nowS xs (psQ q) t) (highL (psQ q))) (lnT c (t + 1)) := rfl
    rw [ed]
    have e4 : (lnT c (t + 1) : Rat) * (bT M t * bT M t / 30000) = (lnT c (t + 1) : Rat) * (bT M t * bT M t) / 30000 := by grind_linarith
    rw [e4] at e1 e2
    exact ⟨by grind_linarith, by grind_linarith⟩
def powW (q : Bool) (xs : List Nat) (n k : Nat) : Nat := (powersF (nowS xs (psQ q) n) (detsS xs (psQ q) n)).getD k 0
def powR (q : Bool) (xs : List Nat) (c n k : Nat) : Rat := if k < n then sqR (detQ q xs k) (lnT c (k + 1)) else sqR (nowS xs (psQ q) n) (lnT c n)
theorem powers_len (q : Bool) : (powersF (nowS xs (psQ q) n) (detsS xs (psQ q) n)).length = n + 1 := by
  unfold powersF
  rw [List.length_append, tabL_length, detsS_length]
  rfl
theorem sq3_B {ys : List Nat} {m t : Nat} (h0 : 1 / 16 ≤ M) (h8 : M ≤ 8) (hc4 : c ≤ 4) (hm : ys.length = lnT c t) (h16 : lnT c t ≤ 16) (t1 : 1 ≤ t) (t3 : t ≤ 3) (hf : ∀ i, i < lnT c t → FinW .f32 (ys.getD i 0) ∧ Bd (vF ys i) (bT M t)) :
    FinW .f32 (squaresF ys) ∧ Bd (fval .f32 (squaresF ys) - sqR ys (lnT c t)) (61 / 100000 * (M * M)) ∧ 0 ≤ sqR ys (lnT c t) ∧ sqR ys (lnT c t) ≤ 256 * (M * M) := by
  have hB := bT_okR h0 h8 t3
  have hB2 := bT_le h0 h8 t t3
  obtain ⟨a1, _, ⟨a2, a3⟩⟩ := sq3_near (xs := ys) (B := bT M t) hB.1 (by grind_linarith) (by omega) (fun i hi => hf i (by omega)) (lnT c t) (by omega)
  have e : squaresF ys = sq3 ys (lnT c t) := by rw [← hm]; rfl
  have e3 := lnM2 (M := M) (c := c) (by grind_linarith) hc4 t t1 t3
  have hs0 : 0 ≤ sqR ys (lnT c t) := sumR_nonneg fun j _ => sq_nonneg _
  have hs1 := (sumR_near (f := fun i => vF ys i * vF ys i) (g := fun _ => 0) (c := bT M t * bT M t) (n := lnT c t) fun j hj => by
    have a := sq_bd (hf j hj).2
    have b := sq_nonneg (vF ys j)
    have d := sq_nonneg (bT M t)
    constructor <;> grind_linarith).1
  have z : ∀ n, sumR (fun _ => 0) n = 0 := fun n => by
    induction n with
    | zero => rfl
    | succ n ih => rw [sumR, ih]; grind_linarith
  rw [z] at hs1
  rw [e]
  have es : sqR ys (lnT c t) = sumR (fun i => vF ys i * vF ys i) (lnT c t) := rfl
  have e4 : (lnT c t : Rat) * (19 * (bT M t * bT M t) / 8000000) = 19 * ((lnT c t : Rat) * (bT M t * bT M t)) / 8000000 := by grind_linarith
  rw [e4] at a2 a3
  have hMM := sq_nonneg M
  exact ⟨a1, ⟨by grind_linarith, by grind_linarith⟩, hs0, by rw [es]; grind_linarith⟩
theorem pow_near (q : Bool) (h0 : 1 / 16 ≤ M) (h8 : M ≤ 8) (hl : xs.length = 8 * c) (hc : 1 ≤ c) (hc4 : c ≤ 4) (hn : 1 ≤ n) (hn3 : n ≤ 3) (hx : ∀ i, i < 8 * c → FinW .f32 (xs.getD i 0) ∧ Bd (vF xs i) M) {k : Nat} (hk : k ≤ n) :
    FinW .f32 (powW q xs n k) ∧ Bd (fval .f32 (powW q xs n k) - powR q xs c n k) (61 / 100000 * (M * M)) ∧ 0 ≤ powR q xs c n k ∧ powR q xs c n k ≤ 256 * (M * M) := by
  have hdl := detsS_length xs (psQ q) n
  by_cases h : k < n
  · have e1 : powW q xs n k = squaresF (detQ q xs k) := by
      unfold powW powersF
      rw [getD_app_lt (by rw [tabL_length, hdl]; exact h), tabL_getD (by rw [hdl]; exact h), sqF, dets_at h]
      rfl
    have e2 : powR q xs c n k = sqR (detQ q xs k) (lnT c (k + 1)) := if_pos h
    rw [e1, e2]
    have := lnT_bd1 hc hc4 k
    exact sq3_B (m := 0) h0 h8 hc4 (det_ln hl _ _ (by omega)) this (by omega) (by omega) fun i hi => det_ok q h0 h8 hl hx (by omega) hi
  · have hkn : k = n := by omega
    subst hkn
    have e1 : powW q xs k k = squaresF (nowS xs (psQ q) k) := by
      unfold powW powersF
      have := @getD_app_at _ (tabL (detsS xs (psQ q) k).length (sqF (detsS xs (psQ q) k))) (squaresF (nowS xs (psQ q) k)) 0
      rw [tabL_length, hdl] at this
      rw [hdl]
      exact this
    have e2 : powR q xs c k k = sqR (nowS xs (psQ q) k) (lnT c k) := if_neg h
    rw [e1, e2]
    obtain ⟨k', rfl⟩ : ∃ k', k = k' + 1 := ⟨k - 1, by omega⟩
    have := lnT_bd1 hc hc4 k'
    exact sq3_B (m := 0) h0 h8 hc4 (nowS_ln hl _ _ hn3) this (by omega) hn3 fun i hi => level_ok q h0 h8 hl hx _ hn3 i hi
theorem powers_fin (q : Bool) (h0 : 1 / 16 ≤ M) (h8 : M ≤ 8) (hl : xs.length = 8 * c) (hc : 1 ≤ c) (hc4 : c ≤ 4) (hn : 1 ≤ n) (hn3 : n ≤ 3) (hx : ∀ i, i < 8 * c → FinW .f32 (xs.getD i 0) ∧ Bd (vF xs i) M) :
    (powersF (nowS xs (psQ q) n) (detsS xs (psQ q) n)).all finF = true := all_fin fun i hi => by
  rw [powers_len] at hi
  exact (pow_near q h0 h8 hl hc hc4 hn hn3 hx (show i ≤ n by omega)).1
def enD (q : Bool) (xs : List Nat) (n : Nat) : Nat → Nat := foldI (fun k s => fbin .add .f64 s (f64 (powW q xs n k))) 0
theorem enD_near (q : Bool) (h0 : 1 / 16 ≤ M) (h8 : M ≤ 8) (hl : xs.length = 8 * c) (hc : 1 ≤ c) (hc4 : c ≤ 4) (hn : 1 ≤ n) (hn3 : n ≤ 3) (hx : ∀ i, i < 8 * c → FinW .f32 (xs.getD i 0) ∧ Bd (vF xs i) M) :
    ∀ K, K ≤ n + 1 → FinW .f64 (enD q xs n K) ∧ Bd (fval .f64 (enD q xs n K) - sumR (powR q xs c n) K) ((K : Rat) * (61 / 100000 * (M * M) + 1 / 1000000)) ∧ 0 ≤ sumR (powR q xs c n) K ∧ sumR (powR q xs c n) K ≤ (K : Rat) * 16384
  | 0, _ => by
    have e : ((0 : Nat) : Rat) = 0 := rfl
    refine ⟨zero_f64.1, ?_, ?_, ?_⟩
    · show Bd (fval .f64 0 - sumR _ 0) _
      rw [zero_f64.2, e, sumR]
      constructor <;> grind_linarith
    · rw [sumR]; exact Rat.le_refl
    · rw [sumR, e]; grind_linarith
  | K + 1, hK => by
    obtain ⟨a1, ⟨a2, a3⟩, a4, a5⟩ := enD_near q h0 h8 hl hc hc4 hn hn3 hx K (by omega)
    obtain ⟨b1, ⟨b2, b3⟩, b4, b5⟩ := pow_near q h0 h8 hl hc hc4 hn hn3 hx (show K ≤ n by omega)
    obtain ⟨g1, g2⟩ := f64_fin b1
    have hMM := sq_nonneg M
    have hM64 : M * M ≤ 8 * 8 := sq_bd ⟨by grind_linarith, h8⟩
    have hk : (K : Rat) ≤ 3 := by have := natR (show K ≤ 3 by omega); simpa using this
    have hk0 : (0 : Rat) ≤ K := Rat.natCast_nonneg
    have hkM : (K : Rat) * (61 / 100000 * (M * M) + 1 / 1000000) ≤ 3 * (61 / 100000 * (M * M) + 1 / 1000000) := Rat.mul_le_mul_of_nonneg_right hk (by grind_linarith)
    have hk5 : (K : Rat) * 16384 ≤ 3 * 16384 := by grind_linarith
    obtain ⟨s1, s2, s3⟩ := add_near (k := .f64) (M := 100000) a1 g1 ⟨by grind_linarith, by grind_linarith⟩ (by rw [g2]; exact ⟨by grind_linarith, by grind_linarith⟩)
    rw [g2] at s2 s3
    simp only [epsK] at s2 s3
    have e : ((K + 1 : Nat) : Rat) = (K : Rat) + 1 := by rw [Rat.natCast_add]; rfl
    have eF : enD q xs n (K + 1) = fbin .add .f64 (enD q xs n K) (f64 (powW q xs n K)) := rfl
    rw [eF, sumR, e]
    exact ⟨s1, ⟨by grind_linarith, by grind_linarith⟩, by grind_linarith, by grind_linarith⟩
theorem trees_energy (q : Bool) (h0 : 1 / 16 ≤ M) (h8 : M ≤ 8) (hl : xs.length = 8 * c) (hc : 1 ≤ c) (hc4 : c ≤ 4) (hn : 1 ≤ n) (hn3 : n ≤ 3) (hx : ∀ i, i < 8 * c → FinW .f32 (xs.getD i 0) ∧ Bd (vF xs i) M) (hs : M * M ≤ sqR xs (8 * c) + 1 / 16) :
    fcB .gtr .f64 (gapW (enD q xs n (n + 1)) (sqD xs (8 * c))) (fbin .mul .f64 4576918229304087675 (fbin .add .f64 4607182418800017408 (sqD xs (8 * c)))) = false := by
  obtain ⟨a1, ⟨a2, a3⟩, _, _⟩ := enD_near q h0 h8 hl hc hc4 hn hn3 hx (n + 1) (Nat.le_refl _)
  obtain ⟨t1, t2⟩ := tot_near q h0 h8 hl hc hc4 hx n hn3
  have ht : sumR (powR q xs c n) (n + 1) = sqR (nowS xs (psQ q) n) (lnT c n) + sumR (fun k => sqR (detQ q xs k) (lnT c (k + 1))) n := by
    rw [sumR]
    have e1 : sumR (powR q xs c n) n = sumR (fun k => sqR (detQ q xs k) (lnT c (k + 1))) n := sumR_congr fun k hk => if_pos hk
    have e2 : powR q xs c n n = sqR (nowS xs (psQ q) n) (lnT c n) := if_neg (by omega)
    rw [e1, e2]
    grind_linarith
  rw [ht] at a2 a3
  have hMM := sq_nonneg M
  have hM64 : M * M ≤ 8 * 8 := sq_bd ⟨by grind_linarith, h8⟩
  have h16 : ∀ i, i < xs.length → FinW .f32 (xs.getD i 0) ∧ Bd (vF xs i) 8 := fun i hi => ⟨(hx i (by omega)).1, bd_mono (hx i (by omega)).2 h8⟩
  obtain ⟨u1, u2, u3⟩ := sq_near (xs := xs) (M := 8) (by grind_linarith) (by grind_linarith) h16 (8 * c) (by omega) (by omega)
  have u0 : 0 ≤ fval .f64 (sqD xs (8 * c)) := sqD_nonneg (fun i hi => (h16 i hi).1) (fun i hi => (h16 i hi).2) (Rat.le_refl) _ (by omega) (by omega)
  have hk : ((n + 1 : Nat) : Rat) ≤ 4 := by have := natR (show n + 1 ≤ 4 by omega); simpa using this
  have hk3 : (n : Rat) ≤ 3 := by have := natR hn3; simpa using this
  have hc32 : ((8 * c : Nat) : Rat) ≤ 32 := by have := natR (show 8 * c ≤ 32 by omega); simpa using this
  have hc0 : (0 : Rat) ≤ ((8 * c : Nat) : Rat) := Rat.natCast_nonneg
  have k1 : ((n + 1 : Nat) : Rat) * (61 / 100000 * (M * M) + 1 / 1000000) ≤ 4 * (61 / 100000 * (M * M) + 1 / 1000000) := Rat.mul_le_mul_of_nonneg_right hk (by grind_linarith)
  have k2 : (n : Rat) * (64 * (M * M) / 30000) ≤ 3 * (64 * (M * M) / 30000) := Rat.mul_le_mul_of_nonneg_right hk3 (by grind_linarith)
  have k3 : ((8 * c : Nat) : Rat) * (8 * 8 / 1000000000000) ≤ 32 * (8 * 8 / 1000000000000) := Rat.mul_le_mul_of_nonneg_right hc32 (by grind_linarith)
  have S0 : 0 ≤ sqR xs (8 * c) := sumR_nonneg fun j _ => sq_nonneg _
  have Sb : sqR xs (8 * c) ≤ 32 * 64 := by
    have := (sumR_near (f := fun i => vF xs i * vF xs i) (g := fun _ => 0) (c := 64) (n := 8 * c) fun j hj => by
      have a := sq_bd (h16 j (by omega)).2
      have b := sq_nonneg (vF xs j)
      constructor <;> grind_linarith).1
    have z : ∀ n, sumR (fun _ => 0) n = 0 := fun n => by
      induction n with
      | zero => rfl
      | succ n ih => rw [sumR, ih]; grind_linarith
    rw [z] at this
    unfold sqR
    have := Rat.mul_le_mul_of_nonneg_right hc32 (show (0 : Rat) ≤ 64 by grind_linarith)
    grind_linarith
  exact rel_gtr a1 u1 u0 (by grind_linarith) ⟨by grind_linarith, by grind_linarith⟩
end
end Go.Proofs.Ytddekdgggpifmaa

namespace Go.Proofs.Ytddekdgggpifmaa
open Go.Gx
set_option maxRecDepth 100000
set_option linter.unusedSimpArgs false
set_option linter.unusedVariables false

/-- The rest behind two effects in any order: shown once. -/
theorem bothGen {A T : Nat → Value → Value → Heap → Prop} {X : Prop} (main : (∀ (p : Nat) (y z : Value) (G : Heap), A p y z G → T p y z G) → X) (kk : ∀ (p : Nat) (y z : Value) (G : Heap), A p y z G → T p y z G) : X := main kk
/-- A list of sums, the first 'i' of them one step further. -/
def accM (f : Nat → Nat → Nat) (m k i : Nat) : List Nat := tabL m fun j => if j < i then accF (fun l => f l j) (k + 1) else accF (fun l => f l j) k
theorem accM_len (f : Nat → Nat → Nat) (m k i : Nat) : (accM f m k i).length = m := tabL_length _ _
theorem accM_at {f : Nat → Nat → Nat} {m k i j : Nat} (h : j < m) : (accM f m k i).getD j 0 = if j < i then accF (fun l => f l j) (k + 1) else accF (fun l => f l j) k := tabL_getD h
theorem accM_set {f : Nat → Nat → Nat} {m k i : Nat} (hi : i < m) : (accM f m k i).set i (fbin .add .f32 (accF (fun l => f l i) k) (f k i)) = accM f m k (i + 1) := by
  refine list_ext_getD 0 (by simp [accM_len]) fun j hj => ?_
  have hj' : j < m := by simpa [accM_len] using hj
  rw [accM_at hj']
  by_cases c : j = i
  · subst c
    rw [Go.Gx.getD_set_self (by rw [accM_len]; exact hj'), if_pos (by omega), accF_succ]
  · rw [Go.Gx.getD_set_ne (fun e => c e.symm), accM_at hj']
    by_cases c2 : j < i
    · rw [if_pos c2, if_pos (by omega)]
    · rw [if_neg c2, if_neg (by omega)]
theorem accM_all {f : Nat → Nat → Nat} {m k : Nat} : accM f m k m = accM f m (k + 1) 0 := by
  refine tabL_congr fun j hj => ?_
  rw [if_pos hj, if_neg (by omega)]
theorem accM_zero {f : Nat → Nat → Nat} {m : Nat} : accM f m 0 0 = List.replicate m 0 := by
  refine list_ext_getD 0 (by simp [accM_len]) fun j hj => ?_
  have hj' : j < m := by simpa [accM_len] using hj
  rw [accM_at hj', rep_at hj', if_neg (by omega)]
  rfl
theorem sameL_self {xs : List Nat} : sameL xs xs = true := by
  unfold sameL
  rw [decide_eq_true rfl, Bool.true_and, List.all_eq_true]
  exact fun i _ => decide_eq_true rfl
theorem sameRows_self {yss : List (List Nat)} : sameRowsF yss yss = true := by
  unfold sameRowsF
  rw [decide_eq_true rfl, Bool.true_and, List.all_eq_true]
  exact fun i _ => sameL_self
theorem keepS_all {yss : List (List Nat)} : keepS (List.replicate yss.length true) yss yss.length = yss := by
  refine list_ext_getD [] (keepS_length _ _ _) fun j hj => ?_
  rw [keepS_length] at hj
  rw [keepS_getD hj]
  have : (List.replicate yss.length true).getD j false = true := by simp [List.getD_eq_getElem?_getD, hj]
  rw [this]
  rfl
end Go.Proofs.Ytddekdgggpifmaa

namespace Go.Proofs.Ytddekdgggpifmaa
open Go.Gx
set_option maxRecDepth 100000
set_option linter.unusedSimpArgs false
set_option linter.unusedVariables false

theorem aMnx_f {k : FloatKind} {a b r : Nat} (h : maxW k a b = some r) : aMnx true (.float k a) (.float k b) = some (.float k r) := by
  simp [aMnx, h]
theorem maxW_val {k : FloatKind} {x y : Nat} (hx : FinW k x) (hy : FinW k y) : ∃ r, maxW k x y = some r ∧ (r = x ∨ r = y) ∧ FinW k r ∧ fval k x ≤ fval k r ∧ fval k y ≤ fval k r := by
  obtain ⟨A, B, P, hP, h1, h2, h3⟩ := order_val hx hy
  unfold maxW
  rw [h3]
  rcases Int.lt_trichotomy A B with c | c | c
  · have e : compare A B = .lt := Int.compare_eq_lt.2 c
    rw [e]
    have := (mul_lt_iff hP).2 c
    exact ⟨y, rfl, .inr rfl, hy, by rw [h1, h2]; exact Rat.le_of_lt this, Rat.le_refl⟩
  · subst c
    have e : compare A A = .eq := Int.compare_eq_eq.2 rfl
    rw [e]
    simp only
    have hv : fval k x = fval k y := by rw [h1, h2]
    by_cases cn : (k.decode x).neg = true
    · rw [if_pos cn]
      exact ⟨y, rfl, .inr rfl, hy, by rw [hv]; exact Rat.le_refl, Rat.le_refl⟩
    · rw [if_neg cn]
      exact ⟨x, rfl, .inl rfl, hx, Rat.le_refl, by rw [hv]; exact Rat.le_refl⟩
  · have e : compare A B = .gt := Int.compare_eq_gt.2 c
    rw [e]
    have := (mul_lt_iff hP).2 c
    exact ⟨x, rfl, .inl rfl, hx, Rat.le_refl, by rw [h1, h2]; exact Rat.le_of_lt this⟩
theorem gap8_le {a b t : Nat} (ha : FinW .f64 a) (hb : FinW .f64 b) (ht : FinW .f64 t) (h1 : fval .f64 a - fval .f64 b ≤ fval .f64 t) (h2 : fval .f64 b - fval .f64 a ≤ fval .f64 t) :
    ∃ r, maxW .f64 (fbin .sub .f64 a b) (fbin .sub .f64 b a) = some r ∧ fcB .gtr .f64 r t = false := by
  have hT := ht.bd.2
  have g1 := fsub_val ha hb (show Bd (fval .f64 a - fval .f64 b) (topK .f64) from ⟨by grind_linarith, by grind_linarith⟩)
  have g2 := fsub_val hb ha (show Bd (fval .f64 b - fval .f64 a) (topK .f64) from ⟨by grind_linarith, by grind_linarith⟩)
  obtain ⟨r, hr, hc, hf, _, _⟩ := maxW_val g1.1 g2.1
  refine ⟨r, hr, ?_⟩
  have hle : fval .f64 r ≤ fval .f64 t := by
    rcases hc with rfl | rfl
    · exact g1.le ht.rep h1
    · exact g2.le ht.rep h2
  rw [fcB_gtr hf ht, decide_eq_false (Rat.not_lt.2 hle)]
def absR (x : Rat) : Rat := if 0 ≤ x then x else -x
theorem absR_bd {x M : Rat} (h : Bd x M) : absR x ≤ M := by
  unfold absR
  have h1 := h.1
  have h2 := h.2
  split <;> grind_linarith
/-- A difference from nothing is the number's size. -/
theorem gap8_zero {x : Nat} (hx : FinW .f32 x) : ∃ r, maxW .f64 (fbin .sub .f64 (f64 x) 0) (fbin .sub .f64 0 (f64 x)) = some r ∧ FinW .f64 r ∧ fval .f64 r = absR (fval .f32 x) := by
  obtain ⟨a1, a2⟩ := f64_fin hx
  obtain ⟨z1, z2⟩ := zero_f64
  have hb := a1.bd
  have hrep := a1.rep
  have g1 := fsub_val a1 z1 (by rw [z2]; exact ⟨by have := hb.1; grind_linarith, by have := hb.2; grind_linarith⟩)
  have g2 := fsub_val z1 a1 (by rw [z2]; exact ⟨by have := hb.2; grind_linarith, by have := hb.1; grind_linarith⟩)
  have e1 : fval .f64 (f64 x) - fval .f64 0 = fval .f64 (f64 x) := by rw [z2]; grind_linarith
  have e2 : fval .f64 0 - fval .f64 (f64 x) = -fval .f64 (f64 x) := by rw [z2]; grind_linarith
  rw [e1] at g1
  rw [e2] at g2
  have v1 := g1.exact hrep
  have v2 := g2.exact hrep.neg
  obtain ⟨r, hr, hc, hf, h1, h2⟩ := maxW_val g1.1 g2.1
  refine ⟨r, hr, hf, ?_⟩
  rw [v1] at h1
  rw [v2] at h2
  unfold absR
  rw [← a2]
  rcases hc with e | e
  · rw [e, v1] at h2 ⊢
    rw [if_pos (by grind_linarith)]
  · rw [e, v2] at h1 ⊢
    by_cases c : 0 ≤ fval .f64 (f64 x)
    · rw [if_pos c]; grind_linarith
    · rw [if_neg c]
def wsQ : Bool → List Nat
  | true => nineW
  | false => linesW
def scQ : Bool → Nat
  | true => 1066608189
  | false => 1065353216
/-- Where a band's number lies. -/
def covA (n L k i : Nat) : Nat := if k = bzS n L then i * 2 ^ k else 2 ^ (k + 1) * i + 2 ^ (k + 1) / 2
def covB (n L k : Nat) : Nat := if k = bzS n L then 2 ^ k else 2 ^ (k + 1)
theorem w_r8Gap_ok {H : Heap} {a b r : Nat} (h : maxW .f64 (fbin .sub .f64 a b) (fbin .sub .f64 b a) = some r) : ACalls Try.prog n_w_r8Gap [.float .f64 a, .float .f64 b] H fun r' H' => r' = .float .f64 r ∧ H' = H := by
  refine k_w_r8Gap.run rfl ?_
  unfold c_w_r8Gap
  have h' := aMnx_f h
  simp (disch := first | assumption | omega | rfl | (refine id ?_; simp only [gxD, ne_eq, reduceCtorEq, not_false_eq_true, Nat.reduceAdd, *]; done) | (refine id ?_; simp only [gxD]; omega)) only [↓gxPre, gxPost, ↓reduceIte, Nat.reduceEqDiff, reduceCtorEq, Nat.reduceAdd, h']
theorem s_l02DrawOk_ok {H : Heap} {p : Nat} {ty : TypeId} {v : Value} {bs : List Nat} (hb : H.blk p = some ⟨true, ty, [v, .int .i64 0, .int .u64 0]⟩) (hp : p < H.n) {H0 : Heap} (e0 : Ext H0 H) (hp0 : H0.n ≤ p) (hv : YB H0 v bs) :
    ACalls Try.prog n_s_l02DrawOk [.pointer (some ⟨p, 0, some 3⟩)] H fun r H' => Ext H0 H' ∧ ∃ (L : List Nat) (o : Nat), H0.n ≤ o ∧ o < H'.n ∧ 1 ≤ L.length ∧ L.length ≤ 12 ∧ QdL L ∧ r = .slice (some ⟨o, 0, none⟩) L.length L.length ∧ H'.blk o = some ⟨true, t_float32, L.map fv⟩ := by
  refine k_s_l02DrawOk.run rfl ?_
  unfold c_s_l02DrawOk
  have hvx : ∀ K, Ext H0 K → YB K v bs := fun K e => hv.ext e
  have hn0 := e0.n
  simp (disch := first | assumption | omega | rfl | (refine id ?_; simp only [gxD, ne_eq, reduceCtorEq, not_false_eq_true, Nat.reduceAdd, *]; done) | (refine id ?_; simp only [gxD]; omega)) only [↓gxPre, gxPost, ↓reduceIte, Nat.reduceEqDiff, reduceCtorEq, Nat.reduceAdd]
  have e1 : Ext H0 (H.new ⟨true, t_float32, []⟩) := e0.trans (.new _ _)
  refine callR_of (s_l00Src_pick_ok (H := H.new ⟨true, t_float32, []⟩) (p := p) (ty := ty) (v := v) (bs := bs) (at0 := 0) (seed := 0) (n := 12) (by rw [new_old _ _ _ hp, hb]) (by simp only [new_n]; omega) (hvx _ e1) (by omega) (by omega) (by omega) (by omega) (by omega) (by omega) (fun b => hvx _ (e1.put hp0 _))) ?_
  rintro _ _ ⟨x, at1, sd, rfl, x0, x1, a0, a1, sd0, sd1, rfl⟩
  simp (disch := first | assumption | omega | rfl | (refine id ?_; simp only [gxD, ne_eq, reduceCtorEq, not_false_eq_true, Nat.reduceAdd, *]; done) | (refine id ?_; simp only [gxD]; omega)) only [↓gxPre, gxPost, ↓reduceIte, Nat.reduceEqDiff, reduceCtorEq, Nat.reduceAdd]
  refine loop_st (σ := List Nat) (fun L => [.pointer (some ⟨p, 0, some 3⟩), .slice (some ⟨H.n, 0, none⟩) L.length L.length, .int .i64 (1 + x - L.length)])
    (fun L G => (L.length : Int) ≤ 1 + x ∧ QdL L ∧ H.n + 1 ≤ G.n ∧ Ext H0 G ∧ (∃ at' sd' : Int, 0 ≤ at' ∧ at' ≤ 2 + 2 * L.length ∧ 0 ≤ sd' ∧ sd' < 2 ^ 64 ∧ G.blk p = some ⟨true, ty, [v, .int .i64 at', .int .u64 sd']⟩) ∧ G.blk H.n = some ⟨true, t_float32, L.map fv⟩)
    (fun L => (1 + x - L.length).toNat) [] (by simp) ⟨by simp; omega, by intro j hj; simp at hj, by simp only [new_n, put_n]; omega, e1.put hp0 _, ⟨at1, sd, by omega, by simp; omega, sd0, sd1, hput_self _ _ _⟩, (hput_other _ _ _ _ (by omega)).trans (new_self _ _)⟩ ?_
  rintro L G ⟨g1, g2, g3, g4, ⟨at', sd', b0, b1, b2, b3, b4⟩, g5⟩
  by_cases c : 0 < 1 + x - (L.length : Int)
  · simp (disch := first | assumption | omega | rfl | (refine id ?_; simp only [gxD, ne_eq, reduceCtorEq, not_false_eq_true, Nat.reduceAdd, *]; done) | (refine id ?_; simp only [gxD]; omega)) only [↓gxPre, gxPost, ↓reduceIte, Nat.reduceEqDiff, reduceCtorEq, Nat.reduceAdd, c]
    refine callR_of (s_l00Src_pick_ok (n := 65) b4 (by omega) (hvx _ g4) b0 (by omega) b2 b3 (by omega) (by omega) (fun b => hvx _ (g4.put hp0 _))) ?_
    rintro _ _ ⟨y, at2, sd2, rfl, y0, y1, u0, u1, v0', v1', rfl⟩
    have hml : (L.map fv).length = L.length := by simp
    have h5 : (G.put p ⟨true, ty, [v, .int .i64 at2, .int .u64 sd2]⟩).blk H.n = some ⟨true, t_float32, L.map fv⟩ := (hput_other _ _ _ _ (by omega)).trans g5
    have hsn : L.map fv ++ [.float .f32 (quartW (y - 32))] = (L ++ [quartW (y - 32)]).map fv := fv_snoc' L _
    obtain ⟨p1, p2', p3, p4⟩ := push_at (g4.put hp0 ⟨true, ty, [v, .int .i64 at2, .int .u64 sd2]⟩) h5 (by omega) (by rw [put_n]; omega) hsn
    simp (disch := first | assumption | omega | rfl | (refine id ?_; simp only [gxD, ne_eq, reduceCtorEq, not_false_eq_true, Nat.reduceAdd, *]; done) | (refine id ?_; simp only [gxD]; omega)) only [↓gxPre, gxPost, ↓reduceIte, Nat.reduceEqDiff, reduceCtorEq, Nat.reduceAdd, h5, g5, rd1_at]
    refine ⟨L ++ [quartW (y - 32)], by simp; omega, ?_, by simp; omega, g2.snoc ⟨y - 32, by omega, by omega, rfl⟩, by omega, p1, ⟨at2, sd2, by omega, by simp; omega, v0', v1', ?_⟩, by rw [← hsn]; rfl⟩
    · simp; omega
    · first | rfl | exact (p4 p (by rw [put_n]; omega) (by omega)).trans (hput_self _ _ _)
  · simp (disch := first | assumption | omega | rfl | (refine id ?_; simp only [gxD, ne_eq, reduceCtorEq, not_false_eq_true, Nat.reduceAdd, *]; done) | (refine id ?_; simp only [gxD]; omega)) only [↓gxPre, gxPost, ↓reduceIte, Nat.reduceEqDiff, reduceCtorEq, Nat.reduceAdd, c]
    exact ⟨g4, L, H.n, by omega, by omega, by omega, by omega, g2, rfl, g5⟩
theorem s_R8List_ok {H : Heap} {v : Value} {bs : List Nat} (hv : YB H v bs) : ACalls Try.prog n_s_R8List [v] H fun r H' => Ext H H' ∧ ∃ (L : List Nat) (o : Nat), H.n ≤ o ∧ o < H'.n ∧ 1 ≤ L.length ∧ L.length ≤ 12 ∧ QdL L ∧ r = .slice (some ⟨o, 0, none⟩) L.length L.length ∧ H'.blk o = some ⟨true, t_float32, L.map fv⟩ := by
  have o := Sl.one hv.rd
  refine k_s_R8List.run rfl ?_
  unfold c_s_R8List
  simp (disch := first | assumption | omega | rfl | (refine id ?_; simp only [gxD, ne_eq, reduceCtorEq, not_false_eq_true, Nat.reduceAdd, *]; done) | (refine id ?_; simp only [gxD]; omega)) only [↓gxPre, gxPost, ↓reduceIte, Nat.reduceEqDiff, reduceCtorEq, Nat.reduceAdd]
  refine callR_of (s_l00From_ok hv) ?_
  rintro _ _ ⟨ty, rfl, rfl⟩
  simp (disch := first | assumption | omega | rfl | (refine id ?_; simp only [gxD, ne_eq, reduceCtorEq, not_false_eq_true, Nat.reduceAdd, *]; done) | (refine id ?_; simp only [gxD]; omega)) only [↓gxPre, gxPost, ↓reduceIte, Nat.reduceEqDiff, reduceCtorEq, Nat.reduceAdd]
  refine callR_of (s_l02DrawOk_ok (H := H.new ⟨true, ty, [v, .int .i64 0, .int .u64 0]⟩) (p := H.n) (new_self _ _) (by simp only [new_n]; omega) (.new _ _) (Nat.le_refl _) hv) ?_
  rintro _ G ⟨eG, L, o', g1, g2, g3, g4, g5, rfl, g6⟩
  simp (disch := first | assumption | omega | rfl | (refine id ?_; simp only [gxD, ne_eq, reduceCtorEq, not_false_eq_true, Nat.reduceAdd, *]; done) | (refine id ?_; simp only [gxD]; omega)) only [↓gxPre, gxPost, ↓reduceIte, Nat.reduceEqDiff, reduceCtorEq, Nat.reduceAdd]
  exact ⟨eG, L, o', g1, g2, g3, g4, g5, rfl, g6⟩
theorem i_LinesScheme_ok {H : Heap} : ACalls Try.prog n_i_LinesScheme [] H fun r H' => Ext H H' ∧ ∃ h, H.n ≤ h ∧ h < H'.n ∧ r = .agg #[.slice (some ⟨h, 0, none⟩) 2 2, .float .f32 1065353216] ∧ H'.blk h = some ⟨true, t_float32, linesW.map fv⟩ := by
  refine k_i_LinesScheme.run rfl ?_
  unfold c_i_LinesScheme
  ((try simp (disch := first | assumption | omega | rfl | (refine id ?_; simp only [gxD, ne_eq, reduceCtorEq, not_false_eq_true, Nat.reduceAdd, *]; done) | (refine id ?_; simp only [gxD]; omega)) only [↓gxPre, gxPost, ↓reduceIte, Nat.reduceEqDiff, reduceCtorEq, Nat.reduceAdd, eBsl_4, *]); repeat' (first | (refine grdR_split (fun _ => ?_) (fun _ => ?_) <;> simp (disch := first | assumption | omega | rfl | (refine id ?_; simp only [gxD, ne_eq, reduceCtorEq, not_false_eq_true, Nat.reduceAdd, *]; done) | (refine id ?_; simp only [gxD]; omega)) only [↓gxPre, gxPost, ↓reduceIte, Nat.reduceEqDiff, reduceCtorEq, Nat.reduceAdd, eBsl_4, *]) | (refine condR_split (fun _ => ?_) (fun _ => ?_) <;> simp (disch := first | assumption | omega | rfl | (refine id ?_; simp only [gxD, ne_eq, reduceCtorEq, not_false_eq_true, Nat.reduceAdd, *]; done) | (refine id ?_; simp only [gxD]; omega)) only [↓gxPre, gxPost, ↓reduceIte, Nat.reduceEqDiff, reduceCtorEq, Nat.reduceAdd, eBsl_4, *])))
  exact ⟨⟨by first | omega | (simp only [new_n, put_n]; omega) | (simp only [new_n, put_n] at *; omega), fun i hi => by simp (disch := first | assumption | omega | rfl | (refine id ?_; simp only [gxD, ne_eq, reduceCtorEq, not_false_eq_true, Nat.reduceAdd, *]; done) | (refine id ?_; simp only [gxD]; omega)) only [↓gxPre, gxPost, ↓reduceIte, Nat.reduceEqDiff, reduceCtorEq, Nat.reduceAdd, *]⟩, H.n + 1, by omega, by omega, rfl, by simp (disch := first | assumption | omega | rfl | (refine id ?_; simp only [gxD, ne_eq, reduceCtorEq, not_false_eq_true, Nat.reduceAdd, *]; done) | (refine id ?_; simp only [gxD]; omega)) only [↓gxPre, gxPost, ↓reduceIte, Nat.reduceEqDiff, reduceCtorEq, Nat.reduceAdd, fv]; rfl⟩
theorem s_LinesScheme_ok {H : Heap} : ACalls Try.prog n_s_LinesScheme [] H fun r H' => Ext H H' ∧ ∃ h, H.n ≤ h ∧ h < H'.n ∧ r = .agg #[.slice (some ⟨h, 0, none⟩) 2 2, .float .f32 1065353216] ∧ H'.blk h = some ⟨true, t_float32, linesW.map fv⟩ := by
  refine k_s_LinesScheme.run rfl ?_
  unfold c_s_LinesScheme
  ((try simp (disch := first | assumption | omega | rfl | (refine id ?_; simp only [gxD, ne_eq, reduceCtorEq, not_false_eq_true, Nat.reduceAdd, *]; done) | (refine id ?_; simp only [gxD]; omega)) only [↓gxPre, gxPost, ↓reduceIte, Nat.reduceEqDiff, reduceCtorEq, Nat.reduceAdd, eBsl_4, *]); repeat' (first | (refine grdR_split (fun _ => ?_) (fun _ => ?_) <;> simp (disch := first | assumption | omega | rfl | (refine id ?_; simp only [gxD, ne_eq, reduceCtorEq, not_false_eq_true, Nat.reduceAdd, *]; done) | (refine id ?_; simp only [gxD]; omega)) only [↓gxPre, gxPost, ↓reduceIte, Nat.reduceEqDiff, reduceCtorEq, Nat.reduceAdd, eBsl_4, *]) | (refine condR_split (fun _ => ?_) (fun _ => ?_) <;> simp (disch := first | assumption | omega | rfl | (refine id ?_; simp only [gxD, ne_eq, reduceCtorEq, not_false_eq_true, Nat.reduceAdd, *]; done) | (refine id ?_; simp only [gxD]; omega)) only [↓gxPre, gxPost, ↓reduceIte, Nat.reduceEqDiff, reduceCtorEq, Nat.reduceAdd, eBsl_4, *])))
  exact ⟨⟨by first | omega | (simp only [new_n, put_n]; omega) | (simp only [new_n, put_n] at *; omega), fun i hi => by simp (disch := first | assumption | omega | rfl | (refine id ?_; simp only [gxD, ne_eq, reduceCtorEq, not_false_eq_true, Nat.reduceAdd, *]; done) | (refine id ?_; simp only [gxD]; omega)) only [↓gxPre, gxPost, ↓reduceIte, Nat.reduceEqDiff, reduceCtorEq, Nat.reduceAdd, *]⟩, H.n + 1, by omega, by omega, rfl, by simp (disch := first | assumption | omega | rfl | (refine id ?_; simp only [gxD, ne_eq, reduceCtorEq, not_false_eq_true, Nat.reduceAdd, *]; done) | (refine id ?_; simp only [gxD]; omega)) only [↓gxPre, gxPost, ↓reduceIte, Nat.reduceEqDiff, reduceCtorEq, Nat.reduceAdd, fv]; rfl⟩
theorem s_NineScheme_ok {H : Heap} : ACalls Try.prog n_s_NineScheme [] H fun r H' => Ext H H' ∧ ∃ h, H.n ≤ h ∧ h < H'.n ∧ r = .agg #[.slice (some ⟨h, 0, none⟩) 4 4, .float .f32 1066608189] ∧ H'.blk h = some ⟨true, t_float32, nineW.map fv⟩ := by
  refine k_s_NineScheme.run rfl ?_
  unfold c_s_NineScheme
  ((try simp (disch := first | assumption | omega | rfl | (refine id ?_; simp only [gxD, ne_eq, reduceCtorEq, not_false_eq_true, Nat.reduceAdd, *]; done) | (refine id ?_; simp only [gxD]; omega)) only [↓gxPre, gxPost, ↓reduceIte, Nat.reduceEqDiff, reduceCtorEq, Nat.reduceAdd, eBsl_4, *]); repeat' (first | (refine grdR_split (fun _ => ?_) (fun _ => ?_) <;> simp (disch := first | assumption | omega | rfl | (refine id ?_; simp only [gxD, ne_eq, reduceCtorEq, not_false_eq_true, Nat.reduceAdd, *]; done) | (refine id ?_; simp only [gxD]; omega)) only [↓gxPre, gxPost, ↓reduceIte, Nat.reduceEqDiff, reduceCtorEq, Nat.reduceAdd, eBsl_4, *]) | (refine condR_split (fun _ => ?_) (fun _ => ?_) <;> simp (disch := first | assumption | omega | rfl | (refine id ?_; simp only [gxD, ne_eq, reduceCtorEq, not_false_eq_true, Nat.reduceAdd, *]; done) | (refine id ?_; simp only [gxD]; omega)) only [↓gxPre, gxPost, ↓reduceIte, Nat.reduceEqDiff, reduceCtorEq, Nat.reduceAdd, eBsl_4, *])))
  exact ⟨⟨by first | omega | (simp only [new_n, put_n]; omega) | (simp only [new_n, put_n] at *; omega), fun i hi => by simp (disch := first | assumption | omega | rfl | (refine id ?_; simp only [gxD, ne_eq, reduceCtorEq, not_false_eq_true, Nat.reduceAdd, *]; done) | (refine id ?_; simp only [gxD]; omega)) only [↓gxPre, gxPost, ↓reduceIte, Nat.reduceEqDiff, reduceCtorEq, Nat.reduceAdd, *]⟩, H.n + 1, by omega, by omega, rfl, by simp (disch := first | assumption | omega | rfl | (refine id ?_; simp only [gxD, ne_eq, reduceCtorEq, not_false_eq_true, Nat.reduceAdd, *]; done) | (refine id ?_; simp only [gxD]; omega)) only [↓gxPre, gxPost, ↓reduceIte, Nat.reduceEqDiff, reduceCtorEq, Nat.reduceAdd, fv]; rfl⟩
end Go.Proofs.Ytddekdgggpifmaa

namespace Go.Proofs.Ytddekdgggpifmaa
open Go.Gx
set_option maxRecDepth 100000
set_option linter.unusedSimpArgs false
set_option linter.unusedVariables false

def oneW : Nat := 1065353216
theorem lines_scheme : schemeF linesW oneW = true := by decide +kernel
theorem nowD_bz (ws : List Nat) (sc : Nat) (xs : List Nat) : ∀ t, (nowD ws sc xs t).length = bzN xs.length t
  | 0 => rfl
  | t + 1 => by rw [nowD_succ, liftF_len1, nowD_bz ws sc xs t, bzN_succ]; omega
theorem moreD_bz (ws : List Nat) (sc : Nat) (xs : List Nat) : moreD ws sc xs = bzM xs.length := by
  funext t
  unfold moreD bzM
  rw [nowD_bz]
theorem stopD_bz (ws : List Nat) (sc : Nat) (xs : List Nat) (L : Nat) : stopN (moreD ws sc xs) L = bzS xs.length L := by
  unfold bzS
  rw [moreD_bz]
theorem levelsD_bz (ws : List Nat) (sc : Nat) (xs : List Nat) (L : Nat) : (levelsD ws sc xs L).length = bzS xs.length L + 1 := by rw [levelsD_len, stopD_bz]
theorem levelsD_sizes (ws : List Nat) (sc : Nat) (xs : List Nat) (L : Nat) : (levelsD ws sc xs L).map List.length = bzL xs.length L := by
  unfold levelsD
  rw [List.map_append, List.map_cons, List.map_nil, nowD_bz, stopD_bz, bzL]
  congr 1
  unfold outD bzO
  rw [List.map_map]
  refine List.map_congr_left fun k _ => ?_
  show ((liftF ws sc (nowD ws sc xs k)).2).length = _
  rw [liftF_len2, nowD_bz]
theorem levelsD_lo {ws : List Nat} {sc : Nat} {xs : List Nat} {L k : Nat} (hk : k < bzS xs.length L) : (levelsD ws sc xs L).getD k [] = (liftF ws sc (nowD ws sc xs k)).2 := levelsD_at (by rw [stopD_bz]; exact hk)
theorem levelsD_top {ws : List Nat} {sc : Nat} {xs : List Nat} {L : Nat} : (levelsD ws sc xs L).getD (bzS xs.length L) [] = nowD ws sc xs (bzS xs.length L) := by
  have := levelsD_last ws sc xs L
  rwa [stopD_bz] at this
theorem bz_four : ∀ n : Fin 13, ∀ L : Fin 7, bzS n.val L.val ≤ 4 := by decide +kernel
theorem bz_more {n L k : Nat} (hk : k < bzS n L) : 2 ≤ bzN n k := by
  have := stopN_all (p := bzM n) L k hk
  unfold bzM at this
  have := of_decide_eq_true this
  omega
theorem fin_small {xs : List Nat} (h : xs.length / 2 = 0) (ws : List Nat) (sc : Nat) : liftF ws sc xs = (evL 0 xs xs.length, odL 0 xs xs.length) := by
  unfold liftF
  rw [if_pos h]
theorem gl_all {s N : Nat} {xs : List Nat} (h : GL s N xs) : xs.all finF = true := all_fin fun i hi => (h i hi).1
theorem QdL.gl {xs : List Nat} (h : QdL xs) : GL 2 32 xs := fun j hj => by
  obtain ⟨a1, a2, q, b1, b2, b3⟩ := (h j hj).ok
  refine ⟨a1, q, ?_, by omega⟩
  have e : p2 (-((2 : Nat) : Int)) = 1 / 4 := p2_q
  unfold vF
  rw [b3, e]
  grind_linarith
/-- All levels lie on grids. -/
theorem lines_now {xs : List Nat} {L : Nat} (h : QdL xs) (hn : xs.length ≤ 12) (hL : L ≤ 6) : ∀ t, t ≤ bzS xs.length L → GL (2 + 3 * t) (32 * 16 ^ t) (nowD linesW oneW xs t)
  | 0, _ => h.gl
  | t + 1, ht => by
    have ih := lines_now h hn hL t (by omega)
    have h4 := bz_four ⟨xs.length, by omega⟩ ⟨L, by omega⟩
    simp only at h4
    have hp : 16 ^ t ≤ 16 ^ 3 := Nat.pow_le_pow_right (by omega) (by omega)
    have h2 := bz_more (show t < bzS xs.length L by omega)
    have g := (lines_lift (by omega) (by omega) ih (by rw [nowD_bz]; exact h2)).1
    rw [nowD_succ]
    have e : 16 * (32 * 16 ^ t) = 32 * 16 ^ (t + 1) := by rw [Nat.pow_succ]; omega
    rw [← e]
    exact g
theorem lines_hi {xs : List Nat} {L t : Nat} (h : QdL xs) (hn : xs.length ≤ 12) (hL : L ≤ 6) (ht : t < bzS xs.length L) : GL (2 + 3 * t + 1) (4 * (32 * 16 ^ t)) (liftF linesW oneW (nowD linesW oneW xs t)).2 := by
  have ih := lines_now h hn hL t (by omega)
  have h4 := bz_four ⟨xs.length, by omega⟩ ⟨L, by omega⟩
  simp only at h4
  have hp : 16 ^ t ≤ 16 ^ 3 := Nat.pow_le_pow_right (by omega) (by omega)
  have h2 := bz_more (show t < bzS xs.length L by omega)
  exact (lines_lift (by omega) (by omega) ih (by rw [nowD_bz]; exact h2)).2.1
theorem QdL.long {xs : List Nat} (h : QdL xs) (h1 : 1 ≤ xs.length) (hn : xs.length ≤ 12) : isLongF xs = true := by
  unfold isLongF
  rw [gl_all h.gl, within_true.2 (by omega)]
  rfl
theorem lines_deep {xs : List Nat} {L : Nat} (h : QdL xs) (h1 : 1 ≤ xs.length) (hn : xs.length ≤ 12) (l1 : 1 ≤ L) (hL : L ≤ 6) : deepOk linesW oneW xs (L : Int) = true :=
  deepOk_yes lines_scheme (h.long h1 hn) (within_true.2 (by omega)) fun k hk => by
    rw [Int.toNat_natCast, stopD_bz] at hk
    have a := lines_now h hn hL (k + 1) (by omega)
    rw [nowD_succ] at a
    have b := lines_hi h hn hL hk
    unfold liftOkF
    rw [gl_all a, gl_all b]
    simp
/-- Levels of lines are undone. -/
theorem lines_back {xs : List Nat} {L : Nat} (h : QdL xs) (h1 : 1 ≤ xs.length) (hn : xs.length ≤ 12) (hL : L ≤ 6) : ∀ t, t ≤ bzS xs.length L →
    (dropD linesW oneW (levelsD linesW oneW xs L) t).length = bzN xs.length (bzS xs.length L - t) ∧ ∀ j, j < bzN xs.length (bzS xs.length L - t) → FinW .f32 ((dropD linesW oneW (levelsD linesW oneW xs L) t).getD j 0) ∧ vF (dropD linesW oneW (levelsD linesW oneW xs L) t) j = vF (nowD linesW oneW xs (bzS xs.length L - t)) j
  | 0, _ => by
    rw [dropD_zero, levelsD_bz, Nat.add_sub_cancel, levelsD_top, Nat.sub_zero, nowD_bz]
    have a := lines_now h hn hL (bzS xs.length L) (Nat.le_refl _)
    exact ⟨rfl, fun j hj => ⟨(a j (by rw [nowD_bz]; exact hj)).1, rfl⟩⟩
  | t + 1, ht => by
    obtain ⟨ih1, ih2⟩ := lines_back h h1 hn hL t (by omega)
    obtain ⟨k, hk⟩ : ∃ k, k = bzS xs.length L - (t + 1) := ⟨_, rfl⟩
    have e1 : bzS xs.length L - t = k + 1 := by omega
    have e2 : (levelsD linesW oneW xs L).length - 2 - t = k := by rw [levelsD_bz]; omega
    have h4 := bz_four ⟨xs.length, by omega⟩ ⟨L, by omega⟩
    simp only at h4
    have hp : 16 ^ k ≤ 16 ^ 3 := Nat.pow_le_pow_right (by omega) (by omega)
    have h2 := bz_more (show k < bzS xs.length L by omega)
    have a := lines_now h hn hL k (by omega)
    have hb := nowD_bz linesW oneW xs k
    rw [e1] at ih1 ih2
    rw [dropD_succ, e2, levelsD_lo (by omega), ← hk]
    have hs : bzN xs.length (k + 1) = (bzN xs.length k + 1) / 2 := by rw [bzN_succ]; omega
    obtain ⟨d1, d2⟩ := lines_drop (by omega) (by omega) a (by rw [hb]; exact h2) (lo := dropD linesW oneW (levelsD linesW oneW xs L) t) (by rw [ih1, hb, hs]) fun j hj => by
      have := ih2 j (by omega)
      rw [nowD_succ] at this
      exact this
    rw [hb] at d1 d2
    exact ⟨d1, d2⟩
theorem bands_lines {xs : List Nat} {L : Nat} (h : QdL xs) (h1 : 1 ≤ xs.length) (hn : xs.length ≤ 12) (l1 : 1 ≤ L) (hL : L ≤ 6) : bandsF (levelsD linesW oneW xs L) = true := by
  unfold bandsF
  rw [levelsD_sizes, bz_ok ⟨xs.length, by omega⟩ ⟨L, by omega⟩ h1 l1, Bool.true_and]
  refine (allD []).2 fun k hk => ?_
  rw [levelsD_bz] at hk
  by_cases c : k < bzS xs.length L
  · rw [levelsD_lo c]
    exact gl_all (lines_hi h hn hL c)
  · have : k = bzS xs.length L := by omega
    rw [this, levelsD_top]
    exact gl_all (lines_now h hn hL _ (Nat.le_refl _))
theorem lines_un {xs : List Nat} {L : Nat} (h : QdL xs) (h1 : 1 ≤ xs.length) (hn : xs.length ≤ 12) (l1 : 1 ≤ L) (hL : L ≤ 6) : unOk linesW oneW (levelsD linesW oneW xs L) = true :=
  unOk_yes lines_scheme (bands_lines h h1 hn l1 hL) fun k hk => by
    rw [levelsD_bz, Nat.add_sub_cancel] at hk
    obtain ⟨a1, a2⟩ := lines_back h h1 hn hL (k + 1) (by omega)
    exact all_fin fun i hi => (a2 i (by omega)).1

/-! ### bounds alone -/
/-- A list's numbers are finite, within a bound. -/
def BL (B : Rat) (xs : List Nat) : Prop := ∀ j, j < xs.length → FinW .f32 (xs.getD j 0) ∧ Bd (vF xs j) B
theorem BL.mono {B C : Rat} {xs : List Nat} (h : BL B xs) (hc : B ≤ C) : BL C xs := fun j hj => ⟨(h j hj).1, bd_mono (h j hj).2 hc⟩
theorem BL.all {B : Rat} {xs : List Nat} (h : BL B xs) : xs.all finF = true := all_fin fun i hi => (h i hi).1
theorem step_bd {x w a b : Nat} {W B : Rat} (hB : 1 / 16 ≤ B) (hB2 : B ≤ 1000000000000000) (hx : FinW .f32 x ∧ Bd (fval .f32 x) B) (hw : FinW .f32 w ∧ fval .f32 w = W) (hW : Bd W 2) (ha : FinW .f32 a ∧ Bd (fval .f32 a) B) (hb : FinW .f32 b ∧ Bd (fval .f32 b) B) :
    FinW .f32 (addF x (mulF w (addF a b))) ∧ Bd (fval .f32 (addF x (mulF w (addF a b)))) (6 * B) := by
  obtain ⟨x1, x2, x3⟩ := hx
  obtain ⟨a1, a2, a3⟩ := ha
  obtain ⟨b1, b2, b3⟩ := hb
  unfold addF mulF
  obtain ⟨p1, p2, p3⟩ := add_near (k := .f32) (M := 2 * B) a1 b1 ⟨by grind_linarith, by grind_linarith⟩ ⟨by grind_linarith, by grind_linarith⟩
  simp only [epsK] at p2 p3
  obtain ⟨m1, m2⟩ := bd_mul (x := W) (y := fval .f32 (fbin .add .f32 a b)) (A := 2) (B := 21 / 10 * B) hW ⟨by grind_linarith, by grind_linarith⟩
  obtain ⟨q1, q2, q3⟩ := mul_near (k := .f32) (M := 5 * B) hw.1 p1 ⟨by grind_linarith, by grind_linarith⟩ (by rw [hw.2]; exact ⟨by grind_linarith, by grind_linarith⟩)
  rw [hw.2] at q2 q3
  simp only [epsK] at q2 q3
  obtain ⟨r1, r2, r3⟩ := add_near (k := .f32) (M := 6 * B) x1 q1 ⟨by grind_linarith, by grind_linarith⟩ ⟨by grind_linarith, by grind_linarith⟩
  simp only [epsK] at r2 r3
  exact ⟨r1, by grind_linarith, by grind_linarith⟩
end Go.Proofs.Ytddekdgggpifmaa

namespace Go.Proofs.Ytddekdgggpifmaa
open Go.Gx
set_option maxRecDepth 100000
set_option linter.unusedSimpArgs false
set_option linter.unusedVariables false

theorem map_at {f : Nat → Nat} {xs : List Nat} {j : Nat} (h : j < xs.length) : (xs.map f).getD j 0 = f (xs.getD j 0) := by simp [List.getD_eq_getElem?_getD, h]
theorem drop_form {lo hi : List Nat} (h1 : 1 ≤ hi.length) : ∃ a b e1 o1 : List Nat, a.length = lo.length ∧ b.length = hi.length ∧ e1.length = lo.length ∧ o1.length = hi.length ∧
    (∀ j, j < lo.length → a.getD j 0 = fbin .quo .f32 (lo.getD j 0) 1065353216) ∧ (∀ j, j < hi.length → b.getD j 0 = fbin .mul .f32 (hi.getD j 0) 1065353216) ∧
    (∀ j, j < lo.length → e1.getD j 0 = addF (a.getD j 0) (mulF (fneg .f32 1048576000) (addF (b.getD (j - 1) 0) (b.getD (min j (hi.length - 1)) 0)))) ∧
    (∀ j, j < hi.length → o1.getD j 0 = addF (b.getD j 0) (mulF (fneg .f32 3204448256) (addF (e1.getD j 0) (e1.getD (min (j + 1) (lo.length - 1)) 0)))) ∧ dropF linesW oneW lo hi = wovL 0 e1 o1 e1.length := by
  obtain ⟨a, ha⟩ : ∃ a, a = lo.map fun x => fbin .quo .f32 x 1065353216 := ⟨_, rfl⟩
  obtain ⟨b, hb⟩ : ∃ b, b = hi.map fun x => fbin .mul .f32 x 1065353216 := ⟨_, rfl⟩
  have la : a.length = lo.length := by rw [ha, List.length_map]
  have lb : b.length = hi.length := by rw [hb, List.length_map]
  obtain ⟨e1, he1⟩ : ∃ e1, e1 = (weighF 1 (fneg .f32 1048576000) (a, b)).1 := ⟨_, rfl⟩
  obtain ⟨o1, ho1⟩ : ∃ o1, o1 = (weighF 0 (fneg .f32 3204448256) (e1, b)).2 := ⟨_, rfl⟩
  have le1 : e1.length = a.length := by rw [he1]; exact weighF_len1 _ _ _
  have lo1 : o1.length = b.length := by rw [ho1]; exact weighF_len2 _ _ _
  refine ⟨a, b, e1, o1, la, lb, by omega, by omega, fun j hj => by rw [ha]; exact map_at hj, fun j hj => by rw [hb]; exact map_at hj, fun j hj => ?_, fun j hj => ?_, ?_⟩
  · rw [he1, weigh1_at (by omega), ← lb]; rfl
  · rw [ho1, weigh0_at (by omega), ← la, ← le1]; rfl
  · have w1 : weighF 1 (fneg .f32 1048576000) (a, b) = (e1, b) := by rw [he1]; rfl
    have w2 : weighF 0 (fneg .f32 3204448256) (e1, b) = (e1, o1) := by rw [ho1]; rfl
    have w3 : weighDown linesW (a, b) linesW.length = (e1, o1) := by
      show weighF 0 (fneg .f32 3204448256) (weighF 1 (fneg .f32 1048576000) (a, b)) = _
      rw [w1, w2]
    unfold dropF
    rw [if_neg (by omega)]
    show (let p := weighDown linesW (lo.map fun x => fbin .quo .f32 x 1065353216, hi.map fun x => fbin .mul .f32 x 1065353216) linesW.length; wovL 0 p.1 p.2 p.1.length) = _
    rw [← ha, ← hb]
    simp only [w3]
theorem wov_all {P : Nat → Prop} {ev od : List Nat} (h1 : od.length ≤ ev.length) (h2 : ev.length ≤ od.length + 1) (he : ∀ j, j < ev.length → P (ev.getD j 0)) (ho : ∀ j, j < od.length → P (od.getD j 0)) :
    (wovL 0 ev od ev.length).length = ev.length + od.length ∧ ∀ i, i < (wovL 0 ev od ev.length).length → P ((wovL 0 ev od ev.length).getD i 0) := by
  have hlen : (wovL 0 ev od ev.length).length = ev.length + od.length := by rw [wovL_lens]; omega
  refine ⟨hlen, fun i hi => ?_⟩
  rw [wovL_at (d := 0) (ev := ev) (od := od) ev.length (by omega) i hi]
  rw [hlen] at hi
  by_cases c : i % 2 = 0
  · rw [if_pos c]; exact he _ (by omega)
  · rw [if_neg c]; exact ho _ (by omega)
theorem drop_bd {lo hi : List Nat} {B : Rat} (hB : 1 / 16 ≤ B) (hB2 : B ≤ 10000000000000) (h1 : BL B lo) (h2 : BL B hi) (f1 : hi.length ≤ lo.length) (f2 : lo.length ≤ hi.length + 1) : BL (36 * B) (dropF linesW oneW lo hi) := by
  by_cases h0 : hi.length = 0
  · have : dropF linesW oneW lo hi = lo := by unfold dropF; rw [if_pos h0]
    rw [this]
    exact h1.mono (by grind_linarith)
  obtain ⟨a, b, e1, o1, la, lb, le, lo', ha, hb, he, ho, hd⟩ := drop_form (lo := lo) (hi := hi) (by omega)
  have A : ∀ j, j < lo.length → FinW .f32 (a.getD j 0) ∧ Bd (fval .f32 (a.getD j 0)) B := fun j hj => by
    rw [ha j hj]
    have := quo_one_ex (h1 j hj).1
    exact ⟨this.1, by rw [this.2]; exact (h1 j hj).2⟩
  have C : ∀ j, j < hi.length → FinW .f32 (b.getD j 0) ∧ Bd (fval .f32 (b.getD j 0)) B := fun j hj => by
    rw [hb j hj]
    have := mul_one_ex (h2 j hj).1
    exact ⟨this.1, by rw [this.2]; exact (h2 j hj).2⟩
  have D : ∀ j, j < lo.length → FinW .f32 (e1.getD j 0) ∧ Bd (fval .f32 (e1.getD j 0)) (6 * B) := fun j hj => by
    rw [he j hj]
    exact step_bd hB (by grind_linarith) (A j hj) mquart_v ⟨by grind_linarith, by grind_linarith⟩ (C (j - 1) (by omega)) (C (min j (hi.length - 1)) (by omega))
  have E : ∀ j, j < hi.length → FinW .f32 (o1.getD j 0) ∧ Bd (fval .f32 (o1.getD j 0)) (36 * B) := fun j hj => by
    rw [ho j hj]
    have := step_bd (B := 6 * B) (by grind_linarith) (by grind_linarith) ⟨(C j hj).1, bd_mono (C j hj).2 (by grind_linarith)⟩ phalf_v ⟨by grind_linarith, by grind_linarith⟩ (D j (by omega)) (D (min (j + 1) (lo.length - 1)) (by omega))
    exact ⟨this.1, bd_mono this.2 (by grind_linarith)⟩
  rw [hd]
  exact (wov_all (P := fun w => FinW .f32 w ∧ Bd (fval .f32 w) (36 * B)) (by omega) (by omega) (fun j hj => ⟨(D j (by omega)).1, bd_mono (D j (by omega)).2 (by grind_linarith)⟩) fun j hj => E j (by omega)).2
def pw36 (B : Rat) : Nat → Rat
  | 0 => B
  | t + 1 => 36 * pw36 B t
theorem gl_bl {s N : Nat} {xs : List Nat} (h : GL s N xs) (hN : N ≤ 4000000) : BL 4000000 xs := fun j hj => ⟨(h j hj).1, by
  have h1 := (h j hj).2.bd
  have h2 : ((N : Nat) : Rat) ≤ ((4000000 : Nat) : Rat) := natCast_le hN
  have e : ((4000000 : Nat) : Rat) = 4000000 := rfl
  rw [e] at h2
  exact bd_mono h1 h2⟩
/-- Coarser lists are finite. -/
theorem lines_coarse {xs : List Nat} {L : Nat} (h : QdL xs) (h1 : 1 ≤ xs.length) (hn : xs.length ≤ 12) (l1 : 1 ≤ L) (hL : L ≤ 6) (keep : Nat) : unOk linesW oneW (coarseU (levelsD linesW oneW xs L) keep ((levelsD linesW oneW xs L).length - 1 - keep)) = true := by
  have hd := deepOk_parts (lines_deep h h1 hn l1 hL)
  have hb := coarse_bands (keep := keep) (t := (levelsD linesW oneW xs L).length - 1 - keep) (h.long h1 hn) l1 hL (n := L) (by
    have := hd.2.2.2
    rwa [Int.toNat_natCast] at this)
  obtain ⟨yss, hy⟩ : ∃ yss, yss = coarseU (levelsD linesW oneW xs L) keep ((levelsD linesW oneW xs L).length - 1 - keep) := ⟨_, rfl⟩
  have h4 := bz_four ⟨xs.length, by omega⟩ ⟨L, by omega⟩
  simp only at h4
  have hyl : yss.length = bzS xs.length L + 1 := by rw [hy, coarseU_len, levelsD_bz]
  have hrow : ∀ k, k < yss.length → BL 4000000 (yss.getD k []) := fun k hk => by
    rw [hyl] at hk
    have hbase : BL 4000000 ((levelsD linesW oneW xs L).getD k []) := by
      by_cases c : k < bzS xs.length L
      · rw [levelsD_lo c]
        have hp : 16 ^ k ≤ 16 ^ 3 := Nat.pow_le_pow_right (by omega) (by omega)
        exact gl_bl (lines_hi h hn hL c) (by omega)
      · have e : k = bzS xs.length L := by omega
        rw [e, levelsD_top]
        have hp : 16 ^ bzS xs.length L ≤ 16 ^ 4 := Nat.pow_le_pow_right (by omega) (by omega)
        exact gl_bl (lines_now h hn hL _ (Nat.le_refl _)) (by omega)
    rw [hy, coarseU_at (by rw [levelsD_bz]; exact hk)]
    by_cases c : k < (levelsD linesW oneW xs L).length - 1 - keep
    · rw [if_pos c]
      unfold coarseL
      by_cases c2 : k + 1 + keep < (levelsD linesW oneW xs L).length
      · rw [if_pos c2]
        intro j hj
        unfold vF zerosF
        rw [rep0_at]
        exact ⟨finW_zero.1, by rw [finW_zero.2]; constructor <;> grind_linarith⟩
      · rw [if_neg c2]; exact hbase
    · rw [if_neg c]; exact hbase
  rw [← hy] at hb ⊢
  have hsz := bands_sizes hb
  have hbd : ∀ t, t ≤ bzS xs.length L → BL (pw36 4000000 t) (dropD linesW oneW yss t) := by
    intro t
    induction t with
    | zero => intro _; exact hrow _ (by omega)
    | succ t ih =>
      intro ht
      have ih := ih (by omega)
      have hf := fit_facts (dropD_fit (ws := linesW) (sc := oneW) hsz (t := t) (by omega))
      have hp : 4000000 ≤ pw36 4000000 t ∧ pw36 4000000 t ≤ 10000000000000 := by
        rcases (by omega : t = 0 ∨ t = 1 ∨ t = 2 ∨ t = 3) with rfl | rfl | rfl | rfl <;> simp only [pw36] <;> constructor <;> grind_linarith
      rw [dropD_succ]
      exact drop_bd (by grind_linarith) hp.2 ih ((hrow _ (by omega)).mono hp.1) (by omega) (by omega)
  exact unOk_yes lines_scheme hb fun k hk => (hbd (k + 1) (by omega)).all
theorem coarse_keep {xss : List (List Nat)} {keep : Nat} (h : xss.length ≤ keep) : coarseU xss keep (xss.length - 1 - keep) = xss := by
  rw [show xss.length - 1 - keep = 0 by omega, coarseU_zero]
theorem zerosF_at (n j : Nat) : (zerosF n).getD j 0 = 0 := rep0_at n j
/-- Finer lists. -/
theorem lines_grow {xs : List Nat} (h : QdL xs) (h1 : 1 ≤ xs.length) (hn : xs.length ≤ 12) :
    (dropF linesW oneW xs (zerosF xs.length)).length = 2 * xs.length ∧ GL 3 64 (dropF linesW oneW xs (zerosF xs.length)) ∧ (∀ j, j < xs.length → vF (dropF linesW oneW xs (zerosF xs.length)) (2 * j) = vF xs j) ∧
      ∀ j, j < xs.length → vF (dropF linesW oneW xs (zerosF xs.length)) (2 * j + 1) = 1 / 2 * (vF xs j + vF xs (min (j + 1) (xs.length - 1))) := by
  have g := h.gl
  obtain ⟨a, b, e1, o1, la, lb, le, lo', ha, hb, he, ho, hd⟩ := drop_form (lo := xs) (hi := zerosF xs.length) (by rw [zerosF_length]; exact h1)
  rw [zerosF_length] at lb lo' hb he ho
  have A : ∀ j, j < xs.length → FinW .f32 (a.getD j 0) ∧ fval .f32 (a.getD j 0) = vF xs j := fun j hj => by
    rw [ha j hj]
    exact quo_one_ex (g j hj).1
  have C : ∀ j, j < xs.length → FinW .f32 (b.getD j 0) ∧ fval .f32 (b.getD j 0) = 0 := fun j hj => by
    rw [hb j hj, zerosF_at]
    have := mul_one_ex finW_zero.1
    exact ⟨this.1, by rw [this.2, finW_zero.2]⟩
  have D : ∀ j, j < xs.length → FinW .f32 (e1.getD j 0) ∧ fval .f32 (e1.getD j 0) = vF xs j := fun j hj => by
    rw [he j hj]
    obtain ⟨a1, a2⟩ := A j hj
    obtain ⟨b1, b2⟩ := C (j - 1) (by omega)
    obtain ⟨c1, c2⟩ := C (min j (xs.length - 1)) (by omega)
    have e3 : fval .f32 (a.getD j 0) + -1 / 4 * (fval .f32 (b.getD (j - 1) 0) + fval .f32 (b.getD (min j (xs.length - 1)) 0)) = vF xs j := by rw [a2, b2, c2]; grind_linarith
    have st := step_exact (s1 := 2) (s2 := 2) (s3 := 2) a1 mquart_v b1 c1 (by rw [b2, c2]; have := Gr.zero 2 16777216; have e : (0 : Rat) + 0 = 0 := by grind_linarith
                                                                              rw [e]; exact this) (by rw [b2, c2]; have := Gr.zero 2 16777216; have e : -1 / 4 * ((0 : Rat) + 0) = 0 := by grind_linarith
                                                                                                      rw [e]; exact this) (by rw [e3]; exact (g j hj).2.mono (by omega)) (by omega) (by omega) (by omega)
    exact ⟨st.1, by rw [st.2, e3]⟩
  have E : ∀ j, j < xs.length → FinW .f32 (o1.getD j 0) ∧ fval .f32 (o1.getD j 0) = 1 / 2 * (vF xs j + vF xs (min (j + 1) (xs.length - 1))) ∧ Gr 3 64 (1 / 2 * (vF xs j + vF xs (min (j + 1) (xs.length - 1)))) := fun j hj => by
    rw [ho j hj]
    obtain ⟨a1, a2⟩ := C j hj
    obtain ⟨b1, b2⟩ := D j hj
    obtain ⟨c1, c2⟩ := D (min (j + 1) (xs.length - 1)) (by omega)
    have g1 := (g j hj).2.add (g (min (j + 1) (xs.length - 1)) (by omega)).2
    have g2 := g1.part 1 (c := 1 / 2) (.inl (by rw [p2_h]))
    have e3 : fval .f32 (b.getD j 0) + 1 / 2 * (fval .f32 (e1.getD j 0) + fval .f32 (e1.getD (min (j + 1) (xs.length - 1)) 0)) = 1 / 2 * (vF xs j + vF xs (min (j + 1) (xs.length - 1))) := by rw [a2, b2, c2]; grind_linarith
    have st := step_exact (s1 := 2) (s2 := 3) (s3 := 3) a1 phalf_v b1 c1 (by rw [b2, c2]; exact g1.mono (by omega)) (by rw [b2, c2]; exact g2.mono (by omega)) (by rw [e3]; exact g2.mono (by omega)) (by omega) (by omega) (by omega)
    exact ⟨st.1, by rw [st.2, e3], g2.mono (by omega)⟩
  have hlen : (wovL 0 e1 o1 e1.length).length = 2 * xs.length := by rw [wovL_lens]; omega
  have hat : ∀ i, i < 2 * xs.length → (wovL 0 e1 o1 e1.length).getD i 0 = if i % 2 = 0 then e1.getD (i / 2) 0 else o1.getD (i / 2) 0 := fun i hi => wovL_at (d := 0) (ev := e1) (od := o1) e1.length (by omega) i (by omega)
  rw [hd]
  refine ⟨hlen, fun i hi => ?_, fun j hj => ?_, fun j hj => ?_⟩
  · rw [hlen] at hi
    unfold vF
    rw [hat i hi]
    by_cases c : i % 2 = 0
    · rw [if_pos c]
      obtain ⟨d1, d2⟩ := D (i / 2) (by omega)
      exact ⟨d1, by rw [d2]; exact ((g (i / 2) (by omega)).2.up 1).mono (by omega)⟩
    · rw [if_neg c]
      obtain ⟨d1, d2, d3⟩ := E (i / 2) (by omega)
      exact ⟨d1, by rw [d2]; exact d3⟩
  · show fval .f32 ((wovL 0 e1 o1 e1.length).getD (2 * j) 0) = _
    rw [hat (2 * j) (by omega), if_pos (by omega), show 2 * j / 2 = j by omega]
    exact (D j hj).2
  · show fval .f32 ((wovL 0 e1 o1 e1.length).getD (2 * j + 1) 0) = _
    rw [hat (2 * j + 1) (by omega), if_neg (by omega), show (2 * j + 1) / 2 = j by omega]
    exact (E j hj).2.1
/-- Finer lists have no ripples. -/
theorem grow_flat {xs : List Nat} (h : QdL xs) (h1 : 1 ≤ xs.length) (hn : xs.length ≤ 12) {j : Nat} (hj : j < xs.length) :
    FinW .f32 ((liftF linesW oneW (dropF linesW oneW xs (zerosF xs.length))).2.getD j 0) ∧ vF (liftF linesW oneW (dropF linesW oneW xs (zerosF xs.length))).2 j = 0 := by
  obtain ⟨g1, g2, g3, g4⟩ := lines_grow h h1 hn
  obtain ⟨G, hG⟩ : ∃ G, G = dropF linesW oneW xs (zerosF xs.length) := ⟨_, rfl⟩
  rw [← hG] at g1 g2 g3 g4 ⊢
  obtain ⟨a1, a2, a3, a4⟩ := lines_lift (s := 3) (N := 64) (by omega) (by omega) g2 (by omega)
  have hl2 := liftF_len2 linesW oneW G
  refine ⟨(a2 j (by show j < (liftF linesW oneW G).2.length; omega)).1, ?_⟩
  have h3 := a3 j (by omega)
  have e1 : vF (odL 0 G G.length) j = vF G (2 * j + 1) := by unfold vF; rw [odL_at (by omega)]
  have e2 : vF (evL 0 G G.length) j = vF G (2 * j) := by unfold vF; rw [evL_at (by omega)]
  have em : min (j + 1) ((G.length + 1) / 2 - 1) = min (j + 1) (xs.length - 1) := by omega
  rw [em] at h3
  have e3 : vF (evL 0 G G.length) (min (j + 1) (xs.length - 1)) = vF G (2 * min (j + 1) (xs.length - 1)) := by unfold vF; rw [evL_at (by omega)]
  rw [e1, e2, e3, g3 j hj, g4 j hj, g3 _ (by omega)] at h3
  show vF (liftF linesW 1065353216 G).2 j = 0
  rw [h3]
  grind_linarith
end Go.Proofs.Ytddekdgggpifmaa

namespace Go.Proofs.Ytddekdgggpifmaa
open Go.Gx
set_option maxRecDepth 100000
set_option linter.unusedSimpArgs false
set_option linter.unusedVariables false

theorem fcB_neq {k : FloatKind} {x y : Nat} (hx : FinW k x) (hy : FinW k y) : fcB .neq k x y = !decide (fval k x = fval k y) := by
  obtain ⟨A, B, P, hP, h1, h2, h3⟩ := order_val hx hy
  rw [h1, h2]
  unfold fcB fcmp
  simp only [h3]
  have hi : ((A : Rat) * P = (B : Rat) * P) ↔ A = B := by
    constructor
    · intro hh
      rcases Int.lt_trichotomy A B with c | c | c
      · have := (mul_lt_iff hP).2 c; rw [hh] at this; exact absurd this Rat.lt_irrefl
      · exact c
      · have := (mul_lt_iff hP).2 c; rw [hh] at this; exact absurd this Rat.lt_irrefl
    · rintro rfl; rfl
  rw [Bool.eq_iff_iff, Bool.not_eq_true', decide_eq_false_iff_not, hi]
  rcases Int.lt_trichotomy A B with c | c | c
  · have : compare A B = .lt := Int.compare_eq_lt.2 c
    simp [this]; omega
  · have : compare A B = .eq := Int.compare_eq_eq.2 c
    simp [this, c]
  · have : compare A B = .gt := Int.compare_eq_gt.2 c
    simp [this]; omega
theorem size_val {x : Nat} (hx : FinW .f32 x) : FinW .f32 (sizeF x) ∧ fval .f32 (sizeF x) = absR (fval .f32 x) := by
  unfold sizeF absR
  rw [fcB_lss hx finW_zero.1, fcB_eql hx finW_zero.1, finW_zero.2]
  by_cases c : fval .f32 x < 0
  · rw [decide_eq_true c, if_pos rfl, if_neg (Rat.not_le.2 c)]
    exact finW_fneg hx
  · rw [decide_eq_false c, if_neg (by decide), if_pos (Rat.not_lt.1 c)]
    by_cases c2 : fval .f32 x = 0
    · rw [decide_eq_true c2, if_pos rfl, c2]
      exact finW_zero
    · rw [decide_eq_false c2, if_neg (by decide)]
      exact ⟨hx, rfl⟩
theorem outQ_val {b : Bool} {t x : Nat} (ht : FinW .f32 t) (hx : FinW .f32 x) : outQ b t x = (b && decide (absR (fval .f32 x) ≤ fval .f32 t)) := by
  obtain ⟨s1, s2⟩ := size_val hx
  unfold outQ
  rw [fcB_leq s1 ht, s2]
theorem cntK_mono {b : Bool} {t u : Nat} {xs : List Nat} (ht : FinW .f32 t) (hu : FinW .f32 u) (h : fval .f32 t ≤ fval .f32 u) (hx : ∀ i, i < xs.length → FinW .f32 (xs.getD i 0)) : ∀ n, n ≤ xs.length → cntK b t xs n ≤ cntK b u xs n
  | 0, _ => Nat.le_refl _
  | n + 1, hn => by
    have ih := cntK_mono (b := b) ht hu h hx n (by omega)
    rw [cntK_succ, cntK_succ, outQ_val ht (hx n (by omega)), outQ_val hu (hx n (by omega))]
    cases b
    · simp only [Bool.false_and]
      rw [if_neg (by decide), if_neg (by decide)]
      exact ih
    · simp only [Bool.true_and, decide_eq_true_eq]
      by_cases c : absR (fval .f32 (xs.getD n 0)) ≤ fval .f32 t
      · rw [if_pos c, if_pos (Rat.le_trans c h)]
        omega
      · rw [if_neg c]
        split <;> omega
theorem cntS_mono {t u : Nat} {xss : List (List Nat)} (ht : FinW .f32 t) (hu : FinW .f32 u) (h : fval .f32 t ≤ fval .f32 u) (hx : ∀ k, k < xss.length → ∀ i, i < (xss.getD k []).length → FinW .f32 ((xss.getD k []).getD i 0)) : ∀ n, n ≤ xss.length → cntS t xss n ≤ cntS u xss n
  | 0, _ => Nat.le_refl _
  | n + 1, hn => by
    have ih := cntS_mono ht hu h hx n (by omega)
    have := cntK_mono (b := decide (n + 1 < xss.length)) ht hu h (hx n (by omega)) _ (Nat.le_refl _)
    rw [cntS_succ, cntS_succ]
    omega
/-- A limit: a quarter's word, not negative. -/
theorem limit_all : ∀ n : Fin 17, leastF (quartW (n.val : Int)) = true := by decide +kernel
theorem limit_val {q : Int} (h0 : 0 ≤ q) (h1 : q < 17) : leastF (quartW q) = true ∧ FinW .f32 (quartW q) ∧ 0 ≤ fval .f32 (quartW q) ∧ quartW q < 2 ^ 32 := by
  have a := limit_all ⟨q.toNat, by omega⟩
  have e : ((q.toNat : Nat) : Int) = q := by omega
  simp only [e] at a
  obtain ⟨b1, b2⟩ := least_val a
  have c := (Qd.ok ⟨q, by omega, by omega, rfl⟩ : FinW .f32 (quartW q) ∧ quartW q < 2 ^ 32 ∧ _)
  exact ⟨a, b1, b2, c.2.1⟩
/-! ### places -/
def covI (n L k : Nat) (S : List Int) : Nat → List Int := foldI (fun i S => S.set (covA n L k i) (S.getD (covA n L k i) 0 + 1)) S
def covK (n L : Nat) : Nat → List Int := foldI (fun k S => covI n L k S ((bzL n L).getD k 0)) (List.replicate n 0)
theorem covI_succ (n L k : Nat) (S : List Int) (i : Nat) : covI n L k S (i + 1) = (covI n L k S i).set (covA n L k i) ((covI n L k S i).getD (covA n L k i) 0 + 1) := rfl
theorem covK_succ (n L k : Nat) : covK n L (k + 1) = covI n L k (covK n L k) ((bzL n L).getD k 0) := rfl
theorem covI_len (n L k : Nat) (S : List Int) : ∀ i, (covI n L k S i).length = S.length
  | 0 => rfl
  | i + 1 => by rw [covI_succ, List.length_set, covI_len n L k S i]
theorem covK_len (n L : Nat) : ∀ k, (covK n L k).length = n
  | 0 => by simp [covK, foldI_zero]
  | k + 1 => by rw [covK_succ, covI_len, covK_len n L k]
theorem cov_all : ∀ n : Fin 13, ∀ L : Fin 6, 1 ≤ n.val → 1 ≤ L.val → covK n.val L.val (bzS n.val L.val + 1) = List.replicate n.val 1 := by decide +kernel
theorem cov_in : ∀ n : Fin 13, ∀ L : Fin 6, 1 ≤ n.val → 1 ≤ L.val → ∀ k : Fin 7, k.val ≤ bzS n.val L.val → ∀ i : Fin 13, i.val < (bzL n.val L.val).getD k.val 0 → covA n.val L.val k.val i.val < n.val := by decide +kernel
theorem cov_small : ∀ n : Fin 13, ∀ L : Fin 6, 1 ≤ n.val → 1 ≤ L.val → ∀ k : Fin 7, k.val ≤ bzS n.val L.val → (bzL n.val L.val).getD k.val 0 ≤ 12 := by decide +kernel
theorem getD_out {l : List Int} {j : Nat} (h : l.length ≤ j) : l.getD j 0 = 0 := by simp [List.getD_eq_getElem?_getD, List.getElem?_eq_none h]
theorem covI_bd (n L k : Nat) {S : List Int} {M : Int} (h0 : 0 ≤ M) (h : ∀ j, 0 ≤ S.getD j 0 ∧ S.getD j 0 ≤ M) : ∀ i : Nat, ∀ j, 0 ≤ (covI n L k S i).getD j 0 ∧ (covI n L k S i).getD j 0 ≤ M + i
  | 0, j => by have := h j; simp only [covI, foldI_zero]; omega
  | i + 1, j => by
    have ih := covI_bd n L k h0 h i
    rw [covI_succ]
    by_cases c : covA n L k i = j
    · subst c
      by_cases hl : covA n L k i < (covI n L k S i).length
      · rw [Go.Gx.getD_set_self hl]
        have := ih (covA n L k i)
        omega
      · have e := getD_out (l := (covI n L k S i).set (covA n L k i) ((covI n L k S i).getD (covA n L k i) 0 + 1)) (j := covA n L k i) (by rw [List.length_set]; omega)
        rw [e]; omega
    · rw [Go.Gx.getD_set_ne c]
      have := ih j
      omega
theorem covK_bd (n L : Nat) (hs : ∀ k, (bzL n L).getD k 0 ≤ 128) : ∀ k : Nat, ∀ j, 0 ≤ (covK n L k).getD j 0 ∧ (covK n L k).getD j 0 ≤ 128 * k
  | 0, j => by
    by_cases c : j < n
    · simp [covK, foldI_zero, List.getD_eq_getElem?_getD, List.getElem?_replicate, c]
    · simp [covK, foldI_zero, List.getD_eq_getElem?_getD, List.getElem?_replicate, c]
  | k + 1, j => by
    have := covI_bd n L k (M := 128 * k) (by omega) (covK_bd n L hs k) ((bzL n L).getD k 0) j
    have h := hs k
    rw [covK_succ]
    omega
theorem bzL_le {n L : Nat} (h1 : 1 ≤ n) (h2 : n ≤ 128) (k : Nat) : (bzL n L).getD k 0 ≤ 128 := by
  by_cases c : k < bzS n L
  · have hb := bzN_bd h1 k
    have : (bzL n L).getD k 0 = bzN n k / 2 := by rw [bzL, getD_app_lt (by rw [bzO_length]; exact c), bzO, getD_range_map c]
    omega
  · by_cases hke : k = bzS n L
    · have hb := bzN_bd h1 (bzS n L)
      have := @getD_app_at _ (bzO n (bzS n L)) (bzN n (bzS n L)) 0
      rw [bzO_length, ← bzL] at this
      rw [hke]
      omega
    · have : (bzL n L).getD k 0 = 0 := by simp [List.getD_eq_getElem?_getD, List.getElem?_eq_none (l := bzL n L) (i := k) (by simp [bzL, bzO_length]; omega)]
      omega
/-! ### words -/
theorem w32_range {n : Nat} {f : Nat → Nat} (h : ∀ j, f j < 2 ^ 32) : W32 ((List.range n).map f) := fun j => by
  by_cases hj : j < n
  · rw [getD_range_map hj]; exact h j
  · simp [List.getD_eq_getElem?_getD, List.getElem?_eq_none (l := List.range n) (i := j) (by simp; omega)]
theorem w32_map {f : Nat → Nat} {xs : List Nat} (h : ∀ x, f x < 2 ^ 32) : W32 (xs.map f) := fun j => by
  by_cases hj : j < xs.length
  · rw [map_at hj]; exact h _
  · simp [List.getD_eq_getElem?_getD, List.getElem?_eq_none (Nat.le_of_not_lt hj)]
theorem liftF_w {ws : List Nat} {sc : Nat} {xs : List Nat} (h : W32 xs) : W32 (liftF ws sc xs).1 ∧ W32 (liftF ws sc xs).2 := by
  unfold liftF
  split
  · exact ⟨w32_range fun j => h _, w32_range fun j => h _⟩
  · exact ⟨w32_map fun x => fbin_lt .mul .f32 _ _, w32_map fun x => fbin_lt .quo .f32 _ _⟩
theorem weighF_w {k w : Nat} {p : List Nat × List Nat} (h : W32 p.1 ∧ W32 p.2) : W32 (weighF k w p).1 ∧ W32 (weighF k w p).2 := by
  unfold weighF
  split
  · exact ⟨h.1, w32_range fun j => fbin_lt .add .f32 _ _⟩
  · exact ⟨w32_range fun j => fbin_lt .add .f32 _ _, h.2⟩
theorem weighDown_w {ws : List Nat} {p : List Nat × List Nat} (h : W32 p.1 ∧ W32 p.2) : ∀ n, W32 (weighDown ws p n).1 ∧ W32 (weighDown ws p n).2
  | 0 => h
  | n + 1 => weighF_w (weighDown_w h n)
theorem dropF_w {ws : List Nat} {sc : Nat} {ev od : List Nat} (h : W32 ev) (hl : ev.length ≤ od.length + 1) : W32 (dropF ws sc ev od) := by
  unfold dropF
  split
  · exact h
  · obtain ⟨p, hp⟩ : ∃ p, p = weighDown ws (ev.map fun x => fbin .quo .f32 x sc, od.map fun x => fbin .mul .f32 x sc) ws.length := ⟨_, rfl⟩
    have hw := weighDown_w (ws := ws) (p := (ev.map fun x => fbin .quo .f32 x sc, od.map fun x => fbin .mul .f32 x sc)) ⟨w32_map fun x => fbin_lt .quo .f32 _ _, w32_map fun x => fbin_lt .mul .f32 _ _⟩ ws.length
    have hn := weighDown_len ws (ev.map fun x => fbin .quo .f32 x sc, od.map fun x => fbin .mul .f32 x sc) ws.length
    rw [← hp] at hw hn
    simp only [List.length_map] at hn
    show W32 (let p := weighDown ws (ev.map fun x => fbin .quo .f32 x sc, od.map fun x => fbin .mul .f32 x sc) ws.length; wovL 0 p.1 p.2 p.1.length)
    rw [← hp]
    intro j
    by_cases hj : j < (wovL 0 p.1 p.2 p.1.length).length
    · show (wovL 0 p.1 p.2 p.1.length).getD j 0 < _
      rw [wovL_at (d := 0) (ev := p.1) (od := p.2) p.1.length (by omega) j hj]
      split
      · exact hw.1 _
      · exact hw.2 _
    · show (wovL 0 p.1 p.2 p.1.length).getD j 0 < _
      simp [List.getD_eq_getElem?_getD, List.getElem?_eq_none (Nat.le_of_not_lt hj)]
theorem nowD_w {ws : List Nat} {sc : Nat} {xs : List Nat} (h : W32 xs) : ∀ t, W32 (nowD ws sc xs t)
  | 0 => h
  | t + 1 => (liftF_w (nowD_w h t)).1
theorem levelsD_w {ws : List Nat} {sc : Nat} {xs : List Nat} (h : W32 xs) (L : Nat) : W32S (levelsD ws sc xs L) := fun k => by
  by_cases c : k < bzS xs.length L
  · rw [levelsD_lo c]; exact (liftF_w (nowD_w h k)).2
  · by_cases e : k = bzS xs.length L
    · subst e
      rw [levelsD_top]; exact nowD_w h _
    · have : (levelsD ws sc xs L).getD k [] = [] := by simp [List.getD_eq_getElem?_getD, List.getElem?_eq_none (l := levelsD ws sc xs L) (i := k) (by rw [levelsD_bz]; omega)]
      rw [this]; intro j; simp
end Go.Proofs.Ytddekdgggpifmaa
