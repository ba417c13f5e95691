/-
  Lifts by lines, exactly: all numbers lie on a grid that single precision has.
-/
import Derived.Test.YtddekdgggpifmaaGxRing
import Derived.Test.YtddekdgggpifmaaGxLiftF
import Derived.Test.YtddekdgggpifmaaGxLiftW
namespace Go.Gx
set_option linter.unusedSimpArgs false
set_option linter.unusedVariables false
open Ieee
/-- A number of a grid: whole steps of 2 to the -s, at most N of them. -/
def Gr (s N : Nat) (v : Rat) : Prop := ∃ z : Int, v = (z : Rat) * p2 (-(s : Int)) ∧ z.natAbs ≤ N
theorem Gr.mono {s N K : Nat} {v : Rat} (h : Gr s N v) (hk : N ≤ K) : Gr s K v := by
  obtain ⟨z, h1, h2⟩ := h
  exact ⟨z, h1, by omega⟩
theorem Gr.add {s N K : Nat} {x y : Rat} (h : Gr s N x) (g : Gr s K y) : Gr s (N + K) (x + y) := by
  obtain ⟨z, h1, h2⟩ := h
  obtain ⟨w, g1, g2⟩ := g
  exact ⟨z + w, by rw [h1, g1, Rat.intCast_add]; grind_linarith, by omega⟩
theorem Gr.up {s N : Nat} {x : Rat} (h : Gr s N x) (k : Nat) : Gr (s + k) (N * 2 ^ k) x := by
  obtain ⟨z, h1, h2⟩ := h
  refine ⟨z * (2 ^ k : Nat), ?_, ?_⟩
  · have e : p2 (-(s : Int)) = p2 (k : Int) * p2 (-((s + k : Nat) : Int)) := by rw [← p2_add]; congr 1; omega
    rw [h1, e, p2_nat, Rat.intCast_mul, Rat.intCast_natCast]
    grind_linarith
  · rw [Int.natAbs_mul, Int.natAbs_natCast]
    exact Nat.mul_le_mul_right _ h2
theorem Gr.part {s N : Nat} {x c : Rat} (h : Gr s N x) (k : Nat) (hc : c = p2 (-(k : Int)) ∨ c = -p2 (-(k : Int))) : Gr (s + k) N (c * x) := by
  obtain ⟨z, h1, h2⟩ := h
  have e : p2 (-((s + k : Nat) : Int)) = p2 (-(s : Int)) * p2 (-(k : Int)) := by rw [← p2_add]; congr 1; omega
  rcases hc with rfl | rfl
  · exact ⟨z, by rw [h1, e]; grind_linarith, h2⟩
  · exact ⟨-z, by rw [h1, e, Rat.intCast_neg]; grind_linarith, by omega⟩
theorem Gr.zero (s N : Nat) : Gr s N 0 := ⟨0, by simp, by simp⟩
theorem Gr.rep {s N : Nat} {v : Rat} (h : Gr s N v) (hN : N ≤ 16777216) (hs : s ≤ 100) : Rep FloatKind.f32.format v := by
  obtain ⟨z, h1, h2⟩ := h
  refine ⟨z, -(s : Int), h1, ?_, ?_⟩
  · have : 2 * FloatKind.f32.format.binade = 16777216 := by decide
    omega
  · have : FloatKind.f32.format.leastPlace = -149 := by decide
    omega
theorem Gr.bd {s N : Nat} {v : Rat} (h : Gr s N v) : Bd v (N : Rat) := by
  obtain ⟨z, h1, h2⟩ := h
  have hp := p2_pos (-(s : Int))
  have hp1 : p2 (-(s : Int)) ≤ 1 := by rw [← p2_zero]; exact p2_le (by omega)
  have z1 : (z : Rat) ≤ (N : Rat) := by
    have := Rat.intCast_le_intCast.2 (show z ≤ (N : Int) by omega)
    rwa [Rat.intCast_natCast] at this
  have z2 : -(N : Rat) ≤ (z : Rat) := by
    have := Rat.intCast_le_intCast.2 (show -(N : Int) ≤ z by omega)
    rwa [Rat.intCast_neg, Rat.intCast_natCast] at this
  have n0 : (0 : Rat) ≤ N := Rat.natCast_nonneg
  have a1 := Rat.mul_le_mul_of_nonneg_right z1 (Rat.le_of_lt hp)
  have a2 := Rat.mul_le_mul_of_nonneg_right z2 (Rat.le_of_lt hp)
  have a3 := Rat.mul_le_mul_of_nonneg_left hp1 n0
  rw [h1]
  exact ⟨by grind_linarith, by grind_linarith⟩
theorem Gr.top {s N : Nat} {v : Rat} (h : Gr s N v) (hN : N ≤ 16777216) : Bd v (topK .f32) := by
  have h1 := h.bd
  have h2 : ((N : Nat) : Rat) ≤ ((16777216 : Nat) : Rat) := natCast_le hN
  have h3 : ((16777216 : Nat) : Rat) ≤ topK .f32 := okM_top (M := ((16777216 : Nat) : Rat)) ⟨by decide +kernel, by decide +kernel⟩
  exact ⟨by have := h1.1; grind_linarith, by have := h1.2; grind_linarith⟩
/-- One step of a lift, exactly. -/
theorem step_exact {x w a b : Nat} {W : Rat} {s1 s2 s3 : Nat} (hx : FinW .f32 x) (hw : FinW .f32 w ∧ fval .f32 w = W) (ha : FinW .f32 a) (hb : FinW .f32 b)
    (g1 : Gr s1 16777216 (fval .f32 a + fval .f32 b)) (g2 : Gr s2 16777216 (W * (fval .f32 a + fval .f32 b))) (g3 : Gr s3 16777216 (fval .f32 x + W * (fval .f32 a + fval .f32 b))) (e1 : s1 ≤ 100) (e2 : s2 ≤ 100) (e3 : s3 ≤ 100) :
    FinW .f32 (addF x (mulF w (addF a b))) ∧ fval .f32 (addF x (mulF w (addF a b))) = fval .f32 x + W * (fval .f32 a + fval .f32 b) := by
  have p1 := fadd_val ha hb (g1.top (Nat.le_refl _))
  have v1 := p1.exact (g1.rep (Nat.le_refl _) e1)
  have p2' := fmul_val hw.1 p1.1 (by rw [hw.2, v1]; exact g2.top (Nat.le_refl _))
  rw [hw.2, v1] at p2'
  have v2 := p2'.exact (g2.rep (Nat.le_refl _) e2)
  have p3 := fadd_val hx p2'.1 (by rw [v2]; exact g3.top (Nat.le_refl _))
  rw [v2] at p3
  exact ⟨p3.1, p3.exact (g3.rep (Nat.le_refl _) e3)⟩
theorem one32 : FinW .f32 1065353216 ∧ fval .f32 1065353216 = 1 := finV_ok (by decide +kernel)
theorem mul_one_ex {x : Nat} (hx : FinW .f32 x) : FinW .f32 (fbin .mul .f32 x 1065353216) ∧ fval .f32 (fbin .mul .f32 x 1065353216) = fval .f32 x := by
  have e : fval .f32 x * fval .f32 1065353216 = fval .f32 x := by rw [one32.2]; grind_linarith
  have g := fmul_val hx one32.1 (by rw [e]; exact hx.bd)
  rw [e] at g
  exact ⟨g.1, g.exact hx.rep⟩
theorem quo_one_ex {x : Nat} (hx : FinW .f32 x) : FinW .f32 (fbin .quo .f32 x 1065353216) ∧ fval .f32 (fbin .quo .f32 x 1065353216) = fval .f32 x := by
  have g := fdiv_val (q := fval .f32 x) hx one32.1 (by rw [one32.2]; decide) (by rw [one32.2]; grind_linarith) hx.bd
  exact ⟨g.1, g.exact hx.rep⟩
/-! ### woven lists -/
theorem wovL_lens {α : Type} {d : α} {ev od : List α} : ∀ i, (wovL d ev od i).length = i + min i od.length
  | 0 => by simp [wovL]
  | i + 1 => by
    have ih := wovL_lens (d := d) (ev := ev) (od := od) i
    by_cases h : i < od.length
    · rw [wovL_both h]; simp; omega
    · rw [wovL_one h]; simp; omega
theorem wovL_at {α : Type} {d : α} {ev od : List α} : ∀ n, n ≤ od.length + 1 → ∀ i, i < (wovL d ev od n).length → (wovL d ev od n).getD i d = if i % 2 = 0 then ev.getD (i / 2) d else od.getD (i / 2) d
  | 0, _, i, hi => by simp [wovL] at hi
  | n + 1, hn, i, hi => by
    have ih := wovL_at (d := d) (ev := ev) (od := od) n (by omega)
    have hl := wovL_lens (d := d) (ev := ev) (od := od) n
    have hmin : min n od.length = n := by omega
    rw [hmin] at hl
    by_cases h : n < od.length
    · rw [wovL_both h] at hi ⊢
      simp only [List.length_append, List.length_cons, List.length_nil, hl] at hi
      by_cases c : i < n + n
      · rw [getD_app_lt (by simp; omega), getD_app_lt (by omega)]
        exact ih i (by omega)
      · by_cases c2 : i = n + n
        · rw [getD_app_lt (by simp; omega)]
          have := @getD_app_at _ (wovL d ev od n) (ev.getD n d) d
          rw [hl, ← c2] at this
          rw [this, if_pos (by omega)]
          congr 1; omega
        · have c3 : i = n + n + 1 := by omega
          have := @getD_app_at _ (wovL d ev od n ++ [ev.getD n d]) (od.getD n d) d
          have hl2 : (wovL d ev od n ++ [ev.getD n d]).length = i := by simp; omega
          rw [hl2] at this
          rw [this, if_neg (by omega)]
          congr 1; omega
    · rw [wovL_one h] at hi ⊢
      simp only [List.length_append, List.length_cons, List.length_nil, hl] at hi
      by_cases c : i < n + n
      · rw [getD_app_lt (by omega)]
        exact ih i (by omega)
      · have c2 : i = n + n := by omega
        have := @getD_app_at _ (wovL d ev od n) (ev.getD n d) d
        rw [hl, ← c2] at this
        rw [this, if_pos (by omega)]
        congr 1; omega
/-! ### lifts by lines -/
def linesW : List Nat := [3204448256, 1048576000]
theorem mhalf_v : FinW .f32 3204448256 ∧ fval .f32 3204448256 = -1 / 2 := finV_ok (by decide +kernel)
theorem quart_v : FinW .f32 1048576000 ∧ fval .f32 1048576000 = 1 / 4 := finV_ok (by decide +kernel)
theorem phalf_v : FinW .f32 (fneg .f32 3204448256) ∧ fval .f32 (fneg .f32 3204448256) = 1 / 2 := finV_ok (by decide +kernel)
theorem mquart_v : FinW .f32 (fneg .f32 1048576000) ∧ fval .f32 (fneg .f32 1048576000) = -1 / 4 := finV_ok (by decide +kernel)
theorem p2_h : p2 (-((1 : Nat) : Int)) = 1 / 2 := by unfold p2; decide +kernel
theorem p2_q : p2 (-((2 : Nat) : Int)) = 1 / 4 := by unfold p2; decide +kernel
/-- A list's numbers lie on a grid. -/
def GL (s N : Nat) (xs : List Nat) : Prop := ∀ j, j < xs.length → FinW .f32 (xs.getD j 0) ∧ Gr s N (vF xs j)
theorem GL.ev {s N : Nat} {xs : List Nat} (h : GL s N xs) : GL s N (evL 0 xs xs.length) := fun j hj => by
  rw [evL_length] at hj
  unfold vF
  rw [evL_at hj]
  exact h _ (by omega)
theorem GL.od {s N : Nat} {xs : List Nat} (h : GL s N xs) : GL s N (odL 0 xs xs.length) := fun j hj => by
  rw [odL_length] at hj
  unfold vF
  rw [odL_at hj]
  exact h _ (by omega)
theorem weigh0_at {w : Nat} {ev od : List Nat} {j : Nat} (hj : j < od.length) : (weighF 0 w (ev, od)).2.getD j 0 = wO ev od w j := by
  unfold weighF
  rw [if_pos rfl]
  exact getD_range_map hj
theorem weigh1_at {w : Nat} {ev od : List Nat} {j : Nat} (hj : j < ev.length) : (weighF 1 w (ev, od)).1.getD j 0 = wE ev od w j := by
  unfold weighF
  rw [if_neg (by decide)]
  exact getD_range_map hj
theorem weigh0_fst {w : Nat} {ev od : List Nat} : (weighF 0 w (ev, od)).1 = ev := rfl
theorem weigh1_snd {w : Nat} {ev od : List Nat} : (weighF 1 w (ev, od)).2 = od := rfl
section
variable {s N : Nat} {ev od : List Nat}
theorem lines_O (hN : N ≤ 1000000) (hs : s ≤ 90) (he : GL s N ev) (ho : GL s N od) (h1 : 1 ≤ ev.length) (h2 : od.length ≤ ev.length) {j : Nat} (hj : j < od.length) :
    FinW .f32 (wO ev od 3204448256 j) ∧ fval .f32 (wO ev od 3204448256 j) = vF od j + -1 / 2 * (vF ev j + vF ev (min (j + 1) (ev.length - 1))) ∧ Gr (s + 1) (4 * N) (vF od j + -1 / 2 * (vF ev j + vF ev (min (j + 1) (ev.length - 1)))) := by
  obtain ⟨a1, a2⟩ := he j (by omega)
  obtain ⟨b1, b2⟩ := he (min (j + 1) (ev.length - 1)) (by omega)
  obtain ⟨c1, c2⟩ := ho j hj
  have g1 := a2.add b2
  have g2 := g1.part 1 (c := -1 / 2) (.inr (by rw [p2_h]; grind_linarith))
  have g3 := (c2.up 1).add g2
  have q := step_exact c1 mhalf_v a1 b1 (g1.mono (by omega)) (g2.mono (by omega)) (g3.mono (by omega)) (by omega) (by omega) (by omega)
  exact ⟨q.1, q.2, g3.mono (by omega)⟩
theorem lines_E (hN : N ≤ 1000000) (hs : s ≤ 90) (he : GL s N ev) (ho : GL (s + 1) (4 * N) od) (h1 : 1 ≤ od.length) (h2 : ev.length ≤ od.length + 1) {j : Nat} (hj : j < ev.length) :
    FinW .f32 (wE ev od 1048576000 j) ∧ fval .f32 (wE ev od 1048576000 j) = vF ev j + 1 / 4 * (vF od (j - 1) + vF od (min j (od.length - 1))) ∧ Gr (s + 3) (16 * N) (vF ev j + 1 / 4 * (vF od (j - 1) + vF od (min j (od.length - 1)))) := by
  obtain ⟨a1, a2⟩ := ho (j - 1) (by omega)
  obtain ⟨b1, b2⟩ := ho (min j (od.length - 1)) (by omega)
  obtain ⟨c1, c2⟩ := he j hj
  have g1 := a2.add b2
  have g2 := g1.part 2 (c := 1 / 4) (.inl (by rw [p2_q]))
  have g3 := (c2.up 3).add g2
  have q := step_exact c1 quart_v a1 b1 (g1.mono (by omega)) (g2.mono (by omega)) (g3.mono (by omega)) (by omega) (by omega) (by omega)
  exact ⟨q.1, q.2, g3.mono (by omega)⟩
end
/-- What lines lift a list to. -/
theorem lines_lift {s N : Nat} {xs : List Nat} (hN : N ≤ 1000000) (hs : s ≤ 90) (h : GL s N xs) (h2 : 2 ≤ xs.length) :
    GL (s + 3) (16 * N) (liftF linesW 1065353216 xs).1 ∧ GL (s + 1) (4 * N) (liftF linesW 1065353216 xs).2 ∧
      (∀ j, j < xs.length / 2 → vF (liftF linesW 1065353216 xs).2 j = vF (odL 0 xs xs.length) j + -1 / 2 * (vF (evL 0 xs xs.length) j + vF (evL 0 xs xs.length) (min (j + 1) ((xs.length + 1) / 2 - 1)))) ∧
      ∀ j, j < (xs.length + 1) / 2 → vF (liftF linesW 1065353216 xs).1 j = vF (evL 0 xs xs.length) j + 1 / 4 * (vF (liftF linesW 1065353216 xs).2 (j - 1) + vF (liftF linesW 1065353216 xs).2 (min j (xs.length / 2 - 1))) := by
  have lev := evL_length (d := 0) (xs := xs) xs.length
  have lod := odL_length (d := 0) (xs := xs) xs.length
  have he := h.ev
  have ho := h.od
  obtain ⟨ev, hev⟩ : ∃ ev, ev = evL 0 xs xs.length := ⟨_, rfl⟩
  obtain ⟨od, hod⟩ : ∃ od, od = odL 0 xs xs.length := ⟨_, rfl⟩
  rw [← hev] at lev he ⊢
  rw [← hod] at lod ho ⊢
  obtain ⟨o1, ho1⟩ : ∃ o1, o1 = (weighF 0 3204448256 (ev, od)).2 := ⟨_, rfl⟩
  obtain ⟨e1, he1⟩ : ∃ e1, e1 = (weighF 1 1048576000 (ev, o1)).1 := ⟨_, rfl⟩
  have lo1 : o1.length = od.length := by rw [ho1]; exact weighF_len2 _ _ _
  have le1 : e1.length = ev.length := by rw [he1]; exact weighF_len1 _ _ _
  have e : liftF linesW 1065353216 xs = (e1.map fun x => fbin .mul .f32 x 1065353216, o1.map fun x => fbin .quo .f32 x 1065353216) := by
    unfold liftF
    rw [if_neg (by omega), ← hev, ← hod, he1, ho1]
    rfl
  have A : ∀ j, j < od.length → FinW .f32 (o1.getD j 0) ∧ fval .f32 (o1.getD j 0) = vF od j + -1 / 2 * (vF ev j + vF ev (min (j + 1) (ev.length - 1))) ∧ Gr (s + 1) (4 * N) (vF od j + -1 / 2 * (vF ev j + vF ev (min (j + 1) (ev.length - 1)))) := fun j hj => by
    rw [ho1, weigh0_at hj]
    exact lines_O hN hs he ho (by omega) (by omega) hj
  have g1 : GL (s + 1) (4 * N) o1 := fun j hj => by
    obtain ⟨a1, a2, a3⟩ := A j (by omega)
    exact ⟨a1, by unfold vF at *; rw [a2]; exact a3⟩
  have B : ∀ j, j < ev.length → FinW .f32 (e1.getD j 0) ∧ fval .f32 (e1.getD j 0) = vF ev j + 1 / 4 * (vF o1 (j - 1) + vF o1 (min j (o1.length - 1))) ∧ Gr (s + 3) (16 * N) (vF ev j + 1 / 4 * (vF o1 (j - 1) + vF o1 (min j (o1.length - 1)))) := fun j hj => by
    rw [he1, weigh1_at hj]
    exact lines_E hN hs he g1 (by omega) (by omega) hj
  have M1 : ∀ j, j < ev.length → FinW .f32 ((e1.map fun x => fbin .mul .f32 x 1065353216).getD j 0) ∧ vF (e1.map fun x => fbin .mul .f32 x 1065353216) j = fval .f32 (e1.getD j 0) := fun j hj => by
    have hm : (e1.map fun x => fbin .mul .f32 x 1065353216).getD j 0 = fbin .mul .f32 (e1.getD j 0) 1065353216 := by
      have : j < e1.length := by omega
      simp [List.getD_eq_getElem?_getD, this]
    unfold vF
    rw [hm]
    exact mul_one_ex (B j hj).1
  have M2 : ∀ j, j < od.length → FinW .f32 ((o1.map fun x => fbin .quo .f32 x 1065353216).getD j 0) ∧ vF (o1.map fun x => fbin .quo .f32 x 1065353216) j = fval .f32 (o1.getD j 0) := fun j hj => by
    have hm : (o1.map fun x => fbin .quo .f32 x 1065353216).getD j 0 = fbin .quo .f32 (o1.getD j 0) 1065353216 := by
      have : j < o1.length := by omega
      simp [List.getD_eq_getElem?_getD, this]
    unfold vF
    rw [hm]
    exact quo_one_ex (A j hj).1
  rw [e]
  refine ⟨fun j hj => ?_, fun j hj => ?_, fun j hj => ?_, fun j hj => ?_⟩
  · have hj' : j < ev.length := by rw [List.length_map] at hj; omega
    refine ⟨(M1 j hj').1, ?_⟩
    rw [(M1 j hj').2, (B j hj').2.1]
    exact (B j hj').2.2
  · have hj' : j < od.length := by rw [List.length_map] at hj; omega
    refine ⟨(M2 j hj').1, ?_⟩
    rw [(M2 j hj').2, (A j hj').2.1]
    exact (A j hj').2.2
  · show vF (o1.map fun x => fbin .quo .f32 x 1065353216) j = _
    rw [(M2 j (by omega)).2, (A j (by omega)).2.1, lev]
  · show vF (e1.map fun x => fbin .mul .f32 x 1065353216) j = _ + 1 / 4 * (vF (o1.map fun x => fbin .quo .f32 x 1065353216) (j - 1) + vF (o1.map fun x => fbin .quo .f32 x 1065353216) (min j (xs.length / 2 - 1)))
    rw [(M1 j (by omega)).2, (B j (by omega)).2.1, (M2 (j - 1) (by omega)).2, (M2 (min j (xs.length / 2 - 1)) (by omega)).2, lo1, lod]
    rfl
/-- What lines lead back to. -/
theorem lines_drop {s N : Nat} {xs lo : List Nat} (hN : N ≤ 500000) (hs : s ≤ 90) (h : GL s N xs) (h2 : 2 ≤ xs.length) (hl : lo.length = (xs.length + 1) / 2)
    (hv : ∀ j, j < lo.length → FinW .f32 (lo.getD j 0) ∧ vF lo j = vF (liftF linesW 1065353216 xs).1 j) :
    (dropF linesW 1065353216 lo (liftF linesW 1065353216 xs).2).length = xs.length ∧ ∀ i, i < xs.length → FinW .f32 ((dropF linesW 1065353216 lo (liftF linesW 1065353216 xs).2).getD i 0) ∧ vF (dropF linesW 1065353216 lo (liftF linesW 1065353216 xs).2) i = vF xs i := by
  obtain ⟨q1, q2, q3, q4⟩ := lines_lift (by omega) hs h h2
  have lev := evL_length (d := 0) (xs := xs) xs.length
  have lod := odL_length (d := 0) (xs := xs) xs.length
  have he := h.ev
  have ho := h.od
  obtain ⟨ev, hev⟩ : ∃ ev, ev = evL 0 xs xs.length := ⟨_, rfl⟩
  obtain ⟨od, hod⟩ : ∃ od, od = odL 0 xs xs.length := ⟨_, rfl⟩
  have hxe : ∀ j, j < (xs.length + 1) / 2 → vF ev j = vF xs (2 * j) := fun j hj => by rw [hev]; unfold vF; rw [evL_at hj]
  have hxo : ∀ j, j < xs.length / 2 → vF od j = vF xs (2 * j + 1) := fun j hj => by rw [hod]; unfold vF; rw [odL_at hj]
  rw [← hev] at lev he q3 q4
  rw [← hod] at lod ho q3
  have lhi : (liftF linesW 1065353216 xs).2.length = xs.length / 2 := by
    unfold liftF
    rw [if_neg (by omega)]
    simp only [List.length_map]
    rw [(weighUp_len _ _ _).2]
    exact odL_length _
  have llo1 : (liftF linesW 1065353216 xs).1.length = (xs.length + 1) / 2 := by
    unfold liftF
    rw [if_neg (by omega)]
    simp only [List.length_map]
    rw [(weighUp_len _ _ _).1]
    exact evL_length _
  generalize (liftF linesW 1065353216 xs).2 = hi at *
  generalize (liftF linesW 1065353216 xs).1 = lw at *
  obtain ⟨a, ha⟩ : ∃ a, a = lo.map fun x => fbin .quo .f32 x 1065353216 := ⟨_, rfl⟩
  obtain ⟨b, hb⟩ : ∃ b, b = hi.map fun x => fbin .mul .f32 x 1065353216 := ⟨_, rfl⟩
  have la : a.length = lo.length := by rw [ha, List.length_map]
  have lb : b.length = hi.length := by rw [hb, List.length_map]
  obtain ⟨e1, he1⟩ : ∃ e1, e1 = (weighF 1 (fneg .f32 1048576000) (a, b)).1 := ⟨_, rfl⟩
  obtain ⟨o1, ho1⟩ : ∃ o1, o1 = (weighF 0 (fneg .f32 3204448256) (e1, b)).2 := ⟨_, rfl⟩
  have le1 : e1.length = a.length := by rw [he1]; exact weighF_len1 _ _ _
  have lo1 : o1.length = b.length := by rw [ho1]; exact weighF_len2 _ _ _
  have e : dropF linesW 1065353216 lo hi = wovL 0 e1 o1 e1.length := by
    have w1 : weighF 1 (fneg .f32 1048576000) (a, b) = (e1, b) := by rw [he1]; rfl
    have w2 : weighF 0 (fneg .f32 3204448256) (e1, b) = (e1, o1) := by rw [ho1]; rfl
    have w3 : weighDown linesW (a, b) linesW.length = (e1, o1) := by
      show weighF 0 (fneg .f32 3204448256) (weighF 1 (fneg .f32 1048576000) (a, b)) = _
      rw [w1, w2]
    unfold dropF
    rw [if_neg (by omega), ← ha, ← hb]
    simp only [w3]
  have A : ∀ j, j < a.length → FinW .f32 (a.getD j 0) ∧ vF a j = vF lw j := fun j hj => by
    have hm : a.getD j 0 = fbin .quo .f32 (lo.getD j 0) 1065353216 := by
      have : j < lo.length := by omega
      rw [ha]
      simp [List.getD_eq_getElem?_getD, this]
    unfold vF at *
    rw [hm]
    have := quo_one_ex (hv j (by omega)).1
    exact ⟨this.1, by rw [this.2, (hv j (by omega)).2]⟩
  have B : ∀ j, j < b.length → FinW .f32 (b.getD j 0) ∧ vF b j = vF hi j := fun j hj => by
    have hm : b.getD j 0 = fbin .mul .f32 (hi.getD j 0) 1065353216 := by
      have : j < hi.length := by omega
      rw [hb]
      simp [List.getD_eq_getElem?_getD, this]
    unfold vF
    rw [hm]
    exact mul_one_ex (q2 j (by omega)).1
  have C : ∀ j, j < e1.length → FinW .f32 (e1.getD j 0) ∧ vF e1 j = vF ev j := fun j hj => by
    have hj' : j < a.length := by omega
    obtain ⟨a1, a2⟩ := A j hj'
    obtain ⟨b1, b2⟩ := B (j - 1) (by omega)
    obtain ⟨c1, c2⟩ := B (min j (b.length - 1)) (by omega)
    have g0 := (q1 j (by omega)).2
    have gp := (q2 (j - 1) (by omega)).2
    have gq := (q2 (min j (b.length - 1)) (by omega)).2
    have ge := (he j (by omega)).2
    have q4' := q4 j (by omega)
    have em : min j (xs.length / 2 - 1) = min j (b.length - 1) := by omega
    rw [em] at q4'
    have g1 := gp.add gq
    have g2 := g1.part 2 (c := -1 / 4) (.inr (by rw [p2_q]; grind_linarith))
    have e3 : vF a j + -1 / 4 * (vF b (j - 1) + vF b (min j (b.length - 1))) = vF ev j := by rw [a2, b2, c2, q4']; grind_linarith
    have st := step_exact (s1 := s + 1) (s2 := s + 1 + 2) (s3 := s) a1 mquart_v b1 c1 (by change Gr _ _ (vF b (j - 1) + vF b (min j (b.length - 1))); rw [b2, c2]; exact g1.mono (by omega)) (by change Gr _ _ (-1 / 4 * (vF b (j - 1) + vF b (min j (b.length - 1)))); rw [b2, c2]; exact g2.mono (by omega))
      (by change Gr _ _ (vF a j + -1 / 4 * (vF b (j - 1) + vF b (min j (b.length - 1)))); rw [e3]; exact ge.mono (by omega)) (by omega) (by omega) (by omega)
    have hw : e1.getD j 0 = addF (a.getD j 0) (mulF (fneg .f32 1048576000) (addF (b.getD (j - 1) 0) (b.getD (min j (b.length - 1)) 0))) := by
      rw [he1, weigh1_at hj']; rfl
    unfold vF at e3 ⊢
    rw [hw]
    exact ⟨st.1, by rw [st.2, e3]⟩
  have D : ∀ j, j < o1.length → FinW .f32 (o1.getD j 0) ∧ vF o1 j = vF od j := fun j hj => by
    have hj' : j < b.length := by omega
    obtain ⟨a1, a2⟩ := B j hj'
    obtain ⟨b1, b2⟩ := C j (by omega)
    obtain ⟨c1, c2⟩ := C (min (j + 1) (e1.length - 1)) (by omega)
    have gp := (he j (by omega)).2
    have gq := (he (min (j + 1) (e1.length - 1)) (by omega)).2
    have go := (ho j (by omega)).2
    have q3' := q3 j (by omega)
    have em : min (j + 1) ((xs.length + 1) / 2 - 1) = min (j + 1) (e1.length - 1) := by omega
    rw [em] at q3'
    have g1 := gp.add gq
    have g2 := g1.part 1 (c := 1 / 2) (.inl (by rw [p2_h]))
    have e3 : vF b j + 1 / 2 * (vF e1 j + vF e1 (min (j + 1) (e1.length - 1))) = vF od j := by rw [a2, b2, c2, q3']; grind_linarith
    have st := step_exact (s1 := s) (s2 := s + 1) (s3 := s) a1 phalf_v b1 c1 (by change Gr _ _ (vF e1 j + vF e1 (min (j + 1) (e1.length - 1))); rw [b2, c2]; exact g1.mono (by omega)) (by change Gr _ _ (1 / 2 * (vF e1 j + vF e1 (min (j + 1) (e1.length - 1)))); rw [b2, c2]; exact g2.mono (by omega))
      (by change Gr _ _ (vF b j + 1 / 2 * (vF e1 j + vF e1 (min (j + 1) (e1.length - 1)))); rw [e3]; exact go.mono (by omega)) (by omega) (by omega) (by omega)
    have hw : o1.getD j 0 = addF (b.getD j 0) (mulF (fneg .f32 3204448256) (addF (e1.getD j 0) (e1.getD (min (j + 1) (e1.length - 1)) 0))) := by
      rw [ho1, weigh0_at hj']; rfl
    unfold vF at e3 ⊢
    rw [hw]
    exact ⟨st.1, by rw [st.2, e3]⟩
  rw [e]
  have hlen : (wovL 0 e1 o1 e1.length).length = xs.length := by rw [wovL_lens]; omega
  refine ⟨hlen, fun i hi' => ?_⟩
  have hat := wovL_at (d := 0) (ev := e1) (od := o1) e1.length (by omega) i (by omega)
  unfold vF
  rw [hat]
  by_cases c : i % 2 = 0
  · rw [if_pos c]
    have := C (i / 2) (by omega)
    refine ⟨this.1, ?_⟩
    have h3 := this.2
    rw [hxe (i / 2) (by omega), show 2 * (i / 2) = i by omega] at h3
    exact h3
  · rw [if_neg c]
    have := D (i / 2) (by omega)
    refine ⟨this.1, ?_⟩
    have h3 := this.2
    rw [hxo (i / 2) (by omega), show 2 * (i / 2) + 1 = i by omega] at h3
    exact h3
end Go.Gx
