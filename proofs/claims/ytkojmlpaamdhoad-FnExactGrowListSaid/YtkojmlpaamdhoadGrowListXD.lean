/- Lists grown. -/
import Derived.Test.YtkojmlpaamdhoadGrowListXC
namespace Go.Proofs.Ytkojmlpaamdhoad
open Go.Gx
set_option maxRecDepth 100000
set_option linter.unusedSimpArgs false
set_option linter.unusedVariables false

def zerosF (n : Nat) : List Nat := List.replicate n 0
theorem zerosF_length (n : Nat) : (zerosF n).length = n := by simp [zerosF]
theorem zerosF_map (n : Nat) : List.replicate n (Value.float .f32 0) = (zerosF n).map fv := rep_fv _
theorem zerosF_w (n : Nat) : W32 (zerosF n) := fun j => by
  unfold zerosF
  by_cases h : j < n <;> simp [List.getD_eq_getElem?_getD, h]
theorem zerosF_fin (n : Nat) : (zerosF n).all finF = true := by
  rw [List.all_eq_true]
  intro x hx
  rw [zerosF, List.mem_replicate] at hx
  rw [hx.2]
  decide
def growOk (ws : List Nat) (sc : Nat) (xs : List Nat) : Bool := isLongF xs && (decide (xs.length ≤ 64) && dropOk ws sc xs (zerosF xs.length))
theorem isLong_fin {xs : List Nat} (h : isLongF xs = true) : xs.all finF = true := by
  unfold isLongF at h
  rw [Bool.and_eq_true] at h
  exact h.2
theorem fit_same {n : Nat} (h : 1 ≤ n) (h' : n ≤ 64) : fitF n n = true := by
  unfold fitF
  rw [decide_eq_true h, decide_eq_true (show n = n from rfl), decide_eq_true (show n + n ≤ 128 by omega)]
  rfl
theorem i_GrowList_law {H : Heap} {v0 v1 : Value} {xs0 xs1 : List Nat} {a0 : Nat} (A0 : AF H v0 xs0) (b0 : a0 < 2 ^ 32) (A1 : AF H v1 xs1) :
    ACalls Try.prog n_i_GrowList [.agg #[v0, .float .f32 a0], v1] H fun r H' => ListR fv t_float32 H (growOk xs0 a0 xs1) (dropF xs0 a0 xs1 (zerosF xs1.length)) r H' := by
  refine k_i_GrowList.run rfl ?_
  unfold c_i_GrowList
  have o0 := A0.rd.one
  simp (disch := first | assumption | omega | rfl | (refine id ?_; simp only [gxD, ne_eq, reduceCtorEq, not_false_eq_true, Nat.reduceAdd, *]; done) | (refine id ?_; simp only [gxD]; omega)) only [↓gxPre, gxPost, ↓reduceIte, Nat.reduceEqDiff, reduceCtorEq, Nat.reduceAdd]
  refine callR_new ?_
  intro G e0 hb n0
  refine callR_ext (i_IsList_ok (A1.rd.ext e0) A1.le) ?_
  intro H1 n1 bb1
  have e1 := e0.trans ⟨n1, bb1⟩
  have hb1 := (bb1 _ (by omega)).trans hb
  cases h1 : isLongF xs1
  · simp (disch := first | assumption | omega | rfl | (refine id ?_; simp only [gxD, ne_eq, reduceCtorEq, not_false_eq_true, Nat.reduceAdd, *]; done) | (refine id ?_; simp only [gxD]; omega)) only [↓gxPre, gxPost, ↓reduceIte, Nat.reduceEqDiff, reduceCtorEq, Nat.reduceAdd]
    exact .no (by simp only [growOk, h1, Bool.false_and, Bool.true_and, Bool.and_true, Bool.and_false, Bool.or_true, Bool.true_or, Bool.false_or, Bool.or_false, Bool.and_self, Bool.or_self]) e1
  obtain ⟨hl, hl1⟩ := isLong_len h1
  simp (disch := first | assumption | omega | rfl | (refine id ?_; simp only [gxD, ne_eq, reduceCtorEq, not_false_eq_true, Nat.reduceAdd, *]; done) | (refine id ?_; simp only [gxD]; omega)) only [↓gxPre, gxPost, ↓reduceIte, Nat.reduceEqDiff, reduceCtorEq, Nat.reduceAdd, A1.rd.len]
  by_cases h2 : xs1.length ≤ 64
  rotate_left
  · have h2' : (64 : Int) < xs1.length := by omega
    simp (disch := first | assumption | omega | rfl | (refine id ?_; simp only [gxD, ne_eq, reduceCtorEq, not_false_eq_true, Nat.reduceAdd, *]; done) | (refine id ?_; simp only [gxD]; omega)) only [↓gxPre, gxPost, ↓reduceIte, Nat.reduceEqDiff, reduceCtorEq, Nat.reduceAdd, h2']
    exact .no (by simp only [growOk, decide_eq_false h2, Bool.false_and, Bool.true_and, Bool.and_true, Bool.and_false, Bool.or_true, Bool.true_or, Bool.false_or, Bool.or_false, Bool.and_self, Bool.or_self]) e1
  have h2' : ¬ (64 : Int) < xs1.length := by omega
  have hmk : ∀ G, eMks t_float32 4 (.float .f32 0) (.int .i64 (xs1.length : Int)) (.int .i64 (xs1.length : Int)) G = some (.slice (some ⟨G.n, 0, none⟩) xs1.length xs1.length, G.new ⟨true, t_float32, (zerosF xs1.length).map fv⟩) := fun G => by
    rw [← zerosF_map]
    exact eMks_i (by omega)
  simp (disch := first | assumption | omega | rfl | (refine id ?_; simp only [gxD, ne_eq, reduceCtorEq, not_false_eq_true, Nat.reduceAdd, *]; done) | (refine id ?_; simp only [gxD]; omega)) only [↓gxPre, gxPost, ↓reduceIte, Nat.reduceEqDiff, reduceCtorEq, Nat.reduceAdd, h2', hb1, A1.rd.len, hmk]
  have eZ : Ext H1 (H1.new ⟨true, t_float32, (zerosF xs1.length).map fv⟩) := .new _ _
  have e2 := e1.trans eZ
  refine callR_of (i_DropOnce_law ⟨A0.rd.ext e2, A0.le, A0.w⟩ b0 ⟨A1.rd.ext e2, A1.le, A1.w⟩ ⟨FS.own (new_self _ _) (by first | omega | (simp only [new_n, put_n]; omega)) (zerosF_length _), by rw [zerosF_length]; omega, zerosF_w _⟩) ?_
  rintro _ M ⟨e3, v, rfl, o, q⟩
  have hO : growOk xs0 a0 xs1 = dropOk xs0 a0 xs1 (zerosF xs1.length) := by simp only [growOk, h1, decide_eq_true h2, Bool.false_and, Bool.true_and, Bool.and_true, Bool.and_false, Bool.or_true, Bool.true_or, Bool.false_or, Bool.or_false, Bool.and_self, Bool.or_self]
  rw [hO]
  have hn := e2.n
  simp (disch := first | assumption | omega | rfl | (refine id ?_; simp only [gxD, ne_eq, reduceCtorEq, not_false_eq_true, Nat.reduceAdd, *]; done) | (refine id ?_; simp only [gxD]; omega)) only [↓gxPre, gxPost, ↓reduceIte, Nat.reduceEqDiff, reduceCtorEq, Nat.reduceAdd]
  exact ⟨e2.trans e3, _, rfl, o.wide hn (Nat.le_refl _), q⟩
theorem s_GrowList_law {H : Heap} {v0 v1 : Value} {xs0 xs1 : List Nat} {a0 : Nat} (A0 : AF H v0 xs0) (b0 : a0 < 2 ^ 32) (A1 : AF H v1 xs1) :
    ACalls Try.prog n_s_GrowList [.agg #[v0, .float .f32 a0], v1] H fun r H' => ListR fv t_float32 H (growOk xs0 a0 xs1) (dropF xs0 a0 xs1 (zerosF xs1.length)) r H' := by
  refine k_s_GrowList.run rfl ?_
  unfold c_s_GrowList
  have o0 := A0.rd.one
  simp (disch := first | assumption | omega | rfl | (refine id ?_; simp only [gxD, ne_eq, reduceCtorEq, not_false_eq_true, Nat.reduceAdd, *]; done) | (refine id ?_; simp only [gxD]; omega)) only [↓gxPre, gxPost, ↓reduceIte, Nat.reduceEqDiff, reduceCtorEq, Nat.reduceAdd]
  refine callR_new ?_
  intro G e0 hb n0
  refine callR_pure (s_l02Scheme_ok hb (A0.rd.ext e0) A0.le) (.inl rfl) ?_
  cases h0 : schemeF xs0 a0
  · simp (disch := first | assumption | omega | rfl | (refine id ?_; simp only [gxD, ne_eq, reduceCtorEq, not_false_eq_true, Nat.reduceAdd, *]; done) | (refine id ?_; simp only [gxD]; omega)) only [↓gxPre, gxPost, ↓reduceIte, Nat.reduceEqDiff, reduceCtorEq, Nat.reduceAdd]
    exact .no (by simp only [growOk, dropOk, h0, Bool.false_and, Bool.true_and, Bool.and_true, Bool.and_false, Bool.or_true, Bool.true_or, Bool.false_or, Bool.or_false, Bool.and_self, Bool.or_self]) e0
  have h01 : (1 : Int) ≤ xs0.length ∧ (xs0.length : Int) ≤ 8 := by
    unfold schemeF at h0
    simp only [Bool.and_eq_true] at h0
    exact within_true.1 h0.1.1
  simp (disch := first | assumption | omega | rfl | (refine id ?_; simp only [gxD, ne_eq, reduceCtorEq, not_false_eq_true, Nat.reduceAdd, *]; done) | (refine id ?_; simp only [gxD]; omega)) only [↓gxPre, gxPost, ↓reduceIte, Nat.reduceEqDiff, reduceCtorEq, Nat.reduceAdd]
  refine callR_pure (s_l02Is_ok (A1.rd.ext e0) A1.le) (.inl rfl) ?_
  cases h1 : isLongF xs1
  · simp (disch := first | assumption | omega | rfl | (refine id ?_; simp only [gxD, ne_eq, reduceCtorEq, not_false_eq_true, Nat.reduceAdd, *]; done) | (refine id ?_; simp only [gxD]; omega)) only [↓gxPre, gxPost, ↓reduceIte, Nat.reduceEqDiff, reduceCtorEq, Nat.reduceAdd]
    exact .no (by simp only [growOk, h1, Bool.false_and, Bool.true_and, Bool.and_true, Bool.and_false, Bool.or_true, Bool.true_or, Bool.false_or, Bool.or_false, Bool.and_self, Bool.or_self]) e0
  obtain ⟨hl, hl1⟩ := isLong_len h1
  simp (disch := first | assumption | omega | rfl | (refine id ?_; simp only [gxD, ne_eq, reduceCtorEq, not_false_eq_true, Nat.reduceAdd, *]; done) | (refine id ?_; simp only [gxD]; omega)) only [↓gxPre, gxPost, ↓reduceIte, Nat.reduceEqDiff, reduceCtorEq, Nat.reduceAdd, A1.rd.len]
  by_cases h2 : xs1.length ≤ 64
  rotate_left
  · have h2' : (64 : Int) < xs1.length := by omega
    simp (disch := first | assumption | omega | rfl | (refine id ?_; simp only [gxD, ne_eq, reduceCtorEq, not_false_eq_true, Nat.reduceAdd, *]; done) | (refine id ?_; simp only [gxD]; omega)) only [↓gxPre, gxPost, ↓reduceIte, Nat.reduceEqDiff, reduceCtorEq, Nat.reduceAdd, h2']
    exact .no (by simp only [growOk, decide_eq_false h2, Bool.false_and, Bool.true_and, Bool.and_true, Bool.and_false, Bool.or_true, Bool.true_or, Bool.false_or, Bool.or_false, Bool.and_self, Bool.or_self]) e0
  have h2' : ¬ (64 : Int) < xs1.length := by omega
  have hmk : ∀ G, eMks t_float32 4 (.float .f32 0) (.int .i64 (xs1.length : Int)) (.int .i64 (xs1.length : Int)) G = some (.slice (some ⟨G.n, 0, none⟩) xs1.length xs1.length, G.new ⟨true, t_float32, (zerosF xs1.length).map fv⟩) := fun G => by
    rw [← zerosF_map]
    exact eMks_i (by omega)
  simp (disch := first | assumption | omega | rfl | (refine id ?_; simp only [gxD, ne_eq, reduceCtorEq, not_false_eq_true, Nat.reduceAdd, *]; done) | (refine id ?_; simp only [gxD]; omega)) only [↓gxPre, gxPost, ↓reduceIte, Nat.reduceEqDiff, reduceCtorEq, Nat.reduceAdd, h2', A1.rd.len, hmk]
  have eZ : Ext G (G.new ⟨true, t_float32, (zerosF xs1.length).map fv⟩) := .new _ _
  have e2 := e0.trans eZ
  have hb2 := (eZ.blk _ (by omega)).trans hb
  have lz := zerosF_length xs1.length
  refine callR_of (s_l02DropOnce_ok hb2 (by first | omega | (simp only [new_n, put_n]; omega)) ⟨A0.rd.ext e2, A0.le, A0.w⟩ (by omega) (by omega) ⟨A1.rd.ext e2, A1.le, A1.w⟩ ⟨FS.own (new_self _ _) (by first | omega | (simp only [new_n, put_n]; omega)) (zerosF_length _), by rw [zerosF_length]; omega, zerosF_w _⟩ (by omega) (by omega) (by omega)) ?_
  rintro _ M ⟨e3, v, rfl, o, q⟩
  have hO : growOk xs0 a0 xs1 = (dropF xs0 a0 xs1 (zerosF xs1.length)).all finF := by simp only [growOk, dropOk, h0, h1, decide_eq_true h2, lz, fit_same hl1 h2, isLong_fin h1, zerosF_fin, Bool.false_and, Bool.true_and, Bool.and_true, Bool.and_false, Bool.or_true, Bool.true_or, Bool.false_or, Bool.or_false, Bool.and_self, Bool.or_self]
  rw [hO]
  have hn := e2.n
  simp (disch := first | assumption | omega | rfl | (refine id ?_; simp only [gxD, ne_eq, reduceCtorEq, not_false_eq_true, Nat.reduceAdd, *]; done) | (refine id ?_; simp only [gxD]; omega)) only [↓gxPre, gxPost, ↓reduceIte, Nat.reduceEqDiff, reduceCtorEq, Nat.reduceAdd]
  exact ⟨e2.trans e3, _, rfl, o.wide hn (Nat.le_refl _), q⟩
end Go.Proofs.Ytkojmlpaamdhoad
