/- What functions of pictures and pairs do. -/
import Derived.Test.YtkojmlpaamdhoabRoughestPlaceB
namespace Go.Proofs.Ytkojmlpaamdhoab
open Go.Gx
set_option maxRecDepth 100000
set_option linter.unusedSimpArgs false
set_option linter.unusedVariables false

theorem i_areLevels_ok {H : Heap} {a : Int} : ACalls Try.prog n_i_areLevels [.int .i64 a] H fun r H' => r = .bool (within a 1 4) ∧ H' = H := by
  refine k_i_areLevels.run rfl ?_
  unfold c_i_areLevels
  ((try simp (disch := first | assumption | omega | rfl | (refine id ?_; simp only [gxD, ne_eq, reduceCtorEq, not_false_eq_true, Nat.reduceAdd, *]; done) | (refine id ?_; simp only [gxD]; omega)) only [↓gxPre, gxPost, ↓reduceIte, Nat.reduceEqDiff, reduceCtorEq, Nat.reduceAdd, *]); repeat' (first | (refine grdR_split (fun _ => ?_) (fun _ => ?_) <;> simp (disch := first | assumption | omega | rfl | (refine id ?_; simp only [gxD, ne_eq, reduceCtorEq, not_false_eq_true, Nat.reduceAdd, *]; done) | (refine id ?_; simp only [gxD]; omega)) only [↓gxPre, gxPost, ↓reduceIte, Nat.reduceEqDiff, reduceCtorEq, Nat.reduceAdd, *]) | (refine condR_split (fun _ => ?_) (fun _ => ?_) <;> simp (disch := first | assumption | omega | rfl | (refine id ?_; simp only [gxD, ne_eq, reduceCtorEq, not_false_eq_true, Nat.reduceAdd, *]; done) | (refine id ?_; simp only [gxD]; omega)) only [↓gxPre, gxPost, ↓reduceIte, Nat.reduceEqDiff, reduceCtorEq, Nat.reduceAdd, *]) | (refine callR_pure (i_within_ok) (by first | exact Or.inl rfl | (simp (disch := first | assumption | omega | rfl | (refine id ?_; simp only [gxD, ne_eq, reduceCtorEq, not_false_eq_true, Nat.reduceAdd, *]; done) | (refine id ?_; simp only [gxD]; omega)) only [↓gxPre, gxPost, ↓reduceIte, Nat.reduceEqDiff, reduceCtorEq, Nat.reduceAdd, *]; done)) ?_; simp (disch := first | assumption | omega | rfl | (refine id ?_; simp only [gxD, ne_eq, reduceCtorEq, not_false_eq_true, Nat.reduceAdd, *]; done) | (refine id ?_; simp only [gxD]; omega)) only [↓gxPre, gxPost, ↓reduceIte, Nat.reduceEqDiff, reduceCtorEq, Nat.reduceAdd, *])))
theorem s_l04Levels_ok {H : Heap} {a : Int} : ACalls Try.prog n_s_l04Levels [.int .i64 a] H fun r H' => r = .bool (within a 1 4) ∧ H' = H := by
  refine k_s_l04Levels.run rfl ?_
  unfold c_s_l04Levels
  ((try simp (disch := first | assumption | omega | rfl | (refine id ?_; simp only [gxD, ne_eq, reduceCtorEq, not_false_eq_true, Nat.reduceAdd, *]; done) | (refine id ?_; simp only [gxD]; omega)) only [↓gxPre, gxPost, ↓reduceIte, Nat.reduceEqDiff, reduceCtorEq, Nat.reduceAdd, *]); repeat' (first | (refine grdR_split (fun _ => ?_) (fun _ => ?_) <;> simp (disch := first | assumption | omega | rfl | (refine id ?_; simp only [gxD, ne_eq, reduceCtorEq, not_false_eq_true, Nat.reduceAdd, *]; done) | (refine id ?_; simp only [gxD]; omega)) only [↓gxPre, gxPost, ↓reduceIte, Nat.reduceEqDiff, reduceCtorEq, Nat.reduceAdd, *]) | (refine condR_split (fun _ => ?_) (fun _ => ?_) <;> simp (disch := first | assumption | omega | rfl | (refine id ?_; simp only [gxD, ne_eq, reduceCtorEq, not_false_eq_true, Nat.reduceAdd, *]; done) | (refine id ?_; simp only [gxD]; omega)) only [↓gxPre, gxPost, ↓reduceIte, Nat.reduceEqDiff, reduceCtorEq, Nat.reduceAdd, *]) | (refine callR_pure (s_l00In_ok) (by first | exact Or.inl rfl | (simp (disch := first | assumption | omega | rfl | (refine id ?_; simp only [gxD, ne_eq, reduceCtorEq, not_false_eq_true, Nat.reduceAdd, *]; done) | (refine id ?_; simp only [gxD]; omega)) only [↓gxPre, gxPost, ↓reduceIte, Nat.reduceEqDiff, reduceCtorEq, Nat.reduceAdd, *]; done)) ?_; simp (disch := first | assumption | omega | rfl | (refine id ?_; simp only [gxD, ne_eq, reduceCtorEq, not_false_eq_true, Nat.reduceAdd, *]; done) | (refine id ?_; simp only [gxD]; omega)) only [↓gxPre, gxPost, ↓reduceIte, Nat.reduceEqDiff, reduceCtorEq, Nat.reduceAdd, *])))
theorem i_halfOf_ok {H : Heap} {a t : Int} (ha : 0 ≤ a) (hb : a ≤ 2 ^ 40) (h0 : 0 ≤ t) (h1 : t ≤ 2 ^ 40) : ACalls Try.prog n_i_halfOf [.int .i64 a, .int .i64 t] H fun r H' => r = .int .i64 (halfN a t.toNat) ∧ H' = H := by
  refine k_i_halfOf.run rfl ?_
  unfold c_i_halfOf
  simp (disch := first | assumption | omega | rfl | (refine id ?_; simp only [gxD, ne_eq, reduceCtorEq, not_false_eq_true, Nat.reduceAdd, *]; done) | (refine id ?_; simp only [gxD]; omega)) only [↓gxPre, gxPost, ↓reduceIte, Nat.reduceEqDiff, reduceCtorEq, Nat.reduceAdd]
  refine loop_forH t.toNat (fun i => [.int .i64 (halfN a i), .int .i64 t, .int .i64 i]) (fun i H' => H = H') (by simp [halfN]) rfl ?_ ?_
  · rintro _ rfl
    have hx := halfN_pos ha t.toNat
    simp (disch := first | assumption | omega | rfl | (refine id ?_; simp only [gxD, ne_eq, reduceCtorEq, not_false_eq_true, Nat.reduceAdd, *]; done) | (refine id ?_; simp only [gxD]; omega)) only [↓gxPre, gxPost, ↓reduceIte, Nat.reduceEqDiff, reduceCtorEq, Nat.reduceAdd]
  · rintro i _ hi rfl
    have hx := halfN_pos ha i
    have hy := halfN_le ha i
    have hd : (halfN a i + 1).tdiv 2 = (halfN a i + 1) / 2 := Int.tdiv_eq_ediv_of_nonneg (by omega)
    simp (disch := first | assumption | omega | rfl | (refine id ?_; simp only [gxD, ne_eq, reduceCtorEq, not_false_eq_true, Nat.reduceAdd, *]; done) | (refine id ?_; simp only [gxD]; omega)) only [↓gxPre, gxPost, ↓reduceIte, Nat.reduceEqDiff, reduceCtorEq, Nat.reduceAdd, hd]
    simp [halfN]
theorem s_l04Halves_ok {H : Heap} {a b t : Int} (ha : 0 ≤ a) (hb : a ≤ 2 ^ 40) (ha' : 0 ≤ b) (hb' : b ≤ 2 ^ 40) (h0 : 0 ≤ t) (h1 : t ≤ 2 ^ 40) :
    ACalls Try.prog n_s_l04Halves [.int .i64 a, .int .i64 b, .int .i64 t] H fun r H' => r = .tuple #[.int .i64 (halfN a t.toNat), .int .i64 (halfN b t.toNat)] ∧ H' = H := by
  refine k_s_l04Halves.run rfl ?_
  unfold c_s_l04Halves
  simp (disch := first | assumption | omega | rfl | (refine id ?_; simp only [gxD, ne_eq, reduceCtorEq, not_false_eq_true, Nat.reduceAdd, *]; done) | (refine id ?_; simp only [gxD]; omega)) only [↓gxPre, gxPost, ↓reduceIte, Nat.reduceEqDiff, reduceCtorEq, Nat.reduceAdd]
  refine loop_forH t.toNat (fun i => [.int .i64 (halfN a i), .int .i64 (halfN b i), .int .i64 t, .int .i64 i]) (fun i H' => H = H') (by simp [halfN]) rfl ?_ ?_
  · rintro _ rfl
    simp (disch := first | assumption | omega | rfl | (refine id ?_; simp only [gxD, ne_eq, reduceCtorEq, not_false_eq_true, Nat.reduceAdd, *]; done) | (refine id ?_; simp only [gxD]; omega)) only [↓gxPre, gxPost, ↓reduceIte, Nat.reduceEqDiff, reduceCtorEq, Nat.reduceAdd]
  · rintro i _ hi rfl
    have hx := halfN_pos ha i
    have hy := halfN_le ha i
    have hd : (halfN a i + 1).tdiv 2 = (halfN a i + 1) / 2 := Int.tdiv_eq_ediv_of_nonneg (by omega)
    have hx' := halfN_pos ha' i
    have hy' := halfN_le ha' i
    have hd' : (halfN b i + 1).tdiv 2 = (halfN b i + 1) / 2 := Int.tdiv_eq_ediv_of_nonneg (by omega)
    simp (disch := first | assumption | omega | rfl | (refine id ?_; simp only [gxD, ne_eq, reduceCtorEq, not_false_eq_true, Nat.reduceAdd, *]; done) | (refine id ?_; simp only [gxD]; omega)) only [↓gxPre, gxPost, ↓reduceIte, Nat.reduceEqDiff, reduceCtorEq, Nat.reduceAdd, hd, hd']
    simp [halfN]
end Go.Proofs.Ytkojmlpaamdhoab
