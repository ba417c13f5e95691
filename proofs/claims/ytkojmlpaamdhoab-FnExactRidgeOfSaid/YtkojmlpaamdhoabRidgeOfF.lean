/- Long lists and their maxima. -/
import Derived.Test.YtkojmlpaamdhoabRidgeOfB
namespace Go.Proofs.Ytkojmlpaamdhoab
open Go.Gx
set_option maxRecDepth 100000
set_option linter.unusedSimpArgs false
set_option linter.unusedVariables false

theorem s_l03Long_ok {H : Heap} {v : Value} {xs : List Nat} (hv : FS H v xs) (hn : xs.length ≤ 2 ^ 40) : ACalls Try.prog n_s_l03Long [v] H fun r H' => r = .bool (isLongF xs) ∧ H' = H := by
  refine k_s_l03Long.run rfl ?_
  unfold c_s_l03Long
  ((try simp (disch := first | assumption | omega | rfl | (refine id ?_; simp only [gxD, ne_eq, reduceCtorEq, not_false_eq_true, Nat.reduceAdd, *]; done) | (refine id ?_; simp only [gxD]; omega)) only [↓gxPre, gxPost, ↓reduceIte, Nat.reduceEqDiff, reduceCtorEq, Nat.reduceAdd, hv.len, *]); repeat' (first | (refine grdR_split (fun _ => ?_) (fun _ => ?_) <;> simp (disch := first | assumption | omega | rfl | (refine id ?_; simp only [gxD, ne_eq, reduceCtorEq, not_false_eq_true, Nat.reduceAdd, *]; done) | (refine id ?_; simp only [gxD]; omega)) only [↓gxPre, gxPost, ↓reduceIte, Nat.reduceEqDiff, reduceCtorEq, Nat.reduceAdd, hv.len, *]) | (refine condR_split (fun _ => ?_) (fun _ => ?_) <;> simp (disch := first | assumption | omega | rfl | (refine id ?_; simp only [gxD, ne_eq, reduceCtorEq, not_false_eq_true, Nat.reduceAdd, *]; done) | (refine id ?_; simp only [gxD]; omega)) only [↓gxPre, gxPost, ↓reduceIte, Nat.reduceEqDiff, reduceCtorEq, Nat.reduceAdd, hv.len, *]) | (refine callR_pure (s_l02Finite_ok hv hn) (by first | exact Or.inl rfl | (simp (disch := first | assumption | omega | rfl | (refine id ?_; simp only [gxD, ne_eq, reduceCtorEq, not_false_eq_true, Nat.reduceAdd, *]; done) | (refine id ?_; simp only [gxD]; omega)) only [↓gxPre, gxPost, ↓reduceIte, Nat.reduceEqDiff, reduceCtorEq, Nat.reduceAdd, hv.len, *]; done)) ?_; simp (disch := first | assumption | omega | rfl | (refine id ?_; simp only [gxD, ne_eq, reduceCtorEq, not_false_eq_true, Nat.reduceAdd, *]; done) | (refine id ?_; simp only [gxD]; omega)) only [↓gxPre, gxPost, ↓reduceIte, Nat.reduceEqDiff, reduceCtorEq, Nat.reduceAdd, hv.len, *])))
  all_goals (simp_all [isLongF, within]; try omega)
end Go.Proofs.Ytkojmlpaamdhoab
