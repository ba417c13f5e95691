/- The law FnExactRegionOf, walked: it returns true. -/
import Derived.Test.YtkojmlpaamdhoaaRegionOfC
namespace Go.Proofs.Ytkojmlpaamdhoaa
open Go.Gx
set_option maxRecDepth 100000
set_option linter.unusedSimpArgs false
set_option linter.unusedVariables false
theorem w_FnExactRegionOf_ok {H : Heap} {a0 : Int} (b0 : -9223372036854775808 ≤ a0 ∧ a0 ≤ 9223372036854775807) {a1 : Int} (b1 : -9223372036854775808 ≤ a1 ∧ a1 ≤ 9223372036854775807) {a2 : Int} (b2 : -9223372036854775808 ≤ a2 ∧ a2 ≤ 9223372036854775807) {a3 : Int} (b3 : -9223372036854775808 ≤ a3 ∧ a3 ≤ 9223372036854775807) : ACalls Try.prog n_w_FnExactRegionOf [.int .i64 a0, .int .i64 a1, .int .i64 a2, .int .i64 a3] H fun r H' => r = .bool true := by
  refine k_w_FnExactRegionOf.run rfl ?_
  unfold c_w_FnExactRegionOf
  obtain ⟨x, q, hx⟩ : ∃ x q, regionV a0 a1 a2 a3 = tup5 x q := by
    unfold regionV; split <;> exact ⟨_, _, rfl⟩
  simp (disch := first | assumption | omega | rfl | (refine id ?_; simp only [gxD, ne_eq, reduceCtorEq, not_false_eq_true, Nat.reduceAdd, *]; done) | (refine id ?_; simp only [gxD]; omega)) only [↓gxPre, gxPost, ↓reduceIte, Nat.reduceEqDiff, reduceCtorEq, Nat.reduceAdd]
  refine callR_pure s_RegionOf_ok (.inl rfl) ?_
  rw [hx]
  simp (disch := first | assumption | omega | rfl | (refine id ?_; simp only [gxD, ne_eq, reduceCtorEq, not_false_eq_true, Nat.reduceAdd, *]; done) | (refine id ?_; simp only [gxD]; omega)) only [↓gxPre, gxPost, ↓reduceIte, Nat.reduceEqDiff, reduceCtorEq, Nat.reduceAdd, tup5]
  refine callR_pure i_RegionOf_ok (.inl rfl) ?_
  rw [hx]
  simp (disch := first | assumption | omega | rfl | (refine id ?_; simp only [gxD, ne_eq, reduceCtorEq, not_false_eq_true, Nat.reduceAdd, *]; done) | (refine id ?_; simp only [gxD]; omega)) only [↓gxPre, gxPost, ↓reduceIte, Nat.reduceEqDiff, reduceCtorEq, Nat.reduceAdd, tup5, ne_eq, not_true]
end Go.Proofs.Ytkojmlpaamdhoaa
