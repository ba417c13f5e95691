/- The laws' helpers, over lists of integers and of truths. -/
import Derived.Test.YtkojmlpaamdhoacDropIntegersT
namespace Go.Proofs.Ytkojmlpaamdhoac
open Go.Gx
set_option maxRecDepth 100000
set_option linter.unusedSimpArgs false
set_option linter.unusedVariables false

theorem w_toInt64S_ok {H : Heap} {v : Value} {xs : List Int} (hv : IS H v xs) (hn : xs.length ≤ 2 ^ 40) :
    ACalls Try.prog n_w_toInt64S [v] H fun r H' => r = .slice (some ⟨H.n, 0, none⟩) xs.length xs.length ∧ H' = H.new ⟨true, t_int64, xs.map iv⟩ := by
  refine k_w_toInt64S.run rfl ?_
  unfold c_w_toInt64S
  simp (disch := first | assumption | omega | rfl | (refine id ?_; simp only [gxD, ne_eq, reduceCtorEq, not_false_eq_true, Nat.reduceAdd, *]; done) | (refine id ?_; simp only [gxD]; omega)) only [↓gxPre, gxPost, ↓reduceIte, Nat.reduceEqDiff, reduceCtorEq, Nat.reduceAdd, hv.len, eMks_i]
  refine loop_forH xs.length (fun i => [v, .slice (some ⟨H.n, 0, none⟩) xs.length xs.length, .int .i64 i]) (fun i H' => H' = H.new ⟨true, t_int64, overL (fun i => iv (xs.getD i 0)) i (List.replicate xs.length (.int .i64 0))⟩) rfl (by simp [overL_zero]) ?_ ?_
  · rintro _ rfl
    ((try simp (disch := first | assumption | omega | rfl | (refine id ?_; simp only [gxD, ne_eq, reduceCtorEq, not_false_eq_true, Nat.reduceAdd, *]; done) | (refine id ?_; simp only [gxD]; omega)) only [↓gxPre, gxPost, ↓reduceIte, Nat.reduceEqDiff, reduceCtorEq, Nat.reduceAdd, hv.len, Int.lt_irrefl, *]); repeat' (first | (refine grdR_split (fun _ => ?_) (fun _ => ?_) <;> simp (disch := first | assumption | omega | rfl | (refine id ?_; simp only [gxD, ne_eq, reduceCtorEq, not_false_eq_true, Nat.reduceAdd, *]; done) | (refine id ?_; simp only [gxD]; omega)) only [↓gxPre, gxPost, ↓reduceIte, Nat.reduceEqDiff, reduceCtorEq, Nat.reduceAdd, hv.len, Int.lt_irrefl, *]) | (refine condR_split (fun _ => ?_) (fun _ => ?_) <;> simp (disch := first | assumption | omega | rfl | (refine id ?_; simp only [gxD, ne_eq, reduceCtorEq, not_false_eq_true, Nat.reduceAdd, *]; done) | (refine id ?_; simp only [gxD]; omega)) only [↓gxPre, gxPost, ↓reduceIte, Nat.reduceEqDiff, reduceCtorEq, Nat.reduceAdd, hv.len, Int.lt_irrefl, *])))
    rw [overL_all _ _ _ (by simp), map_range_getD]
  · rintro i _ hi rfl
    have hv' := hv.ext (Ext.new H ⟨true, t_int64, overL (fun i => iv (xs.getD i 0)) i (List.replicate xs.length (.int .i64 0))⟩)
    have hl := overL_length (fun i => iv (xs.getD i 0)) i (List.replicate xs.length (.int .i64 0)) (by simp; omega)
    simp only [List.length_replicate] at hl
    ((try simp (disch := first | assumption | omega | rfl | (refine id ?_; simp only [gxD, ne_eq, reduceCtorEq, not_false_eq_true, Nat.reduceAdd, *]; done) | (refine id ?_; simp only [gxD]; omega)) only [↓gxPre, gxPost, ↓reduceIte, Nat.reduceEqDiff, reduceCtorEq, Nat.reduceAdd, hv.len, hv'.ia, hv'.ld, hl, *]); repeat' (first | (refine grdR_split (fun _ => ?_) (fun _ => ?_) <;> simp (disch := first | assumption | omega | rfl | (refine id ?_; simp only [gxD, ne_eq, reduceCtorEq, not_false_eq_true, Nat.reduceAdd, *]; done) | (refine id ?_; simp only [gxD]; omega)) only [↓gxPre, gxPost, ↓reduceIte, Nat.reduceEqDiff, reduceCtorEq, Nat.reduceAdd, hv.len, hv'.ia, hv'.ld, hl, *]) | (refine condR_split (fun _ => ?_) (fun _ => ?_) <;> simp (disch := first | assumption | omega | rfl | (refine id ?_; simp only [gxD, ne_eq, reduceCtorEq, not_false_eq_true, Nat.reduceAdd, *]; done) | (refine id ?_; simp only [gxD]; omega)) only [↓gxPre, gxPost, ↓reduceIte, Nat.reduceEqDiff, reduceCtorEq, Nat.reduceAdd, hv.len, hv'.ia, hv'.ld, hl, *])))
    have := overL_set (fun i => iv (xs.getD i 0)) i (List.replicate xs.length (.int .i64 0)) (by simpa using hi)
    simp only [iv] at this ⊢
    rw [this]
    simp
theorem w_toInt64S_ow {H : Heap} {v : Value} {xs : List Int} (hv : IS H v xs) (hn : xs.length ≤ 2 ^ 40) :
    ACalls Try.prog n_w_toInt64S [v] H fun r H' => Ext H H' ∧ OwL H.n H'.n H' t_int64 r (xs.map iv) := by
  refine (w_toInt64S_ok hv hn).mono ?_
  rintro _ _ ⟨rfl, rfl⟩
  exact ⟨.new _ _, .mk (new_self _ _) (by simp) (Nat.le_refl _) (by simp [new_n]) (by simp [new_n])⟩
end Go.Proofs.Ytkojmlpaamdhoac
