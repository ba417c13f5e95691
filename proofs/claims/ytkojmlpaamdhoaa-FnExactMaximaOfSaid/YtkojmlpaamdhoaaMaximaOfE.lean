/- Energies and steps of pictures. -/
import Derived.Test.YtkojmlpaamdhoaaMaximaOfB
namespace Go.Proofs.Ytkojmlpaamdhoaa
open Go.Gx
set_option maxRecDepth 100000
set_option linter.unusedSimpArgs false
set_option linter.unusedVariables false

theorem s_l03Size_ok {H : Heap} {x : Nat} (hx : x < 2 ^ 32) : ACalls Try.prog n_s_l03Size [.float .f32 x] H fun r H' => r = .float .f32 (sizeF x) ∧ H' = H := by
  refine k_s_l03Size.run rfl ?_
  unfold c_s_l03Size
  rw [← size_same hx]
  ((try simp (disch := first | assumption | omega | rfl | (refine id ?_; simp only [gxD, ne_eq, reduceCtorEq, not_false_eq_true, Nat.reduceAdd, *]; done) | (refine id ?_; simp only [gxD]; omega)) only [↓gxPre, gxPost, ↓reduceIte, Nat.reduceEqDiff, reduceCtorEq, Nat.reduceAdd, *]); repeat' (first | (refine grdR_split (fun _ => ?_) (fun _ => ?_) <;> simp (disch := first | assumption | omega | rfl | (refine id ?_; simp only [gxD, ne_eq, reduceCtorEq, not_false_eq_true, Nat.reduceAdd, *]; done) | (refine id ?_; simp only [gxD]; omega)) only [↓gxPre, gxPost, ↓reduceIte, Nat.reduceEqDiff, reduceCtorEq, Nat.reduceAdd, *]) | (refine condR_split (fun _ => ?_) (fun _ => ?_) <;> simp (disch := first | assumption | omega | rfl | (refine id ?_; simp only [gxD, ne_eq, reduceCtorEq, not_false_eq_true, Nat.reduceAdd, *]; done) | (refine id ?_; simp only [gxD]; omega)) only [↓gxPre, gxPost, ↓reduceIte, Nat.reduceEqDiff, reduceCtorEq, Nat.reduceAdd, *])))
  all_goals simp_all [sizeS]
theorem s_l03Maxima_ok {H : Heap} {v : Value} {xs : List Nat} (hv : FS H v xs) (hn : xs.length ≤ 2 ^ 40) (hw : W32 xs) :
    ACalls Try.prog n_s_l03Maxima [v] H fun r H' => Ext H H' ∧ ∃ h, H.n ≤ h ∧ h < H'.n ∧ r = .slice (some ⟨h, 0, none⟩) (maximaL xs xs.length).length (maximaL xs xs.length).length ∧ H'.blk h = some ⟨true, t_int64, (maximaL xs xs.length).map iv⟩ := by
  refine k_s_l03Maxima.run rfl ?_
  unfold c_s_l03Maxima
  simp (disch := first | assumption | omega | rfl | (refine id ?_; simp only [gxD, ne_eq, reduceCtorEq, not_false_eq_true, Nat.reduceAdd, *]; done) | (refine id ?_; simp only [gxD]; omega)) only [↓gxPre, gxPost, ↓reduceIte, Nat.reduceEqDiff, reduceCtorEq, Nat.reduceAdd, hv.len]
  refine loop_forH xs.length (fun i => [v, .slice (some ⟨H.n, 0, none⟩) (maximaL xs i).length (maximaL xs i).length, .int .i64 xs.length, .int .i64 i]) (fun i H' => H.n + 1 ≤ H'.n ∧ H'.blk H.n = some ⟨true, t_int64, (maximaL xs i).map iv⟩ ∧ ∀ k, k < H.n → H'.blk k = H.blk k) rfl ⟨by simp only [new_n]; omega, by simp (disch := first | assumption | omega | rfl | (refine id ?_; simp only [gxD, ne_eq, reduceCtorEq, not_false_eq_true, Nat.reduceAdd, *]; done) | (refine id ?_; simp only [gxD]; omega)) only [↓gxPre, gxPost, ↓reduceIte, Nat.reduceEqDiff, reduceCtorEq, Nat.reduceAdd, maximaL_zero, List.map_nil], fun k hk => by simp (disch := first | assumption | omega | rfl | (refine id ?_; simp only [gxD, ne_eq, reduceCtorEq, not_false_eq_true, Nat.reduceAdd, *]; done) | (refine id ?_; simp only [gxD]; omega)) only [↓gxPre, gxPost, ↓reduceIte, Nat.reduceEqDiff, reduceCtorEq, Nat.reduceAdd]⟩ ?_ ?_
  · rintro G ⟨g1, g2, g3⟩
    simp (disch := first | assumption | omega | rfl | (refine id ?_; simp only [gxD, ne_eq, reduceCtorEq, not_false_eq_true, Nat.reduceAdd, *]; done) | (refine id ?_; simp only [gxD]; omega)) only [↓gxPre, gxPost, ↓reduceIte, Nat.reduceEqDiff, reduceCtorEq, Nat.reduceAdd, Int.lt_irrefl]
    exact ⟨⟨by omega, g3⟩, H.n, by omega, by omega, rfl, g2⟩
  · rintro i G hi ⟨g1, g2, g3⟩
    have hu : FS G v xs := hv.ext ⟨by omega, g3⟩
    have hlen := maximaL_len xs i
    have e0 : i = 0 ∨ 0 < i := by omega
    have e1 : (((i : Int) - 1).toNat) = i - 1 := by omega
    have e2 : (((i : Int) + 1).toNat) = i + 1 := by omega
    ((try simp (disch := first | assumption | omega | rfl | (refine id ?_; simp only [gxD, ne_eq, reduceCtorEq, not_false_eq_true, Nat.reduceAdd, *]; done) | (refine id ?_; simp only [gxD]; omega)) only [↓gxPre, gxPost, ↓reduceIte, Nat.reduceEqDiff, reduceCtorEq, Nat.reduceAdd, hi, hv.len, hu.len, hu.ia, hu.ld, *]); repeat' (first | (refine grdR_splitE (fun _ _ => ?_) (fun _ => ?_) <;> simp (disch := first | assumption | omega | rfl | (refine id ?_; simp only [gxD, ne_eq, reduceCtorEq, not_false_eq_true, Nat.reduceAdd, *]; done) | (refine id ?_; simp only [gxD]; omega)) only [↓gxPre, gxPost, ↓reduceIte, Nat.reduceEqDiff, reduceCtorEq, Nat.reduceAdd, hi, hv.len, hu.len, hu.ia, hu.ld, *]) | (refine condR_splitE (fun _ _ => ?_) (fun _ => ?_) <;> simp (disch := first | assumption | omega | rfl | (refine id ?_; simp only [gxD, ne_eq, reduceCtorEq, not_false_eq_true, Nat.reduceAdd, *]; done) | (refine id ?_; simp only [gxD]; omega)) only [↓gxPre, gxPost, ↓reduceIte, Nat.reduceEqDiff, reduceCtorEq, Nat.reduceAdd, hi, hv.len, hu.len, hu.ia, hu.ld, *]) | (refine grdR_splitD (fun _ => ?_) (fun _ => ?_) <;> simp (disch := first | assumption | omega | rfl | (refine id ?_; simp only [gxD, ne_eq, reduceCtorEq, not_false_eq_true, Nat.reduceAdd, *]; done) | (refine id ?_; simp only [gxD]; omega)) only [↓gxPre, gxPost, ↓reduceIte, Nat.reduceEqDiff, reduceCtorEq, Nat.reduceAdd, hi, hv.len, hu.len, hu.ia, hu.ld, *]) | (refine condR_splitD (fun _ => ?_) (fun _ => ?_) <;> simp (disch := first | assumption | omega | rfl | (refine id ?_; simp only [gxD, ne_eq, reduceCtorEq, not_false_eq_true, Nat.reduceAdd, *]; done) | (refine id ?_; simp only [gxD]; omega)) only [↓gxPre, gxPost, ↓reduceIte, Nat.reduceEqDiff, reduceCtorEq, Nat.reduceAdd, hi, hv.len, hu.len, hu.ia, hu.ld, *]) | (refine grdR_split (fun _ => ?_) (fun _ => ?_) <;> simp (disch := first | assumption | omega | rfl | (refine id ?_; simp only [gxD, ne_eq, reduceCtorEq, not_false_eq_true, Nat.reduceAdd, *]; done) | (refine id ?_; simp only [gxD]; omega)) only [↓gxPre, gxPost, ↓reduceIte, Nat.reduceEqDiff, reduceCtorEq, Nat.reduceAdd, hi, hv.len, hu.len, hu.ia, hu.ld, *]) | (refine condR_split (fun _ => ?_) (fun _ => ?_) <;> simp (disch := first | assumption | omega | rfl | (refine id ?_; simp only [gxD, ne_eq, reduceCtorEq, not_false_eq_true, Nat.reduceAdd, *]; done) | (refine id ?_; simp only [gxD]; omega)) only [↓gxPre, gxPost, ↓reduceIte, Nat.reduceEqDiff, reduceCtorEq, Nat.reduceAdd, hi, hv.len, hu.len, hu.ia, hu.ld, *]) | (refine callR_pure (s_l03Size_ok (hw.get _)) (by first | exact Or.inl rfl | (simp (disch := first | assumption | omega | rfl | (refine id ?_; simp only [gxD, ne_eq, reduceCtorEq, not_false_eq_true, Nat.reduceAdd, *]; done) | (refine id ?_; simp only [gxD]; omega)) only [↓gxPre, gxPost, ↓reduceIte, Nat.reduceEqDiff, reduceCtorEq, Nat.reduceAdd, hi, hv.len, hu.len, hu.ia, hu.ld, *]; done)) ?_; simp (disch := first | assumption | omega | rfl | (refine id ?_; simp only [gxD, ne_eq, reduceCtorEq, not_false_eq_true, Nat.reduceAdd, *]; done) | (refine id ?_; simp only [gxD]; omega)) only [↓gxPre, gxPost, ↓reduceIte, Nat.reduceEqDiff, reduceCtorEq, Nat.reduceAdd, hi, hv.len, hu.len, hu.ia, hu.ld, *])))
    all_goals first
      | (have hm : maxAt xs i = true := by
           unfold maxAt
           simp only [*, Bool.true_and, Bool.and_eq_true, Bool.or_eq_true, decide_eq_true_eq, and_true, true_and, or_true, true_or, and_self]
           first | done | exact ⟨Or.inl (by omega), Or.inl (by omega)⟩ | exact Or.inl (by omega) | (refine ⟨?_, ?_⟩ <;> first | trivial | exact Or.inl (by omega) | assumption)
         rw [maximaL_yes hm]
         refine ⟨by simp, by omega, by simp [iv], fun k hk => ?_⟩
         simp (disch := first | assumption | omega | rfl | (refine id ?_; simp only [gxD, ne_eq, reduceCtorEq, not_false_eq_true, Nat.reduceAdd, *]; done) | (refine id ?_; simp only [gxD]; omega)) only [↓gxPre, gxPost, ↓reduceIte, Nat.reduceEqDiff, reduceCtorEq, Nat.reduceAdd, *])
      | (have hm : maxAt xs i = false := by
           unfold maxAt
           have z0 : ¬ (i : Int) = 0 → decide (i = 0) = false := fun h => decide_eq_false (by omega)
           have z1 : ¬ (i : Int) + 1 = xs.length → decide (i + 1 = xs.length) = false := fun h => decide_eq_false (by omega)
           simp only [*, not_false_eq_true, forall_const, Bool.false_and, Bool.and_false, Bool.true_and, Bool.false_or, Bool.or_false]
         rw [maximaL_no hm]
         exact ⟨by simp, rfl, g3⟩)
theorem i_maximaOf_ok {H : Heap} {v : Value} {xs : List Nat} (hv : FS H v xs) (hn : xs.length ≤ 2 ^ 40) (hw : W32 xs) :
    ACalls Try.prog n_i_maximaOf [v] H fun r H' => Ext H H' ∧ ∃ h, H.n ≤ h ∧ h < H'.n ∧ r = .slice (some ⟨h, 0, none⟩) (maximaL xs xs.length).length (maximaL xs xs.length).length ∧ H'.blk h = some ⟨true, t_int64, (maximaL xs xs.length).map iv⟩ := by
  refine k_i_maximaOf.run rfl ?_
  unfold c_i_maximaOf
  simp (disch := first | assumption | omega | rfl | (refine id ?_; simp only [gxD, ne_eq, reduceCtorEq, not_false_eq_true, Nat.reduceAdd, *]; done) | (refine id ?_; simp only [gxD]; omega)) only [↓gxPre, gxPost, ↓reduceIte, Nat.reduceEqDiff, reduceCtorEq, Nat.reduceAdd, hv.len]
  refine loop_forH xs.length (fun i => [v, .slice (some ⟨H.n, 0, none⟩) (maximaL xs i).length (maximaL xs i).length, v, .int .i64 xs.length, .int .i64 i]) (fun i H' => H.n + 1 ≤ H'.n ∧ H'.blk H.n = some ⟨true, t_int64, (maximaL xs i).map iv⟩ ∧ ∀ k, k < H.n → H'.blk k = H.blk k) rfl ⟨by simp only [new_n]; omega, by simp (disch := first | assumption | omega | rfl | (refine id ?_; simp only [gxD, ne_eq, reduceCtorEq, not_false_eq_true, Nat.reduceAdd, *]; done) | (refine id ?_; simp only [gxD]; omega)) only [↓gxPre, gxPost, ↓reduceIte, Nat.reduceEqDiff, reduceCtorEq, Nat.reduceAdd, maximaL_zero, List.map_nil], fun k hk => by simp (disch := first | assumption | omega | rfl | (refine id ?_; simp only [gxD, ne_eq, reduceCtorEq, not_false_eq_true, Nat.reduceAdd, *]; done) | (refine id ?_; simp only [gxD]; omega)) only [↓gxPre, gxPost, ↓reduceIte, Nat.reduceEqDiff, reduceCtorEq, Nat.reduceAdd]⟩ ?_ ?_
  · rintro G ⟨g1, g2, g3⟩
    simp (disch := first | assumption | omega | rfl | (refine id ?_; simp only [gxD, ne_eq, reduceCtorEq, not_false_eq_true, Nat.reduceAdd, *]; done) | (refine id ?_; simp only [gxD]; omega)) only [↓gxPre, gxPost, ↓reduceIte, Nat.reduceEqDiff, reduceCtorEq, Nat.reduceAdd, Int.lt_irrefl]
    exact ⟨⟨by omega, g3⟩, H.n, by omega, by omega, rfl, g2⟩
  · rintro i G hi ⟨g1, g2, g3⟩
    have hu : FS G v xs := hv.ext ⟨by omega, g3⟩
    have hlen := maximaL_len xs i
    have e0 : i = 0 ∨ 0 < i := by omega
    have e1 : (((i : Int) - 1).toNat) = i - 1 := by omega
    have e2 : (((i : Int) + 1).toNat) = i + 1 := by omega
    ((try simp (disch := first | assumption | omega | rfl | (refine id ?_; simp only [gxD, ne_eq, reduceCtorEq, not_false_eq_true, Nat.reduceAdd, *]; done) | (refine id ?_; simp only [gxD]; omega)) only [↓gxPre, gxPost, ↓reduceIte, Nat.reduceEqDiff, reduceCtorEq, Nat.reduceAdd, hi, hv.len, hu.len, hu.ia, hu.ld, *]); repeat' (first | (refine grdR_splitE (fun _ _ => ?_) (fun _ => ?_) <;> simp (disch := first | assumption | omega | rfl | (refine id ?_; simp only [gxD, ne_eq, reduceCtorEq, not_false_eq_true, Nat.reduceAdd, *]; done) | (refine id ?_; simp only [gxD]; omega)) only [↓gxPre, gxPost, ↓reduceIte, Nat.reduceEqDiff, reduceCtorEq, Nat.reduceAdd, hi, hv.len, hu.len, hu.ia, hu.ld, *]) | (refine condR_splitE (fun _ _ => ?_) (fun _ => ?_) <;> simp (disch := first | assumption | omega | rfl | (refine id ?_; simp only [gxD, ne_eq, reduceCtorEq, not_false_eq_true, Nat.reduceAdd, *]; done) | (refine id ?_; simp only [gxD]; omega)) only [↓gxPre, gxPost, ↓reduceIte, Nat.reduceEqDiff, reduceCtorEq, Nat.reduceAdd, hi, hv.len, hu.len, hu.ia, hu.ld, *]) | (refine grdR_splitD (fun _ => ?_) (fun _ => ?_) <;> simp (disch := first | assumption | omega | rfl | (refine id ?_; simp only [gxD, ne_eq, reduceCtorEq, not_false_eq_true, Nat.reduceAdd, *]; done) | (refine id ?_; simp only [gxD]; omega)) only [↓gxPre, gxPost, ↓reduceIte, Nat.reduceEqDiff, reduceCtorEq, Nat.reduceAdd, hi, hv.len, hu.len, hu.ia, hu.ld, *]) | (refine condR_splitD (fun _ => ?_) (fun _ => ?_) <;> simp (disch := first | assumption | omega | rfl | (refine id ?_; simp only [gxD, ne_eq, reduceCtorEq, not_false_eq_true, Nat.reduceAdd, *]; done) | (refine id ?_; simp only [gxD]; omega)) only [↓gxPre, gxPost, ↓reduceIte, Nat.reduceEqDiff, reduceCtorEq, Nat.reduceAdd, hi, hv.len, hu.len, hu.ia, hu.ld, *]) | (refine grdR_split (fun _ => ?_) (fun _ => ?_) <;> simp (disch := first | assumption | omega | rfl | (refine id ?_; simp only [gxD, ne_eq, reduceCtorEq, not_false_eq_true, Nat.reduceAdd, *]; done) | (refine id ?_; simp only [gxD]; omega)) only [↓gxPre, gxPost, ↓reduceIte, Nat.reduceEqDiff, reduceCtorEq, Nat.reduceAdd, hi, hv.len, hu.len, hu.ia, hu.ld, *]) | (refine condR_split (fun _ => ?_) (fun _ => ?_) <;> simp (disch := first | assumption | omega | rfl | (refine id ?_; simp only [gxD, ne_eq, reduceCtorEq, not_false_eq_true, Nat.reduceAdd, *]; done) | (refine id ?_; simp only [gxD]; omega)) only [↓gxPre, gxPost, ↓reduceIte, Nat.reduceEqDiff, reduceCtorEq, Nat.reduceAdd, hi, hv.len, hu.len, hu.ia, hu.ld, *]) | (refine callR_pure (i_size_ok) (by first | exact Or.inl rfl | (simp (disch := first | assumption | omega | rfl | (refine id ?_; simp only [gxD, ne_eq, reduceCtorEq, not_false_eq_true, Nat.reduceAdd, *]; done) | (refine id ?_; simp only [gxD]; omega)) only [↓gxPre, gxPost, ↓reduceIte, Nat.reduceEqDiff, reduceCtorEq, Nat.reduceAdd, hi, hv.len, hu.len, hu.ia, hu.ld, *]; done)) ?_; simp (disch := first | assumption | omega | rfl | (refine id ?_; simp only [gxD, ne_eq, reduceCtorEq, not_false_eq_true, Nat.reduceAdd, *]; done) | (refine id ?_; simp only [gxD]; omega)) only [↓gxPre, gxPost, ↓reduceIte, Nat.reduceEqDiff, reduceCtorEq, Nat.reduceAdd, hi, hv.len, hu.len, hu.ia, hu.ld, *])))
    all_goals first
      | (have hm : maxAt xs i = true := by
           unfold maxAt
           simp only [*, Bool.true_and, Bool.and_eq_true, Bool.or_eq_true, decide_eq_true_eq, and_true, true_and, or_true, true_or, and_self]
           first | done | exact ⟨Or.inl (by omega), Or.inl (by omega)⟩ | exact Or.inl (by omega) | (refine ⟨?_, ?_⟩ <;> first | trivial | exact Or.inl (by omega) | assumption)
         rw [maximaL_yes hm]
         refine ⟨by simp, by omega, by simp [iv], fun k hk => ?_⟩
         simp (disch := first | assumption | omega | rfl | (refine id ?_; simp only [gxD, ne_eq, reduceCtorEq, not_false_eq_true, Nat.reduceAdd, *]; done) | (refine id ?_; simp only [gxD]; omega)) only [↓gxPre, gxPost, ↓reduceIte, Nat.reduceEqDiff, reduceCtorEq, Nat.reduceAdd, *])
      | (have hm : maxAt xs i = false := by
           unfold maxAt
           have z0 : ¬ (i : Int) = 0 → decide (i = 0) = false := fun h => decide_eq_false (by omega)
           have z1 : ¬ (i : Int) + 1 = xs.length → decide (i + 1 = xs.length) = false := fun h => decide_eq_false (by omega)
           simp only [*, not_false_eq_true, forall_const, Bool.false_and, Bool.and_false, Bool.true_and, Bool.false_or, Bool.or_false]
         rw [maximaL_no hm]
         exact ⟨by simp, rfl, g3⟩)
end Go.Proofs.Ytkojmlpaamdhoaa
