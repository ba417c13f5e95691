/- What the functions of the program do: contracts that are proved. -/
import Derived.Test.YtkojmlpaamdhoaeRipplesOfCode
import Derived.Test.YtkojmlpaamdhoaeGxTrig
namespace Go.Proofs.Ytkojmlpaamdhoae
open Go.Gx
set_option maxRecDepth 100000
set_option linter.unusedSimpArgs false
set_option linter.unusedVariables false

theorem w_sameFloat_ok {H : Heap} {x : Nat} : ACalls Try.prog n_w_sameFloat [.float .f64 x, .float .f64 x] H fun r H' => r = .bool true ∧ H' = H := by
  refine k_w_sameFloat.run rfl ?_
  unfold c_w_sameFloat
  ((try simp (disch := first | assumption | omega | rfl | (refine id ?_; simp only [gxD, ne_eq, reduceCtorEq, not_false_eq_true, Nat.reduceAdd, *]; done) | (refine id ?_; simp only [gxD]; omega)) only [↓gxPre, gxPost, ↓reduceIte, Nat.reduceEqDiff, reduceCtorEq, Nat.reduceAdd, *]); repeat' (first | (refine grdR_split (fun _ => ?_) (fun _ => ?_) <;> simp (disch := first | assumption | omega | rfl | (refine id ?_; simp only [gxD, ne_eq, reduceCtorEq, not_false_eq_true, Nat.reduceAdd, *]; done) | (refine id ?_; simp only [gxD]; omega)) only [↓gxPre, gxPost, ↓reduceIte, Nat.reduceEqDiff, reduceCtorEq, Nat.reduceAdd, *]) | (refine condR_split (fun _ => ?_) (fun _ => ?_) <;> simp (disch := first | assumption | omega | rfl | (refine id ?_; simp only [gxD, ne_eq, reduceCtorEq, not_false_eq_true, Nat.reduceAdd, *]; done) | (refine id ?_; simp only [gxD]; omega)) only [↓gxPre, gxPost, ↓reduceIte, Nat.reduceEqDiff, reduceCtorEq, Nat.reduceAdd, *])))
  all_goals first | rfl | (simp_all [fcB, fcmp]; done)
theorem w_eqFloat32S_ok {H : Heap} {v u : Value} {xs : List Nat} (hv : FS H v xs) (hu : FS H u xs) (hn : xs.length ≤ 2 ^ 40) :
    ACalls Try.prog n_w_eqFloat32S [v, u] H fun r H' => r = .bool true ∧ H' = H := by
  refine k_w_eqFloat32S.run rfl ?_
  unfold c_w_eqFloat32S
  ((try simp (disch := first | assumption | omega | rfl | (refine id ?_; simp only [gxD, ne_eq, reduceCtorEq, not_false_eq_true, Nat.reduceAdd, *]; done) | (refine id ?_; simp only [gxD]; omega)) only [↓gxPre, gxPost, ↓reduceIte, Nat.reduceEqDiff, reduceCtorEq, Nat.reduceAdd, hv.len, hu.len, ne_eq, not_true, not_false_eq_true, *]); repeat' (first | (refine grdR_split (fun _ => ?_) (fun _ => ?_) <;> simp (disch := first | assumption | omega | rfl | (refine id ?_; simp only [gxD, ne_eq, reduceCtorEq, not_false_eq_true, Nat.reduceAdd, *]; done) | (refine id ?_; simp only [gxD]; omega)) only [↓gxPre, gxPost, ↓reduceIte, Nat.reduceEqDiff, reduceCtorEq, Nat.reduceAdd, hv.len, hu.len, ne_eq, not_true, not_false_eq_true, *]) | (refine condR_split (fun _ => ?_) (fun _ => ?_) <;> simp (disch := first | assumption | omega | rfl | (refine id ?_; simp only [gxD, ne_eq, reduceCtorEq, not_false_eq_true, Nat.reduceAdd, *]; done) | (refine id ?_; simp only [gxD]; omega)) only [↓gxPre, gxPost, ↓reduceIte, Nat.reduceEqDiff, reduceCtorEq, Nat.reduceAdd, hv.len, hu.len, ne_eq, not_true, not_false_eq_true, *])))
  refine loop_for xs.length (fun i => [v, u, .int .i64 i]) rfl ?_ ?_
  · ((try simp (disch := first | assumption | omega | rfl | (refine id ?_; simp only [gxD, ne_eq, reduceCtorEq, not_false_eq_true, Nat.reduceAdd, *]; done) | (refine id ?_; simp only [gxD]; omega)) only [↓gxPre, gxPost, ↓reduceIte, Nat.reduceEqDiff, reduceCtorEq, Nat.reduceAdd, hv.len, hu.len, Int.lt_irrefl, *]); repeat' (first | (refine grdR_split (fun _ => ?_) (fun _ => ?_) <;> simp (disch := first | assumption | omega | rfl | (refine id ?_; simp only [gxD, ne_eq, reduceCtorEq, not_false_eq_true, Nat.reduceAdd, *]; done) | (refine id ?_; simp only [gxD]; omega)) only [↓gxPre, gxPost, ↓reduceIte, Nat.reduceEqDiff, reduceCtorEq, Nat.reduceAdd, hv.len, hu.len, Int.lt_irrefl, *]) | (refine condR_split (fun _ => ?_) (fun _ => ?_) <;> simp (disch := first | assumption | omega | rfl | (refine id ?_; simp only [gxD, ne_eq, reduceCtorEq, not_false_eq_true, Nat.reduceAdd, *]; done) | (refine id ?_; simp only [gxD]; omega)) only [↓gxPre, gxPost, ↓reduceIte, Nat.reduceEqDiff, reduceCtorEq, Nat.reduceAdd, hv.len, hu.len, Int.lt_irrefl, *])))
  · intro i hi
    ((try simp (disch := first | assumption | omega | rfl | (refine id ?_; simp only [gxD, ne_eq, reduceCtorEq, not_false_eq_true, Nat.reduceAdd, *]; done) | (refine id ?_; simp only [gxD]; omega)) only [↓gxPre, gxPost, ↓reduceIte, Nat.reduceEqDiff, reduceCtorEq, Nat.reduceAdd, hv.len, hu.len, hv.ia, hu.ia, hv.ld, hu.ld, *]); repeat' (first | (refine grdR_split (fun _ => ?_) (fun _ => ?_) <;> simp (disch := first | assumption | omega | rfl | (refine id ?_; simp only [gxD, ne_eq, reduceCtorEq, not_false_eq_true, Nat.reduceAdd, *]; done) | (refine id ?_; simp only [gxD]; omega)) only [↓gxPre, gxPost, ↓reduceIte, Nat.reduceEqDiff, reduceCtorEq, Nat.reduceAdd, hv.len, hu.len, hv.ia, hu.ia, hv.ld, hu.ld, *]) | (refine condR_split (fun _ => ?_) (fun _ => ?_) <;> simp (disch := first | assumption | omega | rfl | (refine id ?_; simp only [gxD, ne_eq, reduceCtorEq, not_false_eq_true, Nat.reduceAdd, *]; done) | (refine id ?_; simp only [gxD]; omega)) only [↓gxPre, gxPost, ↓reduceIte, Nat.reduceEqDiff, reduceCtorEq, Nat.reduceAdd, hv.len, hu.len, hv.ia, hu.ia, hv.ld, hu.ld, *]) | (refine callR_pure (w_sameFloat_ok) (by first | exact Or.inl rfl | (simp (disch := first | assumption | omega | rfl | (refine id ?_; simp only [gxD, ne_eq, reduceCtorEq, not_false_eq_true, Nat.reduceAdd, *]; done) | (refine id ?_; simp only [gxD]; omega)) only [↓gxPre, gxPost, ↓reduceIte, Nat.reduceEqDiff, reduceCtorEq, Nat.reduceAdd, hv.len, hu.len, hv.ia, hu.ia, hv.ld, hu.ld, *]; done)) ?_; simp (disch := first | assumption | omega | rfl | (refine id ?_; simp only [gxD, ne_eq, reduceCtorEq, not_false_eq_true, Nat.reduceAdd, *]; done) | (refine id ?_; simp only [gxD]; omega)) only [↓gxPre, gxPost, ↓reduceIte, Nat.reduceEqDiff, reduceCtorEq, Nat.reduceAdd, hv.len, hu.len, hv.ia, hu.ia, hv.ld, hu.ld, *])))
    all_goals simp
theorem w_toFloat32S_ok {H : Heap} {v : Value} {xs : List Nat} (hv : FS H v xs) (hn : xs.length ≤ 2 ^ 40) :
    ACalls Try.prog n_w_toFloat32S [v] H fun r H' => r = .slice (some ⟨H.n, 0, none⟩) xs.length xs.length ∧ H' = H.new ⟨true, t_float32, xs.map fv⟩ := by
  refine k_w_toFloat32S.run rfl ?_
  unfold c_w_toFloat32S
  simp (disch := first | assumption | omega | rfl | (refine id ?_; simp only [gxD, ne_eq, reduceCtorEq, not_false_eq_true, Nat.reduceAdd, *]; done) | (refine id ?_; simp only [gxD]; omega)) only [↓gxPre, gxPost, ↓reduceIte, Nat.reduceEqDiff, reduceCtorEq, Nat.reduceAdd, hv.len, eMks_i]
  refine loop_forH xs.length (fun i => [v, .slice (some ⟨H.n, 0, none⟩) xs.length xs.length, .int .i64 i]) (fun i H' => H' = H.new ⟨true, t_float32, overL (fun i => fv (xs.getD i 0)) i (List.replicate xs.length (.float .f32 0))⟩) rfl (by simp [overL_zero]) ?_ ?_
  · rintro _ rfl
    ((try simp (disch := first | assumption | omega | rfl | (refine id ?_; simp only [gxD, ne_eq, reduceCtorEq, not_false_eq_true, Nat.reduceAdd, *]; done) | (refine id ?_; simp only [gxD]; omega)) only [↓gxPre, gxPost, ↓reduceIte, Nat.reduceEqDiff, reduceCtorEq, Nat.reduceAdd, hv.len, Int.lt_irrefl, *]); repeat' (first | (refine grdR_split (fun _ => ?_) (fun _ => ?_) <;> simp (disch := first | assumption | omega | rfl | (refine id ?_; simp only [gxD, ne_eq, reduceCtorEq, not_false_eq_true, Nat.reduceAdd, *]; done) | (refine id ?_; simp only [gxD]; omega)) only [↓gxPre, gxPost, ↓reduceIte, Nat.reduceEqDiff, reduceCtorEq, Nat.reduceAdd, hv.len, Int.lt_irrefl, *]) | (refine condR_split (fun _ => ?_) (fun _ => ?_) <;> simp (disch := first | assumption | omega | rfl | (refine id ?_; simp only [gxD, ne_eq, reduceCtorEq, not_false_eq_true, Nat.reduceAdd, *]; done) | (refine id ?_; simp only [gxD]; omega)) only [↓gxPre, gxPost, ↓reduceIte, Nat.reduceEqDiff, reduceCtorEq, Nat.reduceAdd, hv.len, Int.lt_irrefl, *])))
    rw [overL_all _ _ _ (by simp), map_range_getD]
  · rintro i _ hi rfl
    have hv' := hv.ext (Ext.new H ⟨true, t_float32, overL (fun i => fv (xs.getD i 0)) i (List.replicate xs.length (.float .f32 0))⟩)
    have hl := overL_length (fun i => fv (xs.getD i 0)) i (List.replicate xs.length (.float .f32 0)) (by simp; omega)
    simp only [List.length_replicate] at hl
    ((try simp (disch := first | assumption | omega | rfl | (refine id ?_; simp only [gxD, ne_eq, reduceCtorEq, not_false_eq_true, Nat.reduceAdd, *]; done) | (refine id ?_; simp only [gxD]; omega)) only [↓gxPre, gxPost, ↓reduceIte, Nat.reduceEqDiff, reduceCtorEq, Nat.reduceAdd, hv.len, hv'.ia, hv'.ld, hl, *]); repeat' (first | (refine grdR_split (fun _ => ?_) (fun _ => ?_) <;> simp (disch := first | assumption | omega | rfl | (refine id ?_; simp only [gxD, ne_eq, reduceCtorEq, not_false_eq_true, Nat.reduceAdd, *]; done) | (refine id ?_; simp only [gxD]; omega)) only [↓gxPre, gxPost, ↓reduceIte, Nat.reduceEqDiff, reduceCtorEq, Nat.reduceAdd, hv.len, hv'.ia, hv'.ld, hl, *]) | (refine condR_split (fun _ => ?_) (fun _ => ?_) <;> simp (disch := first | assumption | omega | rfl | (refine id ?_; simp only [gxD, ne_eq, reduceCtorEq, not_false_eq_true, Nat.reduceAdd, *]; done) | (refine id ?_; simp only [gxD]; omega)) only [↓gxPre, gxPost, ↓reduceIte, Nat.reduceEqDiff, reduceCtorEq, Nat.reduceAdd, hv.len, hv'.ia, hv'.ld, hl, *])))
    have := overL_set (fun i => fv (xs.getD i 0)) i (List.replicate xs.length (.float .f32 0)) (by simpa using hi)
    simp only [fv] at this ⊢
    rw [this]
    simp
theorem w_markFloat32S_ok {H : Heap} {h n : Nat} {ty : TypeId} {l : List Value} {k : Int} (hb : H.blk h = some ⟨true, ty, l⟩) (hl : l.length = n) (h0 : 0 ≤ k) (h1 : k ≤ 2 ^ 61) (hn : n ≤ 2 ^ 61) :
    ACalls Try.prog n_w_markFloat32S [.slice (some ⟨h, 0, none⟩) n n, .int .i64 k] H fun r H' => r = .int .i64 (k + n) ∧ H' = H.put h ⟨true, ty, (List.range n).map (markF k)⟩ := by
  refine k_w_markFloat32S.run rfl ?_
  unfold c_w_markFloat32S
  simp (disch := first | assumption | omega | rfl | (refine id ?_; simp only [gxD, ne_eq, reduceCtorEq, not_false_eq_true, Nat.reduceAdd, *]; done) | (refine id ?_; simp only [gxD]; omega)) only [↓gxPre, gxPost, ↓reduceIte, Nat.reduceEqDiff, reduceCtorEq, Nat.reduceAdd]
  refine loop_forH n (fun i => [.slice (some ⟨h, 0, none⟩) n n, .int .i64 (k + i), .int .i64 i]) (fun i H' => H' = H.put h ⟨true, ty, overL (markF k) i l⟩) (by simp) (by simp [overL_zero, put_id hb]) ?_ ?_
  · rintro _ rfl
    ((try simp (disch := first | assumption | omega | rfl | (refine id ?_; simp only [gxD, ne_eq, reduceCtorEq, not_false_eq_true, Nat.reduceAdd, *]; done) | (refine id ?_; simp only [gxD]; omega)) only [↓gxPre, gxPost, ↓reduceIte, Nat.reduceEqDiff, reduceCtorEq, Nat.reduceAdd, Int.lt_irrefl, *]); repeat' (first | (refine grdR_split (fun _ => ?_) (fun _ => ?_) <;> simp (disch := first | assumption | omega | rfl | (refine id ?_; simp only [gxD, ne_eq, reduceCtorEq, not_false_eq_true, Nat.reduceAdd, *]; done) | (refine id ?_; simp only [gxD]; omega)) only [↓gxPre, gxPost, ↓reduceIte, Nat.reduceEqDiff, reduceCtorEq, Nat.reduceAdd, Int.lt_irrefl, *]) | (refine condR_split (fun _ => ?_) (fun _ => ?_) <;> simp (disch := first | assumption | omega | rfl | (refine id ?_; simp only [gxD, ne_eq, reduceCtorEq, not_false_eq_true, Nat.reduceAdd, *]; done) | (refine id ?_; simp only [gxD]; omega)) only [↓gxPre, gxPost, ↓reduceIte, Nat.reduceEqDiff, reduceCtorEq, Nat.reduceAdd, Int.lt_irrefl, *])))
    rw [overL_all _ _ _ hl]
  · rintro i _ hi rfl
    have hl' := overL_length (markF k) i l (by omega)
    rw [hl] at hl'
    have := overL_set (markF k) i l (by omega)
    ((try simp (disch := first | assumption | omega | rfl | (refine id ?_; simp only [gxD, ne_eq, reduceCtorEq, not_false_eq_true, Nat.reduceAdd, *]; done) | (refine id ?_; simp only [gxD]; omega)) only [↓gxPre, gxPost, ↓reduceIte, Nat.reduceEqDiff, reduceCtorEq, Nat.reduceAdd, hl', *]); repeat' (first | (refine grdR_split (fun _ => ?_) (fun _ => ?_) <;> simp (disch := first | assumption | omega | rfl | (refine id ?_; simp only [gxD, ne_eq, reduceCtorEq, not_false_eq_true, Nat.reduceAdd, *]; done) | (refine id ?_; simp only [gxD]; omega)) only [↓gxPre, gxPost, ↓reduceIte, Nat.reduceEqDiff, reduceCtorEq, Nat.reduceAdd, hl', *]) | (refine condR_split (fun _ => ?_) (fun _ => ?_) <;> simp (disch := first | assumption | omega | rfl | (refine id ?_; simp only [gxD, ne_eq, reduceCtorEq, not_false_eq_true, Nat.reduceAdd, *]; done) | (refine id ?_; simp only [gxD]; omega)) only [↓gxPre, gxPost, ↓reduceIte, Nat.reduceEqDiff, reduceCtorEq, Nat.reduceAdd, hl', *])))
    simp only [markF, fv] at this ⊢
    rw [this]
    simp [Int.add_assoc]
theorem w_markFloat32S_nil {H : Heap} {k : Int} : ACalls Try.prog n_w_markFloat32S [.slice none 0 0, .int .i64 k] H fun r H' => r = .int .i64 k ∧ H' = H := by
  refine k_w_markFloat32S.run rfl ?_
  unfold c_w_markFloat32S
  simp (disch := first | assumption | omega | rfl | (refine id ?_; simp only [gxD, ne_eq, reduceCtorEq, not_false_eq_true, Nat.reduceAdd, *]; done) | (refine id ?_; simp only [gxD]; omega)) only [↓gxPre, gxPost, ↓reduceIte, Nat.reduceEqDiff, reduceCtorEq, Nat.reduceAdd]
  refine loop_for 0 (fun i => [.slice none 0 0, .int .i64 k, .int .i64 i]) rfl ?_ ?_
  · simp (disch := first | assumption | omega | rfl | (refine id ?_; simp only [gxD, ne_eq, reduceCtorEq, not_false_eq_true, Nat.reduceAdd, *]; done) | (refine id ?_; simp only [gxD]; omega)) only [↓gxPre, gxPost, ↓reduceIte, Nat.reduceEqDiff, reduceCtorEq, Nat.reduceAdd]
  · intro i hi; omega
end Go.Proofs.Ytkojmlpaamdhoae

namespace Go.Proofs.Ytkojmlpaamdhoae
open Go.Gx
set_option maxRecDepth 100000
set_option linter.unusedSimpArgs false
set_option linter.unusedVariables false

theorem i_within_ok {H : Heap} {a b c : Int} :
    ACalls Try.prog n_i_within [.int .i64 a, .int .i64 b, .int .i64 c] H fun r H' => r = .bool (within a b c) ∧ H' = H := by
  refine k_i_within.run rfl ?_
  unfold c_i_within
  ((try simp (disch := first | assumption | omega | rfl | (refine id ?_; simp only [gxD, ne_eq, reduceCtorEq, not_false_eq_true, Nat.reduceAdd, *]; done) | (refine id ?_; simp only [gxD]; omega)) only [↓gxPre, gxPost, ↓reduceIte, Nat.reduceEqDiff, reduceCtorEq, Nat.reduceAdd, *]); repeat' (first | (refine grdR_split (fun _ => ?_) (fun _ => ?_) <;> simp (disch := first | assumption | omega | rfl | (refine id ?_; simp only [gxD, ne_eq, reduceCtorEq, not_false_eq_true, Nat.reduceAdd, *]; done) | (refine id ?_; simp only [gxD]; omega)) only [↓gxPre, gxPost, ↓reduceIte, Nat.reduceEqDiff, reduceCtorEq, Nat.reduceAdd, *]) | (refine condR_split (fun _ => ?_) (fun _ => ?_) <;> simp (disch := first | assumption | omega | rfl | (refine id ?_; simp only [gxD, ne_eq, reduceCtorEq, not_false_eq_true, Nat.reduceAdd, *]; done) | (refine id ?_; simp only [gxD]; omega)) only [↓gxPre, gxPost, ↓reduceIte, Nat.reduceEqDiff, reduceCtorEq, Nat.reduceAdd, *])))
  all_goals (simp_all [within]; try omega)
theorem i_IsFinite_ok {H : Heap} {x : Nat} : ACalls Try.prog n_i_IsFinite [.float .f32 x] H fun r H' => r = .bool (finF x) ∧ H' = H := by
  refine k_i_IsFinite.run rfl ?_
  unfold c_i_IsFinite
  ((try simp (disch := first | assumption | omega | rfl | (refine id ?_; simp only [gxD, ne_eq, reduceCtorEq, not_false_eq_true, Nat.reduceAdd, *]; done) | (refine id ?_; simp only [gxD]; omega)) only [↓gxPre, gxPost, ↓reduceIte, Nat.reduceEqDiff, reduceCtorEq, Nat.reduceAdd, finF, *]); repeat' (first | (refine grdR_split (fun _ => ?_) (fun _ => ?_) <;> simp (disch := first | assumption | omega | rfl | (refine id ?_; simp only [gxD, ne_eq, reduceCtorEq, not_false_eq_true, Nat.reduceAdd, *]; done) | (refine id ?_; simp only [gxD]; omega)) only [↓gxPre, gxPost, ↓reduceIte, Nat.reduceEqDiff, reduceCtorEq, Nat.reduceAdd, finF, *]) | (refine condR_split (fun _ => ?_) (fun _ => ?_) <;> simp (disch := first | assumption | omega | rfl | (refine id ?_; simp only [gxD, ne_eq, reduceCtorEq, not_false_eq_true, Nat.reduceAdd, *]; done) | (refine id ?_; simp only [gxD]; omega)) only [↓gxPre, gxPost, ↓reduceIte, Nat.reduceEqDiff, reduceCtorEq, Nat.reduceAdd, finF, *])))
theorem s_l01Finite_ok {H : Heap} {x : Nat} : ACalls Try.prog n_s_l01Finite [.float .f32 x] H fun r H' => r = .bool (finF x) ∧ H' = H := by
  refine k_s_l01Finite.run rfl ?_
  unfold c_s_l01Finite
  ((try simp (disch := first | assumption | omega | rfl | (refine id ?_; simp only [gxD, ne_eq, reduceCtorEq, not_false_eq_true, Nat.reduceAdd, *]; done) | (refine id ?_; simp only [gxD]; omega)) only [↓gxPre, gxPost, ↓reduceIte, Nat.reduceEqDiff, reduceCtorEq, Nat.reduceAdd, finF, *]); repeat' (first | (refine grdR_split (fun _ => ?_) (fun _ => ?_) <;> simp (disch := first | assumption | omega | rfl | (refine id ?_; simp only [gxD, ne_eq, reduceCtorEq, not_false_eq_true, Nat.reduceAdd, *]; done) | (refine id ?_; simp only [gxD]; omega)) only [↓gxPre, gxPost, ↓reduceIte, Nat.reduceEqDiff, reduceCtorEq, Nat.reduceAdd, finF, *]) | (refine condR_split (fun _ => ?_) (fun _ => ?_) <;> simp (disch := first | assumption | omega | rfl | (refine id ?_; simp only [gxD, ne_eq, reduceCtorEq, not_false_eq_true, Nat.reduceAdd, *]; done) | (refine id ?_; simp only [gxD]; omega)) only [↓gxPre, gxPost, ↓reduceIte, Nat.reduceEqDiff, reduceCtorEq, Nat.reduceAdd, finF, *])))
theorem s_l02Finite_ok {H : Heap} {v : Value} {xs : List Nat} (hv : FS H v xs) (hn : xs.length ≤ 2 ^ 40) : ACalls Try.prog n_s_l02Finite [v] H fun r H' => r = .bool (xs.all finF) ∧ H' = H := by
  refine k_s_l02Finite.run rfl ?_
  unfold c_s_l02Finite
  simp (disch := first | assumption | omega | rfl | (refine id ?_; simp only [gxD, ne_eq, reduceCtorEq, not_false_eq_true, Nat.reduceAdd, *]; done) | (refine id ?_; simp only [gxD]; omega)) only [↓gxPre, gxPost, ↓reduceIte, Nat.reduceEqDiff, reduceCtorEq, Nat.reduceAdd, hv.len]
  refine loop_forH xs.length (fun i => [v, .int .i64 i]) (fun i H' => H = H' ∧ ∀ j, j < i → finF (xs.getD j 0) = true) rfl ⟨rfl, by intros; omega⟩ ?_ ?_
  · rintro _ ⟨rfl, hJ⟩
    ((try simp (disch := first | assumption | omega | rfl | (refine id ?_; simp only [gxD, ne_eq, reduceCtorEq, not_false_eq_true, Nat.reduceAdd, *]; done) | (refine id ?_; simp only [gxD]; omega)) only [↓gxPre, gxPost, ↓reduceIte, Nat.reduceEqDiff, reduceCtorEq, Nat.reduceAdd, hv.len, Int.lt_irrefl, *]); repeat' (first | (refine grdR_split (fun _ => ?_) (fun _ => ?_) <;> simp (disch := first | assumption | omega | rfl | (refine id ?_; simp only [gxD, ne_eq, reduceCtorEq, not_false_eq_true, Nat.reduceAdd, *]; done) | (refine id ?_; simp only [gxD]; omega)) only [↓gxPre, gxPost, ↓reduceIte, Nat.reduceEqDiff, reduceCtorEq, Nat.reduceAdd, hv.len, Int.lt_irrefl, *]) | (refine condR_split (fun _ => ?_) (fun _ => ?_) <;> simp (disch := first | assumption | omega | rfl | (refine id ?_; simp only [gxD, ne_eq, reduceCtorEq, not_false_eq_true, Nat.reduceAdd, *]; done) | (refine id ?_; simp only [gxD]; omega)) only [↓gxPre, gxPost, ↓reduceIte, Nat.reduceEqDiff, reduceCtorEq, Nat.reduceAdd, hv.len, Int.lt_irrefl, *])))
    rw [all_getD.2 hJ]
  · rintro i _ hi ⟨rfl, hJ⟩
    ((try simp (disch := first | assumption | omega | rfl | (refine id ?_; simp only [gxD, ne_eq, reduceCtorEq, not_false_eq_true, Nat.reduceAdd, *]; done) | (refine id ?_; simp only [gxD]; omega)) only [↓gxPre, gxPost, ↓reduceIte, Nat.reduceEqDiff, reduceCtorEq, Nat.reduceAdd, hv.len, hv.ia, hv.ld, *]); repeat' (first | (refine grdR_split (fun _ => ?_) (fun _ => ?_) <;> simp (disch := first | assumption | omega | rfl | (refine id ?_; simp only [gxD, ne_eq, reduceCtorEq, not_false_eq_true, Nat.reduceAdd, *]; done) | (refine id ?_; simp only [gxD]; omega)) only [↓gxPre, gxPost, ↓reduceIte, Nat.reduceEqDiff, reduceCtorEq, Nat.reduceAdd, hv.len, hv.ia, hv.ld, *]) | (refine condR_split (fun _ => ?_) (fun _ => ?_) <;> simp (disch := first | assumption | omega | rfl | (refine id ?_; simp only [gxD, ne_eq, reduceCtorEq, not_false_eq_true, Nat.reduceAdd, *]; done) | (refine id ?_; simp only [gxD]; omega)) only [↓gxPre, gxPost, ↓reduceIte, Nat.reduceEqDiff, reduceCtorEq, Nat.reduceAdd, hv.len, hv.ia, hv.ld, *]) | (refine callR_pure (s_l01Finite_ok) (by first | exact Or.inl rfl | (simp (disch := first | assumption | omega | rfl | (refine id ?_; simp only [gxD, ne_eq, reduceCtorEq, not_false_eq_true, Nat.reduceAdd, *]; done) | (refine id ?_; simp only [gxD]; omega)) only [↓gxPre, gxPost, ↓reduceIte, Nat.reduceEqDiff, reduceCtorEq, Nat.reduceAdd, hv.len, hv.ia, hv.ld, *]; done)) ?_; simp (disch := first | assumption | omega | rfl | (refine id ?_; simp only [gxD, ne_eq, reduceCtorEq, not_false_eq_true, Nat.reduceAdd, *]; done) | (refine id ?_; simp only [gxD]; omega)) only [↓gxPre, gxPost, ↓reduceIte, Nat.reduceEqDiff, reduceCtorEq, Nat.reduceAdd, hv.len, hv.ia, hv.ld, *])))
    · rename_i h; simp only [Bool.not_eq_true'] at h
      rw [all_false hi h]
    · rename_i h; simp only [Bool.not_eq_false'] at h
      exact ⟨by simp, Nat.forall_lt_succ_right.2 ⟨hJ, h⟩⟩
theorem i_areFinite_ok {H : Heap} {w : Value} {xss : List (List Nat)} (hw : SS H w xss) (hn : xss.length ≤ 2 ^ 40) (hx : ∀ j, j < xss.length → (xss.getD j []).length ≤ 2 ^ 40) :
    ACalls Try.prog n_i_areFinite [w] H fun r H' => r = .bool (xss.all fun xs => xs.all finF) ∧ H' = H := by
  obtain ⟨vs, hv, hl, hvs⟩ := hw
  refine k_i_areFinite.run rfl ?_
  unfold c_i_areFinite
  simp (disch := first | assumption | omega | rfl | (refine id ?_; simp only [gxD, ne_eq, reduceCtorEq, not_false_eq_true, Nat.reduceAdd, *]; done) | (refine id ?_; simp only [gxD]; omega)) only [↓gxPre, gxPost, ↓reduceIte, Nat.reduceEqDiff, reduceCtorEq, Nat.reduceAdd, hv.len, hl]
  refine loop_forH xss.length (fun i => [w, .int .i64 xss.length, .int .i64 i]) (fun i H' => H = H' ∧ ∀ j, j < i → (xss.getD j []).all finF = true) rfl ⟨rfl, by intros; omega⟩ ?_ ?_
  · rintro _ ⟨rfl, hJ⟩
    ((try simp (disch := first | assumption | omega | rfl | (refine id ?_; simp only [gxD, ne_eq, reduceCtorEq, not_false_eq_true, Nat.reduceAdd, *]; done) | (refine id ?_; simp only [gxD]; omega)) only [↓gxPre, gxPost, ↓reduceIte, Nat.reduceEqDiff, reduceCtorEq, Nat.reduceAdd, Int.lt_irrefl, *]); repeat' (first | (refine grdR_split (fun _ => ?_) (fun _ => ?_) <;> simp (disch := first | assumption | omega | rfl | (refine id ?_; simp only [gxD, ne_eq, reduceCtorEq, not_false_eq_true, Nat.reduceAdd, *]; done) | (refine id ?_; simp only [gxD]; omega)) only [↓gxPre, gxPost, ↓reduceIte, Nat.reduceEqDiff, reduceCtorEq, Nat.reduceAdd, Int.lt_irrefl, *]) | (refine condR_split (fun _ => ?_) (fun _ => ?_) <;> simp (disch := first | assumption | omega | rfl | (refine id ?_; simp only [gxD, ne_eq, reduceCtorEq, not_false_eq_true, Nat.reduceAdd, *]; done) | (refine id ?_; simp only [gxD]; omega)) only [↓gxPre, gxPost, ↓reduceIte, Nat.reduceEqDiff, reduceCtorEq, Nat.reduceAdd, Int.lt_irrefl, *])))
    rw [(allD []).2 hJ]
  · rintro i _ hi ⟨rfl, hJ⟩
    have hu := hvs i hi
    have hxi := hx i hi
    simp (disch := first | assumption | omega | rfl | (refine id ?_; simp only [gxD, ne_eq, reduceCtorEq, not_false_eq_true, Nat.reduceAdd, *]; done) | (refine id ?_; simp only [gxD]; omega)) only [↓gxPre, gxPost, ↓reduceIte, Nat.reduceEqDiff, reduceCtorEq, Nat.reduceAdd, hi, hv.ia, hv.ldD, hl, hu.len]
    refine loop_forH (xss.getD i []).length (fun j => [w, .int .i64 xss.length, .int .i64 i, vs.getD i undef, .int .i64 (xss.getD i []).length, .int .i64 j]) (fun j H' => H = H' ∧ ∀ k, k < j → finF ((xss.getD i []).getD k 0) = true) rfl ⟨rfl, by intros; omega⟩ ?_ ?_
    · rintro _ ⟨rfl, hK⟩
      simp (disch := first | assumption | omega | rfl | (refine id ?_; simp only [gxD, ne_eq, reduceCtorEq, not_false_eq_true, Nat.reduceAdd, *]; done) | (refine id ?_; simp only [gxD]; omega)) only [↓gxPre, gxPost, ↓reduceIte, Nat.reduceEqDiff, reduceCtorEq, Nat.reduceAdd, Int.lt_irrefl]
      exact ⟨by simp, Nat.forall_lt_succ_right.2 ⟨hJ, all_getD.2 hK⟩⟩
    · rintro j _ hj ⟨rfl, hK⟩
      ((try simp (disch := first | assumption | omega | rfl | (refine id ?_; simp only [gxD, ne_eq, reduceCtorEq, not_false_eq_true, Nat.reduceAdd, *]; done) | (refine id ?_; simp only [gxD]; omega)) only [↓gxPre, gxPost, ↓reduceIte, Nat.reduceEqDiff, reduceCtorEq, Nat.reduceAdd, hj, hu.ia, hu.ld, *]); repeat' (first | (refine grdR_split (fun _ => ?_) (fun _ => ?_) <;> simp (disch := first | assumption | omega | rfl | (refine id ?_; simp only [gxD, ne_eq, reduceCtorEq, not_false_eq_true, Nat.reduceAdd, *]; done) | (refine id ?_; simp only [gxD]; omega)) only [↓gxPre, gxPost, ↓reduceIte, Nat.reduceEqDiff, reduceCtorEq, Nat.reduceAdd, hj, hu.ia, hu.ld, *]) | (refine condR_split (fun _ => ?_) (fun _ => ?_) <;> simp (disch := first | assumption | omega | rfl | (refine id ?_; simp only [gxD, ne_eq, reduceCtorEq, not_false_eq_true, Nat.reduceAdd, *]; done) | (refine id ?_; simp only [gxD]; omega)) only [↓gxPre, gxPost, ↓reduceIte, Nat.reduceEqDiff, reduceCtorEq, Nat.reduceAdd, hj, hu.ia, hu.ld, *]) | (refine callR_pure (i_IsFinite_ok) (by first | exact Or.inl rfl | (simp (disch := first | assumption | omega | rfl | (refine id ?_; simp only [gxD, ne_eq, reduceCtorEq, not_false_eq_true, Nat.reduceAdd, *]; done) | (refine id ?_; simp only [gxD]; omega)) only [↓gxPre, gxPost, ↓reduceIte, Nat.reduceEqDiff, reduceCtorEq, Nat.reduceAdd, hj, hu.ia, hu.ld, *]; done)) ?_; simp (disch := first | assumption | omega | rfl | (refine id ?_; simp only [gxD, ne_eq, reduceCtorEq, not_false_eq_true, Nat.reduceAdd, *]; done) | (refine id ?_; simp only [gxD]; omega)) only [↓gxPre, gxPost, ↓reduceIte, Nat.reduceEqDiff, reduceCtorEq, Nat.reduceAdd, hj, hu.ia, hu.ld, *])))
      · rename_i h; simp only [Bool.not_eq_true'] at h
        rw [allD_false [] hi (all_false hj h)]
      · rename_i h; simp only [Bool.not_eq_false'] at h
        exact ⟨by simp, Nat.forall_lt_succ_right.2 ⟨hK, h⟩⟩
theorem i_areFinite1_ok {H : Heap} {h : Nat} {own : Bool} {ty : TypeId} {v : Value} {xs : List Nat} (hb : H.blk h = some ⟨own, ty, [v]⟩) (hh : h < H.n) (hv : FS H v xs) (hn : xs.length ≤ 2 ^ 40) :
    ACalls Try.prog n_i_areFinite [.slice (some ⟨h, 0, none⟩) 1 1] H fun r H' => r = .bool (xs.all finF) ∧ H' = H := by
  refine (i_areFinite_ok (SS.one hb hh hv) (by simp) ?_).mono ?_
  · intro j hj
    have : j = 0 := by simpa using hj
    subst this; exact hn
  · rintro _ _ ⟨rfl, rfl⟩
    simp
theorem i_areFinite2_ok {H : Heap} {h : Nat} {own : Bool} {ty : TypeId} {v u : Value} {xs ys : List Nat} (hb : H.blk h = some ⟨own, ty, [v, u]⟩) (hh : h < H.n) (hv : FS H v xs) (hu : FS H u ys) (hn : xs.length ≤ 2 ^ 40) (hm : ys.length ≤ 2 ^ 40) :
    ACalls Try.prog n_i_areFinite [.slice (some ⟨h, 0, none⟩) 2 2] H fun r H' => r = .bool (xs.all finF && ys.all finF) ∧ H' = H := by
  refine (i_areFinite_ok (SS.two hb hh hv hu) (by simp) ?_).mono ?_
  · intro j hj
    have : j = 0 ∨ j = 1 := by have : j < 2 := by simpa using hj
                               omega
    rcases this with rfl | rfl
    · exact hn
    · exact hm
  · rintro _ _ ⟨rfl, rfl⟩
    simp
end Go.Proofs.Ytkojmlpaamdhoae

namespace Go.Proofs.Ytkojmlpaamdhoae
open Go.Gx
set_option maxRecDepth 100000
set_option linter.unusedSimpArgs false
set_option linter.unusedVariables false

theorem s_l03Long_ok {H : Heap} {v : Value} {xs : List Nat} (hv : FS H v xs) (hn : xs.length ≤ 2 ^ 40) : ACalls Try.prog n_s_l03Long [v] H fun r H' => r = .bool (isLongF xs) ∧ H' = H := by
  refine k_s_l03Long.run rfl ?_
  unfold c_s_l03Long
  ((try simp (disch := first | assumption | omega | rfl | (refine id ?_; simp only [gxD, ne_eq, reduceCtorEq, not_false_eq_true, Nat.reduceAdd, *]; done) | (refine id ?_; simp only [gxD]; omega)) only [↓gxPre, gxPost, ↓reduceIte, Nat.reduceEqDiff, reduceCtorEq, Nat.reduceAdd, hv.len, *]); repeat' (first | (refine grdR_split (fun _ => ?_) (fun _ => ?_) <;> simp (disch := first | assumption | omega | rfl | (refine id ?_; simp only [gxD, ne_eq, reduceCtorEq, not_false_eq_true, Nat.reduceAdd, *]; done) | (refine id ?_; simp only [gxD]; omega)) only [↓gxPre, gxPost, ↓reduceIte, Nat.reduceEqDiff, reduceCtorEq, Nat.reduceAdd, hv.len, *]) | (refine condR_split (fun _ => ?_) (fun _ => ?_) <;> simp (disch := first | assumption | omega | rfl | (refine id ?_; simp only [gxD, ne_eq, reduceCtorEq, not_false_eq_true, Nat.reduceAdd, *]; done) | (refine id ?_; simp only [gxD]; omega)) only [↓gxPre, gxPost, ↓reduceIte, Nat.reduceEqDiff, reduceCtorEq, Nat.reduceAdd, hv.len, *]) | (refine callR_pure (s_l02Finite_ok hv hn) (by first | exact Or.inl rfl | (simp (disch := first | assumption | omega | rfl | (refine id ?_; simp only [gxD, ne_eq, reduceCtorEq, not_false_eq_true, Nat.reduceAdd, *]; done) | (refine id ?_; simp only [gxD]; omega)) only [↓gxPre, gxPost, ↓reduceIte, Nat.reduceEqDiff, reduceCtorEq, Nat.reduceAdd, hv.len, *]; done)) ?_; simp (disch := first | assumption | omega | rfl | (refine id ?_; simp only [gxD, ne_eq, reduceCtorEq, not_false_eq_true, Nat.reduceAdd, *]; done) | (refine id ?_; simp only [gxD]; omega)) only [↓gxPre, gxPost, ↓reduceIte, Nat.reduceEqDiff, reduceCtorEq, Nat.reduceAdd, hv.len, *])))
  all_goals (simp_all [isLongF, within]; try omega)
theorem i_isLong_ok {H : Heap} {v : Value} {xs : List Nat} (hv : FS H v xs) (hn : xs.length ≤ 2 ^ 40) : ACalls Try.prog n_i_isLong [v] H fun r H' => r = .bool (isLongF xs) ∧ Ext H H' := by
  refine k_i_isLong.run rfl ?_
  unfold c_i_isLong
  have hv1 := hv.one
  ((try simp (disch := first | assumption | omega | rfl | (refine id ?_; simp only [gxD, ne_eq, reduceCtorEq, not_false_eq_true, Nat.reduceAdd, *]; done) | (refine id ?_; simp only [gxD]; omega)) only [↓gxPre, gxPost, ↓reduceIte, Nat.reduceEqDiff, reduceCtorEq, Nat.reduceAdd, hv.len, *]); repeat' (first | (refine grdR_split (fun _ => ?_) (fun _ => ?_) <;> simp (disch := first | assumption | omega | rfl | (refine id ?_; simp only [gxD, ne_eq, reduceCtorEq, not_false_eq_true, Nat.reduceAdd, *]; done) | (refine id ?_; simp only [gxD]; omega)) only [↓gxPre, gxPost, ↓reduceIte, Nat.reduceEqDiff, reduceCtorEq, Nat.reduceAdd, hv.len, *]) | (refine condR_split (fun _ => ?_) (fun _ => ?_) <;> simp (disch := first | assumption | omega | rfl | (refine id ?_; simp only [gxD, ne_eq, reduceCtorEq, not_false_eq_true, Nat.reduceAdd, *]; done) | (refine id ?_; simp only [gxD]; omega)) only [↓gxPre, gxPost, ↓reduceIte, Nat.reduceEqDiff, reduceCtorEq, Nat.reduceAdd, hv.len, *]) | (refine callR_pure (i_within_ok) (by first | exact Or.inl rfl | (simp (disch := first | assumption | omega | rfl | (refine id ?_; simp only [gxD, ne_eq, reduceCtorEq, not_false_eq_true, Nat.reduceAdd, *]; done) | (refine id ?_; simp only [gxD]; omega)) only [↓gxPre, gxPost, ↓reduceIte, Nat.reduceEqDiff, reduceCtorEq, Nat.reduceAdd, hv.len, *]; done)) ?_; simp (disch := first | assumption | omega | rfl | (refine id ?_; simp only [gxD, ne_eq, reduceCtorEq, not_false_eq_true, Nat.reduceAdd, *]; done) | (refine id ?_; simp only [gxD]; omega)) only [↓gxPre, gxPost, ↓reduceIte, Nat.reduceEqDiff, reduceCtorEq, Nat.reduceAdd, hv.len, *]) | (refine callR_pure (i_areFinite1_ok (by simp (disch := first | assumption | omega | rfl | (refine id ?_; simp only [gxD, ne_eq, reduceCtorEq, not_false_eq_true, Nat.reduceAdd, *]; done) | (refine id ?_; simp only [gxD]; omega)) only [↓gxPre, gxPost, ↓reduceIte, Nat.reduceEqDiff, reduceCtorEq, Nat.reduceAdd, *]; rfl) (by first | omega | (simp only [new_n, put_n]; omega)) (hv.ext ⟨by first | omega | (simp only [new_n, put_n]; omega) | (simp only [new_n, put_n] at *; omega), fun i hi => by simp (disch := first | assumption | omega | rfl | (refine id ?_; simp only [gxD, ne_eq, reduceCtorEq, not_false_eq_true, Nat.reduceAdd, *]; done) | (refine id ?_; simp only [gxD]; omega)) only [↓gxPre, gxPost, ↓reduceIte, Nat.reduceEqDiff, reduceCtorEq, Nat.reduceAdd, *]⟩) hn) (by first | exact Or.inl rfl | (simp (disch := first | assumption | omega | rfl | (refine id ?_; simp only [gxD, ne_eq, reduceCtorEq, not_false_eq_true, Nat.reduceAdd, *]; done) | (refine id ?_; simp only [gxD]; omega)) only [↓gxPre, gxPost, ↓reduceIte, Nat.reduceEqDiff, reduceCtorEq, Nat.reduceAdd, hv.len, *]; done)) ?_; simp (disch := first | assumption | omega | rfl | (refine id ?_; simp only [gxD, ne_eq, reduceCtorEq, not_false_eq_true, Nat.reduceAdd, *]; done) | (refine id ?_; simp only [gxD]; omega)) only [↓gxPre, gxPost, ↓reduceIte, Nat.reduceEqDiff, reduceCtorEq, Nat.reduceAdd, hv.len, *])))
  all_goals exact ⟨by simp_all [isLongF], ⟨by first | omega | (simp only [new_n, put_n]; omega) | (simp only [new_n, put_n] at *; omega), fun i hi => by simp (disch := first | assumption | omega | rfl | (refine id ?_; simp only [gxD, ne_eq, reduceCtorEq, not_false_eq_true, Nat.reduceAdd, *]; done) | (refine id ?_; simp only [gxD]; omega)) only [↓gxPre, gxPost, ↓reduceIte, Nat.reduceEqDiff, reduceCtorEq, Nat.reduceAdd, *]⟩⟩
end Go.Proofs.Ytkojmlpaamdhoae

namespace Go.Proofs.Ytkojmlpaamdhoae
open Go.Gx
set_option maxRecDepth 100000
set_option linter.unusedSimpArgs false
set_option linter.unusedVariables false

theorem acalls_ext {P : Program} {f : FuncId} {args : List Value} {H : Heap} {v : Value} (h : ACalls P f args H fun r H' => r = v ∧ H' = H) : ACalls P f args H fun r H' => r = v ∧ Ext H H' :=
  h.mono (by rintro _ _ ⟨rfl, rfl⟩; exact ⟨rfl, .refl _⟩)
theorem w_markFloat32S_ow {lo hi : Nat} {H : Heap} {ty : TypeId} {v : Value} {l : List Value} {k : Int} (o : OwL lo hi H ty v l) (h0 : 0 ≤ k) (h1 : k ≤ 2 ^ 61) (hn : l.length ≤ 2 ^ 61) :
    ACalls Try.prog n_w_markFloat32S [v, .int .i64 k] H fun r H' => r = .int .i64 (k + l.length) ∧ OwL lo hi H' ty v ((List.range l.length).map (markF k)) ∧ Fr v H H' := by
  rcases o with ⟨rfl, rfl⟩ | ⟨h, rfl, g1, g2, g3, hb⟩
  · refine w_markFloat32S_nil.mono ?_
    rintro _ _ ⟨rfl, rfl⟩
    exact ⟨by simp, .nil, .refl _ _⟩
  · refine (w_markFloat32S_ok hb rfl h0 h1 hn).mono ?_
    rintro _ _ ⟨rfl, rfl⟩
    exact ⟨rfl, .mk (hput_self _ _ _) (by simp) g1 g2 (by rw [put_n]; exact g3), ⟨rfl, fun i hi => hput_other _ _ _ _ fun e => hi (by rw [e]; rfl)⟩⟩
theorem w_toFloat32S_ow {H : Heap} {v : Value} {xs : List Nat} (hv : FS H v xs) (hn : xs.length ≤ 2 ^ 40) :
    ACalls Try.prog n_w_toFloat32S [v] H fun r H' => Ext H H' ∧ OwL H.n H'.n H' t_float32 r (xs.map fv) := by
  refine (w_toFloat32S_ok hv hn).mono ?_
  rintro _ _ ⟨rfl, rfl⟩
  exact ⟨.new _ _, .mk (new_self _ _) (by simp) (Nat.le_refl _) (by simp [new_n]) (by simp [new_n])⟩
theorem w_eqFloat32S_ow {H : Heap} {v u : Value} {xs : List Nat} (hv : FS H v xs) (hu : FS H u xs) (hn : xs.length ≤ 2 ^ 40) :
    ACalls Try.prog n_w_eqFloat32S [v, u] H fun r H' => r = .bool true ∧ Ext H H' := acalls_ext (w_eqFloat32S_ok hv hu hn)
end Go.Proofs.Ytkojmlpaamdhoae

namespace Go.Proofs.Ytkojmlpaamdhoae
open Go.Gx
set_option maxRecDepth 100000
set_option linter.unusedSimpArgs false
set_option linter.unusedVariables false

def sizeL (xss : List (List Nat)) (i : Nat) : List Nat := (List.range i).map fun j => (xss.getD j []).length
theorem sizeL_length (xss : List (List Nat)) (i : Nat) : (sizeL xss i).length = i := by simp [sizeL]
theorem sizeL_succ (xss : List (List Nat)) (i : Nat) : sizeL xss (i + 1) = sizeL xss i ++ [(xss.getD i []).length] := by simp [sizeL, List.range_succ]
theorem sizeL_all (xss : List (List Nat)) : sizeL xss xss.length = xss.map List.length := by
  refine list_ext_getD 0 (by simp [sizeL]) fun j hj => ?_
  have hj' : j < xss.length := by simpa [sizeL] using hj
  rw [sizeL, getD_range_map hj']
  simp [List.getD_eq_getElem?_getD, hj']
theorem flat_len (xss : List (List Nat)) : ∀ t, t ≤ xss.length → (flatF xss t).length + offN xss (xss.length - t) = offN xss xss.length
  | 0, _ => by simp [flatF, foldI_zero]
  | t + 1, h => by
    have ih := flat_len xss t (by omega)
    have e : xss.length - t = (xss.length - (t + 1)) + 1 := by omega
    rw [e, offN_succ (by omega)] at ih
    have e2 : xss.length - 1 - t = xss.length - (t + 1) := by omega
    simp only [flatF, foldI_succ, List.length_append, e2] at ih ⊢
    omega
theorem flatF_succ (xss : List (List Nat)) (t : Nat) : flatF xss (t + 1) = flatF xss t ++ xss.getD (xss.length - 1 - t) [] := rfl
theorem size_fit {sz : List Nat} {k : Nat} (hk : k < sz.length) (h1 : 1 ≤ sufS sz (k + 1)) : (decide (1 ≤ sz.getD k 0) && fitF (sufS sz (k + 1)) (sz.getD k 0)) = sizeAt sz k := by
  have hs := sufS_succ hk
  rw [Bool.eq_iff_iff]
  simp only [sizeAt, fitF, Bool.and_eq_true, Bool.or_eq_true, decide_eq_true_eq]
  omega
theorem sizes_le {xss : List (List Nat)} (hm : totL xss ≤ 2 ^ 40) (j : Nat) : (xss.map List.length).getD j 0 ≤ 2 ^ 40 := by
  by_cases hj : j < xss.length
  · have := totL_row hm j
    simpa [List.getD_eq_getElem?_getD, hj] using this
  · simp [List.getD_eq_getElem?_getD, List.getElem?_eq_none (Nat.le_of_not_lt hj)]
theorem sizes_sum (xss : List (List Nat)) (hm : totL xss ≤ 2 ^ 40) : sufS (xss.map List.length) 0 ≤ 2 ^ 40 := by
  have : sufS (xss.map List.length) 0 = offN xss xss.length := by simp [sufS, offN]
  rw [this]
  unfold totL at hm
  omega
end Go.Proofs.Ytkojmlpaamdhoae

namespace Go.Proofs.Ytkojmlpaamdhoae
open Go.Gx
set_option maxRecDepth 100000
set_option linter.unusedSimpArgs false
set_option linter.unusedVariables false

theorem rows_yes {xss : List (List Nat)} {most : Int} (h : rowsF xss most = true) : (1 ≤ (xss.length : Int) ∧ (xss.length : Int) ≤ most) ∧ ∀ j, j < xss.length → isLongF (xss.getD j []) = true ∧ (xss.getD j []).length = (xss.getD 0 []).length := by
  unfold rowsF at h
  simp only [Bool.and_eq_true] at h
  refine ⟨within_true.1 h.1, fun j hj => ?_⟩
  have := allR.1 h.2 j hj
  simpa using this
theorem long_len {xs : List Nat} (h : isLongF xs = true) : (1 ≤ xs.length ∧ xs.length ≤ 128) ∧ xs.all finF = true := by
  unfold isLongF at h
  simp only [Bool.and_eq_true] at h
  have := within_true.1 h.1
  exact ⟨by omega, h.2⟩
theorem tab_set {m i a : Nat} {f g : Nat → Nat} (h1 : g i = a) (h2 : ∀ j, j < m → j ≠ i → g j = f j) : (tabL m f).set i a = tabL m g := by
  refine list_ext_getD 0 (by simp [tabL]) fun j hj => ?_
  have hj' : j < m := by simpa [tabL] using hj
  rw [tabL_getD hj']
  by_cases hji : j = i
  · subst hji
    rw [getD_set_self (by rw [tabL_length]; exact hj'), h1]
  · rw [Go.Gx.getD_set_ne (Ne.symm hji), tabL_getD hj', h2 j hj' hji]
theorem rep_tab (m : Nat) : List.replicate m (Value.float .f32 0) = (tabL m fun _ => 0).map fv := by
  simp [tabL, fv, List.map_const']
theorem tab_at {m i : Nat} {f : Nat → Nat} (h : i < m) : ((tabL m f).map fv)[i]? = some (.float .f32 (f i)) := by
  simp [tabL, h, fv]
def frameAt (xss : List (List Nat)) (t i j : Nat) : Nat := if j < i then frameSum xss j (t + 1) else frameSum xss j t
theorem frameAt_zero (xss : List (List Nat)) (t : Nat) : frameAt xss t 0 = fun j => frameSum xss j t := by funext j; simp [frameAt]
theorem frameAt_next (xss : List (List Nat)) (t m : Nat) : tabL m (frameAt xss t m) = tabL m (frameAt xss (t + 1) 0) := tabL_congr fun j hj => by simp [frameAt, hj]
theorem frameAt_set {xss : List (List Nat)} {t i m : Nat} : (tabL m (frameAt xss t i)).set i (fbin .add .f32 (frameAt xss t i i) ((xss.getD (xss.length - 1 - t) []).getD i 0)) = tabL m (frameAt xss t (i + 1)) := by
  refine tab_set ?_ fun j _ hne => ?_
  · simp [frameAt, frameSum, foldI_succ]
  · unfold frameAt
    by_cases h : j < i
    · rw [if_pos h, if_pos (by omega)]
    · rw [if_neg h, if_neg (by omega)]
def frameL (xss : List (List Nat)) : List Nat := tabL (xss.getD 0 []).length (frameAt xss xss.length 0)
theorem bestF_lt {xss : List (List Nat)} {i : Nat} (h : 0 < xss.length) : ∀ k, k ≤ xss.length → bestF xss i k < xss.length
  | 0, _ => h
  | k + 1, hk => by
    have ih := bestF_lt (i := i) h k (by omega)
    simp only [bestF, foldI_succ] at ih ⊢
    split
    · omega
    · exact ih
def ridgeL (xss : List (List Nat)) (i : Nat) : List Int := (List.range i).map fun j => ((bestF xss j xss.length : Nat) : Int)
theorem ridgeL_length (xss : List (List Nat)) (i : Nat) : (ridgeL xss i).length = i := by simp [ridgeL]
theorem ridgeL_snoc (xss : List (List Nat)) (i : Nat) : (ridgeL xss i).map iv ++ [.int .i64 ((bestF xss i xss.length : Nat) : Int)] = (ridgeL xss (i + 1)).map iv := by simp [ridgeL, List.range_succ, iv]
end Go.Proofs.Ytkojmlpaamdhoae

namespace Go.Proofs.Ytkojmlpaamdhoae
open Go.Gx
set_option maxRecDepth 100000
set_option linter.unusedSimpArgs false
set_option linter.unusedVariables false

theorem wr_range (n : Int) : -9223372036854775808 ≤ wr n ∧ wr n ≤ 9223372036854775807 := by
  unfold wr
  rw [IntKind.wrap_i64]
  omega
def updL (g : Nat → Int) (xs : List Int) (i : Nat) : List Int := (List.range xs.length).map fun k => if k < i then g k else xs.getD k 0
theorem updL_length (g : Nat → Int) (xs : List Int) (i : Nat) : (updL g xs i).length = xs.length := by simp [updL]
theorem updL_zero (g : Nat → Int) (xs : List Int) : updL g xs 0 = xs := by
  refine list_ext_getD 0 (updL_length _ _ _) fun j hj => ?_
  rw [updL_length] at hj
  rw [updL, getD_range_map hj]
  simp
theorem updL_all (g : Nat → Int) (xs : List Int) : updL g xs xs.length = (List.range xs.length).map g := by
  refine list_ext_getD 0 (by simp [updL]) fun j hj => ?_
  rw [updL_length] at hj
  rw [updL, getD_range_map hj, getD_range_map hj, if_pos hj]
theorem updL_at {g : Nat → Int} {xs : List Int} {i : Nat} (h : i < xs.length) : ((updL g xs i).map iv)[i]? = some (.int .i64 (xs.getD i 0)) := by
  simp [updL, h, iv]
theorem updL_set {g : Nat → Int} {xs : List Int} {i : Nat} : (updL g xs i).set i (g i) = updL g xs (i + 1) := by
  refine list_ext_getD 0 (by simp [updL]) fun j hj => ?_
  have hj' : j < xs.length := by simpa [updL] using hj
  by_cases hji : j = i
  · subst hji
    rw [getD_set_self (by rw [updL_length]; exact hj'), updL, getD_range_map hj', if_pos (by omega)]
  · rw [Go.Gx.getD_set_ne (Ne.symm hji), updL, updL, getD_range_map hj', getD_range_map hj']
    by_cases h : j < i
    · rw [if_pos h, if_pos (by omega)]
    · rw [if_neg h, if_neg (by omega)]
theorem i64_range (n : Nat) (f : Nat → Int) (h : ∀ j, -9223372036854775808 ≤ f j ∧ f j ≤ 9223372036854775807) : I64 ((List.range n).map f) := fun j => by
  by_cases hj : j < n
  · rw [getD_range_map hj]; exact h j
  · simp [List.getD_eq_getElem?_getD, List.getElem?_eq_none (l := List.range n) (i := j) (by simp; omega)]
theorem i64_ev {xs : List Int} (h : I64 xs) (n : Nat) : I64 (evL 0 xs n) := i64_range _ _ fun j => h _
theorem i64_od {xs : List Int} (h : I64 xs) (n : Nat) : I64 (odL 0 xs n) := i64_range _ _ fun j => h _
theorem liftO_length (kind : Int) (xs : List Int) : (liftO kind xs).length = xs.length / 2 := by simp [liftO, lowerO, odL_length]
theorem liftE_length (kind : Int) (xs : List Int) : (liftE kind xs).length = (xs.length + 1) / 2 := by simp [liftE, raiseE, evL_length]
theorem i64_liftO (kind : Int) (xs : List Int) : I64 (liftO kind xs) := i64_range _ _ fun j => wr_range _
theorem i64_liftE (kind : Int) (xs : List Int) : I64 (liftE kind xs) := i64_range _ _ fun j => wr_range _
end Go.Proofs.Ytkojmlpaamdhoae

namespace Go.Proofs.Ytkojmlpaamdhoae
open Go.Gx
set_option maxRecDepth 100000
set_option linter.unusedSimpArgs false
set_option linter.unusedVariables false

theorem OwN_init {lo hi : Nat} {H : Heap} {ty : TypeId} {vs : List Value} {ls : List (List Value)} {v : Value} {l : List Value} (o : OwN lo hi H ty (vs ++ [v]) (ls ++ [l])) : OwN lo hi H ty vs ls := by
  obtain ⟨h1, h2, h3⟩ := o
  have hl : vs.length = ls.length := by simpa using h1
  have ea : ∀ i, i < ls.length → (vs ++ [v]).getD i undef = vs.getD i undef := fun i hi' => getD_app_lt (by omega)
  refine ⟨hl, fun i hi' => ?_, fun i j h hi' hj hh hk => h3 i j h (by simp; omega) (by simp; omega) (by rw [ea i hi']; exact hh) (by rw [ea j hj]; exact hk)⟩
  have := h2 i (by simp; omega)
  rwa [ea i hi', getD_app_lt hi'] at this
theorem OwN_last {lo hi : Nat} {H : Heap} {ty : TypeId} {vs : List Value} {ls : List (List Value)} {v : Value} {l : List Value} (o : OwN lo hi H ty (vs ++ [v]) (ls ++ [l])) : OwL lo hi H ty v l := by
  obtain ⟨h1, h2, h3⟩ := o
  have hl : vs.length = ls.length := by simpa using h1
  have := h2 ls.length (by simp)
  rw [getD_app_at] at this
  rwa [← hl, getD_app_at] at this
theorem OwN_put {lo hi h : Nat} {H : Heap} {ty sty : TypeId} {vs : List Value} {ls : List (List Value)} {cs : List Value} {own : Bool} {b : Blk} (o : OwN lo hi H ty vs ls) (hb : H.blk h = some ⟨own, sty, cs⟩) (hne : sty ≠ ty) : OwN lo hi (H.put h b) ty vs ls :=
  o.keep (Nat.le_refl _) fun i k hi' hk => hput_other _ _ _ _ fun e => (o.2.1 i hi').ne hb hne (by rw [hk, e])
theorem OwL_put {lo hi h : Nat} {H : Heap} {ty sty : TypeId} {v : Value} {l cs : List Value} {own : Bool} {b : Blk} (o : OwL lo hi H ty v l) (hb : H.blk h = some ⟨own, sty, cs⟩) (hne : sty ≠ ty) : OwL lo hi (H.put h b) ty v l :=
  o.keep (Nat.le_refl _) fun k hk => hput_other _ _ _ _ fun e => o.ne hb hne (by rw [hk, e])
/-- Two lists made later. -/
theorem OwN_two {lo : Nat} {G G' : Heap} {ty : TypeId} {vs : List Value} {ls : List (List Value)} {a b : Value} {la lb : List Value} (o : OwN lo G.n G ty vs ls) (e : Ext G G') (hlo : lo ≤ G.n) (p : OwN G.n G'.n G' ty [a, b] [la, lb]) : OwN lo G'.n G' ty (vs ++ [b] ++ [a]) (ls ++ [lb] ++ [la]) := by
  have o1 := (o.ext e).wide (Nat.le_refl _) e.n
  have pa := p.fst
  have pb := p.snd
  have hab : ∀ h, hdl b = some h → hdl a ≠ some h := fun h h1 h2 => by
    have := p.2.2 0 1 h (by simp) (by simp) h2 h1
    omega
  have o2 := o1.snoc (pb.wide hlo (Nat.le_refl _)) fun i h hi' hh hk => by
    have h1 := (o.lt hi' hh).2.1
    have h2 := (pb.hdl hk).1
    omega
  refine o2.snoc (pa.wide hlo (Nat.le_refl _)) fun i h hi' hh hk => ?_
  by_cases hlt : i < ls.length
  · rw [getD_app_lt (by rw [o.1]; exact hlt)] at hh
    have h1 := (o.lt hlt hh).2.1
    have h2 := (pa.hdl hk).1
    omega
  · have hi2 : i = ls.length := by simp at hi'; omega
    rw [hi2, ← o.1, getD_app_at] at hh
    exact hab h hh hk
def nowI (kind : Int) (xs : List Int) : Nat → List Int := foldI (fun _ l => liftE kind l) xs
def outI (kind : Int) (xs : List Int) (t : Nat) : List (List Int) := (List.range t).map fun k => liftO kind (nowI kind xs k)
theorem outI_succ (kind : Int) (xs : List Int) (t : Nat) : outI kind xs (t + 1) = outI kind xs t ++ [liftO kind (nowI kind xs t)] := by simp [outI, List.range_succ]
theorem nowI_succ (kind : Int) (xs : List Int) (t : Nat) : nowI kind xs (t + 1) = liftE kind (nowI kind xs t) := rfl
theorem nowI_le (kind : Int) (xs : List Int) : ∀ t, (nowI kind xs t).length ≤ xs.length + 1
  | 0 => by simp [nowI, foldI_zero]
  | t + 1 => by have := nowI_le kind xs t; rw [nowI_succ, liftE_length]; omega
def stopN (p : Nat → Bool) : Nat → Nat
  | 0 => 0
  | n + 1 => if stopN p n = n ∧ p n = true then n + 1 else stopN p n
theorem stopN_le (p : Nat → Bool) : ∀ n, stopN p n ≤ n
  | 0 => Nat.le_refl _
  | n + 1 => by
    have := stopN_le p n
    unfold stopN
    split <;> omega
theorem stopN_full {p : Nat → Bool} : ∀ t, (∀ s, s < t → p s = true) → stopN p t = t
  | 0, _ => rfl
  | t + 1, h => by
    unfold stopN
    rw [if_pos ⟨stopN_full t fun s hs => h s (by omega), h t (by omega)⟩]
theorem stopN_eq {p : Nat → Bool} {t : Nat} (h : ∀ s, s < t → p s = true) : ∀ n, t ≤ n → (t < n → p t = false) → stopN p n = t
  | 0, hn, _ => by have : t = 0 := by omega
                   subst this; rfl
  | n + 1, hn, hp => by
    by_cases h1 : t = n + 1
    · subst h1; exact stopN_full _ h
    · have ih := stopN_eq h n (by omega) fun _ => hp (by omega)
      unfold stopN
      rw [ih]
      by_cases h2 : t = n
      · subst h2
        rw [hp (by omega)]
        simp
      · rw [if_neg (fun h => h2 h.1)]
def moreI (kind : Int) (xs : List Int) (t : Nat) : Bool := decide (1 < (nowI kind xs t).length)
def levelsI (kind : Int) (xs : List Int) (n : Nat) : List (List Int) := outI kind xs (stopN (moreI kind xs) n) ++ [nowI kind xs (stopN (moreI kind xs) n)]
theorem outI_len (kind : Int) (xs : List Int) (t : Nat) : (outI kind xs t).length = t := by simp [outI]
theorem outI_sum (kind : Int) (xs : List Int) (hx : xs.length ≤ 128) : ∀ t, offN (outI kind xs t) t ≤ 129 * t
  | 0 => by simp [offN_zero]
  | t + 1 => by
    have ih := outI_sum kind xs hx t
    have h1 := nowI_le kind xs t
    have h2 := liftO_length kind (nowI kind xs t)
    rw [outI_succ, offN_succ (by simp [outI_len])]
    have e1 : offN (outI kind xs t ++ [liftO kind (nowI kind xs t)]) t = offN (outI kind xs t) t := by
      unfold offN
      rw [List.take_append_of_le_length (by rw [outI_len]; exact Nat.le_refl _)]
    have e2 : (outI kind xs t ++ [liftO kind (nowI kind xs t)]).getD t [] = liftO kind (nowI kind xs t) := by
      have := @getD_app_at _ (outI kind xs t) (liftO kind (nowI kind xs t)) []
      rwa [outI_len] at this
    rw [e1, e2]
    omega
theorem levelsI_tot (kind : Int) (xs : List Int) (hx : xs.length ≤ 128) (n : Nat) (hn : n ≤ 6) : totL (levelsI kind xs n) ≤ 2 ^ 40 := by
  have hs := stopN_le (moreI kind xs) n
  obtain ⟨t, ht⟩ : ∃ t, t = stopN (moreI kind xs) n := ⟨_, rfl⟩
  unfold levelsI
  rw [← ht] at hs ⊢
  have h1 := outI_sum kind xs hx t
  have h2 := nowI_le kind xs t
  have hl : (outI kind xs t ++ [nowI kind xs t]).length = t + 1 := by simp [outI_len]
  unfold totL
  rw [hl, offN_succ (by rw [hl]; omega)]
  have e1 : offN (outI kind xs t ++ [nowI kind xs t]) t = offN (outI kind xs t) t := by
    unfold offN
    rw [List.take_append_of_le_length (by rw [outI_len]; exact Nat.le_refl _)]
  have e2 : (outI kind xs t ++ [nowI kind xs t]).getD t [] = nowI kind xs t := by
    have := @getD_app_at _ (outI kind xs t) (nowI kind xs t) []
    rwa [outI_len] at this
  rw [e1, e2]
  omega
theorem integers_len {xs : List Int} (h : integersF xs = true) : 1 ≤ xs.length ∧ xs.length ≤ 128 := by
  simp only [integersF, Bool.and_eq_true] at h
  have := within_true.1 h.1
  omega
theorem i64_nowI {kind : Int} {xs : List Int} (h : I64 xs) : ∀ t, I64 (nowI kind xs t)
  | 0 => h
  | t + 1 => i64_liftE _ _
end Go.Proofs.Ytkojmlpaamdhoae

namespace Go.Proofs.Ytkojmlpaamdhoae
open Go.Gx
set_option maxRecDepth 100000
set_option linter.unusedSimpArgs false
set_option linter.unusedVariables false

theorem rd1_at {H : Heap} {k : Nat} {ty : TypeId} {v : Value} (h : k = H.n) : readSl (H.new ⟨true, ty, [v]⟩) (.slice (some ⟨k, 0, none⟩) 1 1) = some [v] := by subst h; exact rd1_new
theorem tdiv2 (n : Nat) : ((n : Int)).tdiv 2 = ((n / 2 : Nat) : Int) := tdivN n 2
theorem ring_ix (n j k : Nat) : (2 * (j : Int) + (k : Int)).tmod (n : Int) = (((2 * j + k) % n : Nat) : Int) := by
  have : 2 * (j : Int) + (k : Int) = ((2 * j + k : Nat) : Int) := by omega
  rw [this, tmodN]
def tapF (xs ps : List Nat) (j : Nat) : Nat → Nat := foldI (fun k a => fbin .add .f32 a (fbin .mul .f32 (ps.getD k 0) (xs.getD ((2 * j + k) % xs.length) 0))) 0
theorem tapF_succ (xs ps : List Nat) (j k : Nat) : tapF xs ps j (k + 1) = fbin .add .f32 (tapF xs ps j k) (fbin .mul .f32 (ps.getD k 0) (xs.getD ((2 * j + k) % xs.length) 0)) := rfl
def tapL (xs ps : List Nat) : List Nat := tabL (xs.length / 2) fun j => tapF xs ps j ps.length
def splitOk (xs ps : List Nat) : Bool := isLongF xs && decide (xs.length % 2 = 0) && validPairF ps && ((tapL xs ps).all finF && (tapL xs (highL ps)).all finF)
def joinK (lo hi ps hp out : List Nat) (j k : Nat) : List Nat := out.set ((2 * j + k) % (2 * lo.length)) (fbin .add .f32 (out.getD ((2 * j + k) % (2 * lo.length)) 0) (fbin .add .f32 (fbin .mul .f32 (ps.getD k 0) (lo.getD j 0)) (fbin .mul .f32 (hp.getD k 0) (hi.getD j 0))))
def joinJ (lo hi ps hp out : List Nat) (j : Nat) : Nat → List Nat := foldI (fun k o => joinK lo hi ps hp o j k) out
def joinN (lo hi ps hp : List Nat) : Nat → List Nat := foldI (fun j o => joinJ lo hi ps hp o j ps.length) (List.replicate (2 * lo.length) 0)
theorem joinJ_len (lo hi ps hp out : List Nat) (j : Nat) : ∀ k, (joinJ lo hi ps hp out j k).length = out.length
  | 0 => rfl
  | k + 1 => by
    have := joinJ_len lo hi ps hp out j k
    simp only [joinJ, foldI_succ, joinK, List.length_set] at this ⊢
    exact this
theorem joinN_len (lo hi ps hp : List Nat) : ∀ j, (joinN lo hi ps hp j).length = 2 * lo.length
  | 0 => by simp [joinN, foldI_zero]
  | j + 1 => by
    have := joinN_len lo hi ps hp j
    simp only [joinN, foldI_succ] at this ⊢
    rw [joinJ_len]; exact this
theorem joinJ_succ (lo hi ps hp out : List Nat) (j k : Nat) : joinJ lo hi ps hp out j (k + 1) = joinK lo hi ps hp (joinJ lo hi ps hp out j k) j k := rfl
theorem joinN_succ (lo hi ps hp : List Nat) (j : Nat) : joinN lo hi ps hp (j + 1) = joinJ lo hi ps hp (joinN lo hi ps hp j) j ps.length := rfl
def joinL (lo hi ps : List Nat) : List Nat := joinN lo hi ps (highL ps) lo.length
def joinOk (lo hi ps : List Nat) : Bool := within lo.length 1 64 && decide (hi.length = lo.length) && (lo.all finF && hi.all finF) && validPairF ps && (joinL lo hi ps).all finF
theorem fv_at {xs : List Nat} {i : Nat} (h : i < xs.length) : (xs.map fv)[i]? = some (.float .f32 (xs.getD i 0)) := by simp [List.getD_eq_getElem?_getD, h, fv]
theorem rep_fv (n : Nat) : List.replicate n (Value.float .f32 0) = (List.replicate n 0).map fv := by simp [fv]
end Go.Proofs.Ytkojmlpaamdhoae

namespace Go.Proofs.Ytkojmlpaamdhoae
open Go.Gx
set_option maxRecDepth 100000
set_option linter.unusedSimpArgs false
set_option linter.unusedVariables false

structure AG (H : Heap) (v : Value) (xs : List Nat) : Prop where
  rd : FS H v xs
  le : xs.length ≤ 2 ^ 40
theorem AF_g {H : Heap} {v : Value} {xs : List Nat} (a : AF H v xs) : AG H v xs := ⟨a.rd, a.le⟩
end Go.Proofs.Ytkojmlpaamdhoae

namespace Go.Proofs.Ytkojmlpaamdhoae
open Go.Gx
set_option maxRecDepth 100000
set_option linter.unusedSimpArgs false
set_option linter.unusedVariables false

def nowJ (xs : List Nat) (yss : List (List Nat)) (ps : List Nat) : Nat → List Nat := foldI (fun t l => joinL l (yss.getD (yss.length - 1 - t) []) ps) xs
theorem nowJ_succ (xs : List Nat) (yss : List (List Nat)) (ps : List Nat) (t : Nat) : nowJ xs yss ps (t + 1) = joinL (nowJ xs yss ps t) (yss.getD (yss.length - 1 - t) []) ps := rfl
theorem nowJ_len_succ (xs : List Nat) (yss : List (List Nat)) (ps : List Nat) (t : Nat) : (nowJ xs yss ps (t + 1)).length = 2 * (nowJ xs yss ps t).length := joinN_len _ _ _ _ _
theorem det_le {xs : List Nat} {yss : List (List Nat)} (h : validBandsF xs yss = true) : ∀ i, i < yss.length → 1 ≤ (yss.getD i []).length ∧ (yss.getD i []).length ≤ (yss.getD 0 []).length
  | 0, hi => by
    have := (vb_yes h).2.2.2.2.1 0 hi
    simp only [detAt, Bool.and_eq_true, decide_eq_true_eq] at this
    exact ⟨this.1, Nat.le_refl _⟩
  | i + 1, hi => by
    have ih := det_le h i (by omega)
    have := (vb_yes h).2.2.2.2.1 (i + 1) hi
    simp only [detAt, Bool.and_eq_true, Bool.or_eq_true, decide_eq_true_eq] at this
    have h2 := this.2
    simp only [Nat.add_sub_cancel] at h2
    omega
theorem nowJ_len {xs : List Nat} {yss : List (List Nat)} {ps : List Nat} (h : validBandsF xs yss = true) : ∀ t, t < yss.length → (nowJ xs yss ps t).length = (yss.getD (yss.length - 1 - t) []).length
  | 0, ht => by
    have := (vb_yes h).2.2.2.2.2
    simpa [nowJ, foldI_zero] using this
  | t + 1, ht => by
    have ih := nowJ_len (ps := ps) h t (by omega)
    have := (vb_yes h).2.2.2.2.1 (yss.length - 1 - t) (by omega)
    simp only [detAt, Bool.and_eq_true, Bool.or_eq_true, decide_eq_true_eq] at this
    rw [nowJ_len_succ, ih, show yss.length - 1 - (t + 1) = yss.length - 1 - t - 1 by omega]
    omega
def allJ (xs : List Nat) (yss : List (List Nat)) (ps : List Nat) : Bool := (List.range yss.length).all fun t => (nowJ xs yss ps (t + 1)).all finF
def joinLevOk (xs : List Nat) (yss : List (List Nat)) (ps : List Nat) : Bool := validBandsF xs yss && validPairF ps && allJ xs yss ps
end Go.Proofs.Ytkojmlpaamdhoae

namespace Go.Proofs.Ytkojmlpaamdhoae
open Go.Gx
set_option maxRecDepth 100000
set_option linter.unusedSimpArgs false
set_option linter.unusedVariables false

def updF (g : Nat → Nat) (xs : List Nat) (i : Nat) : List Nat := (List.range xs.length).map fun k => if k < i then g k else xs.getD k 0
theorem updF_length (g : Nat → Nat) (xs : List Nat) (i : Nat) : (updF g xs i).length = xs.length := by simp [updF]
theorem updF_zero (g : Nat → Nat) (xs : List Nat) : updF g xs 0 = xs := by
  refine list_ext_getD 0 (updF_length _ _ _) fun j hj => ?_
  rw [updF_length] at hj
  rw [updF, getD_range_map hj]
  simp
theorem updF_all (g : Nat → Nat) (xs : List Nat) : updF g xs xs.length = (List.range xs.length).map g := by
  refine list_ext_getD 0 (by simp [updF]) fun j hj => ?_
  rw [updF_length] at hj
  rw [updF, getD_range_map hj, getD_range_map hj, if_pos hj]
theorem updF_at {g : Nat → Nat} {xs : List Nat} {i : Nat} (h : i < xs.length) : ((updF g xs i).map fv)[i]? = some (.float .f32 (xs.getD i 0)) := by
  simp [updF, h, fv]
theorem updF_set {g : Nat → Nat} {xs : List Nat} {i : Nat} : (updF g xs i).set i (g i) = updF g xs (i + 1) := by
  refine list_ext_getD 0 (by simp [updF]) fun j hj => ?_
  have hj' : j < xs.length := by simpa [updF] using hj
  by_cases hji : j = i
  · subst hji
    rw [getD_set_self (by rw [updF_length]; exact hj'), updF, getD_range_map hj', if_pos (by omega)]
  · rw [Go.Gx.getD_set_ne (Ne.symm hji), updF, updF, getD_range_map hj', getD_range_map hj']
    by_cases h : j < i
    · rw [if_pos h, if_pos (by omega)]
    · rw [if_neg h, if_neg (by omega)]
theorem fin_nan {x : Nat} (h : finF x = true) : nanB .f32 x = false := by
  obtain ⟨s, m, e, hr⟩ := finF_num.1 h
  unfold nanB FloatKind.decode
  have : FloatKind.f32.format.read x = Ieee.single.read x := rfl
  rw [this, hr]; rfl
theorem ares_0 (φ : Go.Gx.Frame) (H : Heap) : ares φ H [] = some (.tuple #[]) := rfl
theorem isLong_len {xs : List Nat} (h : isLongF xs = true) : xs.length ≤ 128 ∧ 1 ≤ xs.length := by
  simp only [isLongF, Bool.and_eq_true] at h
  have := within_true.1 h.1
  omega
def mulL (sc : Nat) (xs : List Nat) : Nat → List Nat := updF (fun k => fbin .mul .f32 (xs.getD k 0) sc) xs
def quoL (sc : Nat) (xs : List Nat) : Nat → List Nat := updF (fun k => fbin .quo .f32 (xs.getD k 0) sc) xs
theorem range_getD_map (f : Nat → Nat) (xs : List Nat) : (List.range xs.length).map (fun k => f (xs.getD k 0)) = xs.map f := by
  refine List.ext_getElem (by simp) fun i h1 h2 => ?_
  have h : i < xs.length := by simpa using h2
  simp [List.getD_eq_getElem?_getD, h]
theorem mulL_all (sc : Nat) (xs : List Nat) : mulL sc xs xs.length = xs.map fun x => fbin .mul .f32 x sc := by
  rw [mulL, updF_all]; exact range_getD_map (fun x => fbin .mul .f32 x sc) xs
theorem quoL_all (sc : Nat) (xs : List Nat) : quoL sc xs xs.length = xs.map fun x => fbin .quo .f32 x sc := by
  rw [quoL, updF_all]; exact range_getD_map (fun x => fbin .quo .f32 x sc) xs
theorem mulL_length (sc : Nat) (xs : List Nat) (i : Nat) : (mulL sc xs i).length = xs.length := updF_length _ _ _
theorem quoL_length (sc : Nat) (xs : List Nat) (i : Nat) : (quoL sc xs i).length = xs.length := updF_length _ _ _
theorem mulL_zero (sc : Nat) (xs : List Nat) : mulL sc xs 0 = xs := updF_zero _ _
theorem quoL_zero (sc : Nat) (xs : List Nat) : quoL sc xs 0 = xs := updF_zero _ _
theorem mulL_at {sc : Nat} {xs : List Nat} {i : Nat} (h : i < xs.length) : ((mulL sc xs i).map fv)[i]? = some (.float .f32 (xs.getD i 0)) := updF_at h
theorem quoL_at {sc : Nat} {xs : List Nat} {i : Nat} (h : i < xs.length) : ((quoL sc xs i).map fv)[i]? = some (.float .f32 (xs.getD i 0)) := updF_at h
theorem mulL_set {sc : Nat} {xs : List Nat} {i : Nat} : ((mulL sc xs i).map fv).set i (.float .f32 (fbin .mul .f32 (xs.getD i 0) sc)) = (mulL sc xs (i + 1)).map fv := by rw [fv_set']; exact congrArg (List.map fv) updF_set
theorem quoL_set {sc : Nat} {xs : List Nat} {i : Nat} : ((quoL sc xs i).map fv).set i (.float .f32 (fbin .quo .f32 (xs.getD i 0) sc)) = (quoL sc xs (i + 1)).map fv := by rw [fv_set']; exact congrArg (List.map fv) updF_set
theorem weighUp_zero (ws : List Nat) (p : List Nat × List Nat) : weighUp ws p 0 = p := rfl
theorem weighUp_succ (ws : List Nat) (p : List Nat × List Nat) (i : Nat) : weighUp ws p (i + 1) = weighF i (ws.getD i 0) (weighUp ws p i) := rfl
structure RF (H : Heap) (v : Value) (xs : List Nat) : Prop where
  rd : FS H v xs
  le : xs.length ≤ 2 ^ 40
end Go.Proofs.Ytkojmlpaamdhoae

namespace Go.Proofs.Ytkojmlpaamdhoae
open Go.Gx
set_option maxRecDepth 100000
set_option linter.unusedSimpArgs false
set_option linter.unusedVariables false

theorem weighDown_zero (ws : List Nat) (p : List Nat × List Nat) : weighDown ws p 0 = p := rfl
theorem weighDown_succ (ws : List Nat) (p : List Nat × List Nat) (i : Nat) : weighDown ws p (i + 1) = weighF (ws.length - 1 - i) (fneg .f32 (ws.getD (ws.length - 1 - i) 0)) (weighDown ws p i) := rfl
def dropOk (ws : List Nat) (sc : Nat) (ev od : List Nat) : Bool := schemeF ws sc && fitF ev.length od.length && (ev.all finF && od.all finF) && (dropF ws sc ev od).all finF
theorem dropF_len (ws : List Nat) (sc : Nat) (ev od : List Nat) : (dropF ws sc ev od).length ≤ 2 * ev.length := by
  unfold dropF
  split
  · omega
  · have h := wovL_len (d := 0) (ev := (weighDown ws (ev.map fun x => fbin .quo .f32 x sc, od.map fun x => fbin .mul .f32 x sc) ws.length).1) (od := (weighDown ws (ev.map fun x => fbin .quo .f32 x sc, od.map fun x => fbin .mul .f32 x sc) ws.length).2) ((weighDown ws (ev.map fun x => fbin .quo .f32 x sc, od.map fun x => fbin .mul .f32 x sc) ws.length).1.length)
    have h2 := (weighDown_len ws (ev.map fun x => fbin .quo .f32 x sc, od.map fun x => fbin .mul .f32 x sc) ws.length).1
    simp only [List.length_map] at h2
    dsimp only
    rw [h2] at h ⊢
    exact h
theorem fit_facts {a b : Nat} (h : fitF a b = true) : 1 ≤ a ∧ (b = a ∨ b + 1 = a) ∧ a + b ≤ 128 := by
  simp only [fitF, Bool.and_eq_true, Bool.or_eq_true, decide_eq_true_eq] at h
  exact ⟨h.1.1, h.1.2, h.2⟩
theorem wovL_nil (ev od : List Nat) (h : od.length = 0) : wovL 0 ev od ev.length = ev := by
  have h1 : ∀ j, ¬ j < od.length := fun j => by omega
  have h2 := range_getD_map (fun x => x) ev
  simp only [List.map_id'] at h2
  conv => rhs; rw [← h2]
  simp only [wovL, h1, if_false]
  exact List.map_eq_flatMap.symm
theorem new_put1 {H : Heap} {a b c : Blk} : ((H.new a).new b).put (H.n + 1) c = (H.new a).new c := new_put (H := H.new a) ..
end Go.Proofs.Ytkojmlpaamdhoae

namespace Go.Proofs.Ytkojmlpaamdhoae
open Go.Gx
set_option maxRecDepth 100000
set_option linter.unusedSimpArgs false
set_option linter.unusedVariables false

theorem new_put2 {H : Heap} {a b c : Blk} : ((H.new a).new b).put (H.n + 1) c = (H.new a).new c := new_put (H := H.new a) ..
theorem dropE_length (kind : Int) (ev od : List Int) : (dropE kind ev od).length = ev.length := by simp [dropE]
theorem dropO_length (kind : Int) (ev od : List Int) : (dropO kind ev od).length = od.length := by simp [dropO]
theorem i64_dropE (kind : Int) (ev od : List Int) : I64 (dropE kind ev od) := i64_range _ _ fun j => wr_range _
def dropOkI (kind : Int) (ev od : List Int) : Bool := within kind 0 2 && fitF ev.length od.length && boundF ev 10000000 && boundF od 10000000 && integersF (dropI kind ev od)
theorem fit_facts' {a b : Nat} (h : fitF a b = true) : 1 ≤ a ∧ (b = a ∨ b + 1 = a) ∧ a + b ≤ 128 := by
  simp only [fitF, Bool.and_eq_true, Bool.or_eq_true, decide_eq_true_eq] at h
  exact ⟨h.1.1, h.1.2, h.2⟩
structure RI (H : Heap) (v : Value) (xs : List Int) : Prop where
  rd : IS H v xs
  le : xs.length ≤ 2 ^ 40
end Go.Proofs.Ytkojmlpaamdhoae

namespace Go.Proofs.Ytkojmlpaamdhoae
open Go.Gx
set_option maxRecDepth 100000
set_option linter.unusedSimpArgs false
set_option linter.unusedVariables false

def zerosF (n : Nat) : List Nat := List.replicate n 0
theorem zerosF_length (n : Nat) : (zerosF n).length = n := by simp [zerosF]
theorem zerosF_map (n : Nat) : List.replicate n (Value.float .f32 0) = (zerosF n).map fv := rep_fv _
theorem zerosF_w (n : Nat) : W32 (zerosF n) := fun j => by
  unfold zerosF
  by_cases h : j < n <;> simp [List.getD_eq_getElem?_getD, h]
theorem zerosF_fin (n : Nat) : (zerosF n).all finF = true := by
  rw [List.all_eq_true]
  intro x hx
  rw [zerosF, List.mem_replicate] at hx
  rw [hx.2]
  decide
def growOk (ws : List Nat) (sc : Nat) (xs : List Nat) : Bool := isLongF xs && (decide (xs.length ≤ 64) && dropOk ws sc xs (zerosF xs.length))
theorem isLong_fin {xs : List Nat} (h : isLongF xs = true) : xs.all finF = true := by
  unfold isLongF at h
  rw [Bool.and_eq_true] at h
  exact h.2
theorem fit_same {n : Nat} (h : 1 ≤ n) (h' : n ≤ 64) : fitF n n = true := by
  unfold fitF
  rw [decide_eq_true h, decide_eq_true (show n = n from rfl), decide_eq_true (show n + n ≤ 128 by omega)]
  rfl
end Go.Proofs.Ytkojmlpaamdhoae

namespace Go.Proofs.Ytkojmlpaamdhoae
open Go.Gx
set_option maxRecDepth 100000
set_option linter.unusedSimpArgs false
set_option linter.unusedVariables false

theorem liftF_len1 (ws : List Nat) (sc : Nat) (xs : List Nat) : (liftF ws sc xs).1.length = (xs.length + 1) / 2 := by
  unfold liftF; split
  · exact evL_length _
  · rw [List.length_map, (weighUp_len _ _ _).1]; exact evL_length _
theorem liftF_len2 (ws : List Nat) (sc : Nat) (xs : List Nat) : (liftF ws sc xs).2.length = xs.length / 2 := by
  unfold liftF; split
  · exact odL_length _
  · rw [List.length_map, (weighUp_len _ _ _).2]; exact odL_length _
def nowD (ws : List Nat) (sc : Nat) (xs : List Nat) : Nat → List Nat := foldI (fun _ l => (liftF ws sc l).1) xs
def outD (ws : List Nat) (sc : Nat) (xs : List Nat) (t : Nat) : List (List Nat) := (List.range t).map fun k => (liftF ws sc (nowD ws sc xs k)).2
theorem outD_succ (ws : List Nat) (sc : Nat) (xs : List Nat) (t : Nat) : outD ws sc xs (t + 1) = outD ws sc xs t ++ [(liftF ws sc (nowD ws sc xs t)).2] := by simp [outD, List.range_succ]
theorem nowD_succ (ws : List Nat) (sc : Nat) (xs : List Nat) (t : Nat) : nowD ws sc xs (t + 1) = (liftF ws sc (nowD ws sc xs t)).1 := rfl
theorem nowD_le (ws : List Nat) (sc : Nat) (xs : List Nat) (hx : 1 ≤ xs.length) : ∀ t, 1 ≤ (nowD ws sc xs t).length ∧ (nowD ws sc xs t).length ≤ xs.length
  | 0 => by simp [nowD, foldI_zero, hx]
  | t + 1 => by have := nowD_le ws sc xs hx t; rw [nowD_succ, liftF_len1]; omega
def moreD (ws : List Nat) (sc : Nat) (xs : List Nat) (t : Nat) : Bool := decide (1 < (nowD ws sc xs t).length)
def levelsD (ws : List Nat) (sc : Nat) (xs : List Nat) (n : Nat) : List (List Nat) := outD ws sc xs (stopN (moreD ws sc xs) n) ++ [nowD ws sc xs (stopN (moreD ws sc xs) n)]
theorem outD_len (ws : List Nat) (sc : Nat) (xs : List Nat) (t : Nat) : (outD ws sc xs t).length = t := by simp [outD]
theorem outD_sum (ws : List Nat) (sc : Nat) (xs : List Nat) (h1 : 1 ≤ xs.length) (hx : xs.length ≤ 128) : ∀ t, offN (outD ws sc xs t) t ≤ 129 * t
  | 0 => by simp [offN_zero]
  | t + 1 => by
    have ih := outD_sum ws sc xs h1 hx t
    have h1 := nowD_le ws sc xs h1 t
    have h2 := liftF_len2 ws sc (nowD ws sc xs t)
    rw [outD_succ, offN_succ (by simp [outD_len])]
    have e1 : offN (outD ws sc xs t ++ [(liftF ws sc (nowD ws sc xs t)).2]) t = offN (outD ws sc xs t) t := by
      unfold offN
      rw [List.take_append_of_le_length (by rw [outD_len]; exact Nat.le_refl _)]
    have e2 : (outD ws sc xs t ++ [(liftF ws sc (nowD ws sc xs t)).2]).getD t [] = (liftF ws sc (nowD ws sc xs t)).2 := by
      have := @getD_app_at _ (outD ws sc xs t) ((liftF ws sc (nowD ws sc xs t)).2) []
      rwa [outD_len] at this
    rw [e1, e2]
    omega
theorem levelsD_tot (ws : List Nat) (sc : Nat) (xs : List Nat) (h1 : 1 ≤ xs.length) (hx : xs.length ≤ 128) (n : Nat) (hn : n ≤ 6) : totL (levelsD ws sc xs n) ≤ 2 ^ 40 := by
  have hs := stopN_le (moreD ws sc xs) n
  obtain ⟨t, ht⟩ : ∃ t, t = stopN (moreD ws sc xs) n := ⟨_, rfl⟩
  unfold levelsD
  rw [← ht] at hs ⊢
  have h3 := outD_sum ws sc xs h1 hx t
  have h2 := nowD_le ws sc xs h1 t
  have hl : (outD ws sc xs t ++ [nowD ws sc xs t]).length = t + 1 := by simp [outD_len]
  unfold totL
  rw [hl, offN_succ (by rw [hl]; omega)]
  have e1 : offN (outD ws sc xs t ++ [nowD ws sc xs t]) t = offN (outD ws sc xs t) t := by
    unfold offN
    rw [List.take_append_of_le_length (by rw [outD_len]; exact Nat.le_refl _)]
  have e2 : (outD ws sc xs t ++ [nowD ws sc xs t]).getD t [] = nowD ws sc xs t := by
    have := @getD_app_at _ (outD ws sc xs t) (nowD ws sc xs t) []
    rwa [outD_len] at this
  rw [e1, e2]
  omega
theorem stopN_mono (p : Nat → Bool) (m : Nat) : ∀ d, stopN p m ≤ stopN p (m + d)
  | 0 => Nat.le_refl _
  | d + 1 => by
    have h1 := stopN_mono p m d
    have h2 := stopN_le p (m + d)
    have : stopN p (m + d) ≤ stopN p (m + d + 1) := by
      conv => rhs; unfold stopN
      split <;> omega
    exact Nat.le_trans h1 this
theorem stopN_gt {p : Nat → Bool} {t n : Nat} (h : ∀ k, k ≤ t → p k = true) (hn : t < n) : t < stopN p n := by
  have h1 := stopN_full (p := p) (t + 1) fun s hs => h s (by omega)
  have h2 := stopN_mono p (t + 1) (n - (t + 1))
  rw [show t + 1 + (n - (t + 1)) = n by omega] at h2
  omega
def deepOk (ws : List Nat) (sc : Nat) (xs : List Nat) (n : Int) : Bool := schemeF ws sc && isLongF xs && within n 1 6 && (List.range (stopN (moreD ws sc xs) n.toNat)).all fun k => liftOkF ws sc (nowD ws sc xs k)
theorem deepOk_no {ws : List Nat} {sc : Nat} {xs : List Nat} {n : Int} {t : Nat} (h : t < stopN (moreD ws sc xs) n.toNat) (h' : liftOkF ws sc (nowD ws sc xs t) = false) : deepOk ws sc xs n = false := by
  have : ((List.range (stopN (moreD ws sc xs) n.toNat)).all fun k => liftOkF ws sc (nowD ws sc xs k)) = false := by
    rw [List.all_eq_false]
    exact ⟨t, List.mem_range.2 h, by rw [h']; decide⟩
  unfold deepOk
  rw [this, Bool.and_false]
theorem deepOk_yes {ws : List Nat} {sc : Nat} {xs : List Nat} {n : Int} (h0 : schemeF ws sc = true) (h1 : isLongF xs = true) (h2 : within n 1 6 = true) (h : ∀ k, k < stopN (moreD ws sc xs) n.toNat → liftOkF ws sc (nowD ws sc xs k) = true) : deepOk ws sc xs n = true := by
  unfold deepOk
  rw [h0, h1, h2, Bool.and_self, Bool.and_self, Bool.true_and, List.all_eq_true]
  exact fun k hk => h k (List.mem_range.1 hk)
theorem liftOk_fin {ws : List Nat} {sc : Nat} {xs : List Nat} (hx : isLongF xs = true) (h : liftOkF ws sc xs = true) : isLongF (liftF ws sc xs).1 = true := by
  obtain ⟨hl, hl1⟩ := isLong_len hx
  have hf := isLong_fin hx
  have h1 := liftF_len1 ws sc xs
  unfold isLongF
  rw [within_true.2 (by omega), Bool.true_and]
  unfold liftOkF at h
  rw [Bool.or_eq_true, Bool.and_eq_true, decide_eq_true_eq] at h
  rcases h with h | h
  · unfold liftF
    rw [if_pos h]
    rw [List.all_eq_true] at hf ⊢
    intro x hxm
    simp only [evL, List.mem_map, List.mem_range] at hxm
    obtain ⟨k, hk, rfl⟩ := hxm
    by_cases hk2 : 2 * k < xs.length
    · have : xs.getD (2 * k) 0 = xs[2 * k] := by simp [List.getD_eq_getElem?_getD, hk2]
      rw [this]
      exact hf _ (List.getElem_mem hk2)
    · omega
  · exact h.1
theorem nowD_long {ws : List Nat} {sc : Nat} {xs : List Nat} (hx : isLongF xs = true) : ∀ t, (∀ k, k < t → liftOkF ws sc (nowD ws sc xs k) = true) → isLongF (nowD ws sc xs t) = true
  | 0, _ => hx
  | t + 1, h => by
    rw [nowD_succ]
    exact liftOk_fin (nowD_long hx t fun k hk => h k (by omega)) (h t (by omega))
end Go.Proofs.Ytkojmlpaamdhoae

namespace Go.Proofs.Ytkojmlpaamdhoae
open Go.Gx
set_option maxRecDepth 100000
set_option linter.unusedSimpArgs false
set_option linter.unusedVariables false

theorem wovL_len' {α : Type} {d : α} {ev od : List α} : ∀ i, (wovL d ev od i).length = i + min i od.length
  | 0 => by simp [wovL]
  | i + 1 => by
    have := wovL_len' (d := d) (ev := ev) (od := od) i
    by_cases h : i < od.length
    · rw [wovL_both h]; simp; omega
    · rw [wovL_one h]; simp; omega
theorem dropF_len' (ws : List Nat) (sc : Nat) {ev od : List Nat} (h : od.length ≤ ev.length) : (dropF ws sc ev od).length = ev.length + od.length := by
  unfold dropF
  split
  · omega
  · dsimp only
    have h1 := (weighDown_len ws (ev.map fun x => fbin .quo .f32 x sc, od.map fun x => fbin .mul .f32 x sc) ws.length).1
    have h2 := (weighDown_len ws (ev.map fun x => fbin .quo .f32 x sc, od.map fun x => fbin .mul .f32 x sc) ws.length).2
    simp only [List.length_map] at h1 h2
    rw [wovL_len', h1, h2]
    omega
theorem sizes_at {sz : List Nat} (h : sizesF sz = true) : 1 ≤ sz.length ∧ sz.length ≤ 7 ∧ 1 ≤ sz.getD (sz.length - 1) 0 ∧ ∀ j, j < sz.length - 1 → sizeAt sz j = true := by
  unfold sizesF at h
  simp only [Bool.and_eq_true, decide_eq_true_eq, List.all_eq_true, List.mem_range] at h
  have := within_true.1 h.1.1.1
  exact ⟨by omega, by omega, h.1.1.2, fun j hj => h.2 j hj⟩
theorem suf_pos {sz : List Nat} (h : sizesF sz = true) {k : Nat} (hk : k ≤ sz.length - 1) : 1 ≤ sufS sz k := by
  obtain ⟨h1, h2, h3, h4⟩ := sizes_at h
  have := sufS_le sz (i := k) (j := sz.length - 1) hk
  rw [sufS_last (by omega)] at this
  omega
theorem sizes_fit {sz : List Nat} (h : sizesF sz = true) {k : Nat} (hk : k < sz.length - 1) : fitF (sufS sz (k + 1)) (sz.getD k 0) = true := by
  obtain ⟨h1, h2, h3, h4⟩ := sizes_at h
  have h5 := size_fit (sz := sz) (k := k) (by omega) (suf_pos h (by omega))
  rw [h4 k hk, Bool.and_eq_true] at h5
  exact h5.2
theorem sizes_len (xss : List (List Nat)) (k : Nat) : (xss.map List.length).getD k 0 = (xss.getD k []).length := by
  by_cases h : k < xss.length <;> simp [List.getD_eq_getElem?_getD, h]
def dropD (ws : List Nat) (sc : Nat) (xss : List (List Nat)) : Nat → List Nat := foldI (fun t l => dropF ws sc l (xss.getD (xss.length - 2 - t) [])) (xss.getD (xss.length - 1) [])
theorem dropD_zero (ws : List Nat) (sc : Nat) (xss : List (List Nat)) : dropD ws sc xss 0 = xss.getD (xss.length - 1) [] := rfl
theorem dropD_succ (ws : List Nat) (sc : Nat) (xss : List (List Nat)) (t : Nat) : dropD ws sc xss (t + 1) = dropF ws sc (dropD ws sc xss t) (xss.getD (xss.length - 2 - t) []) := rfl
def unOk (ws : List Nat) (sc : Nat) (xss : List (List Nat)) : Bool := schemeF ws sc && bandsF xss && (List.range (xss.length - 1)).all fun t => (dropD ws sc xss (t + 1)).all finF
theorem dropD_len {ws : List Nat} {sc : Nat} {xss : List (List Nat)} (h : sizesF (xss.map List.length) = true) : ∀ t, t ≤ xss.length - 1 → (dropD ws sc xss t).length = sufS (xss.map List.length) (xss.length - 1 - t)
  | 0, _ => by
    have := sufS_last (sz := xss.map List.length) (by have := (sizes_at h).1; omega)
    rw [List.length_map] at this
    rw [Nat.sub_zero, this, sizes_len]; rfl
  | t + 1, ht => by
    have ih := dropD_len (ws := ws) (sc := sc) h t (by omega)
    have hf := fit_facts (sizes_fit h (k := xss.length - 2 - t) (by rw [List.length_map]; omega))
    rw [show xss.length - 2 - t + 1 = xss.length - 1 - t by omega, sizes_len] at hf
    have hs := sufS_succ (sz := xss.map List.length) (i := xss.length - 2 - t) (by rw [List.length_map]; omega)
    rw [show xss.length - 2 - t + 1 = xss.length - 1 - t by omega, sizes_len] at hs
    rw [dropD_succ, dropF_len' _ _ (by omega), ih, show xss.length - 1 - (t + 1) = xss.length - 2 - t by omega, hs]
    omega
theorem dropD_fit {ws : List Nat} {sc : Nat} {xss : List (List Nat)} (h : sizesF (xss.map List.length) = true) {t : Nat} (ht : t < xss.length - 1) : fitF (dropD ws sc xss t).length (xss.getD (xss.length - 2 - t) []).length = true := by
  have hf := sizes_fit h (k := xss.length - 2 - t) (by rw [List.length_map]; omega)
  rwa [show xss.length - 2 - t + 1 = xss.length - 1 - t by omega, sizes_len, ← dropD_len (ws := ws) (sc := sc) h t (by omega)] at hf
theorem bands_sizes {xss : List (List Nat)} (h : bandsF xss = true) : sizesF (xss.map List.length) = true := by
  unfold bandsF at h
  rw [Bool.and_eq_true] at h
  exact h.1
theorem dropD_fin {ws : List Nat} {sc : Nat} {xss : List (List Nat)} (h : bandsF xss = true) : ∀ t, (∀ k, k < t → (dropD ws sc xss (k + 1)).all finF = true) → (dropD ws sc xss t).all finF = true
  | 0, _ => bandsF_fin h _ (by have := (bandsF_len h).1; omega)
  | t + 1, hk => hk t (by omega)
theorem dropD_ok {ws : List Nat} {sc : Nat} {xss : List (List Nat)} (h0 : schemeF ws sc = true) (h : bandsF xss = true) {t : Nat} (ht : t < xss.length - 1) (hk : ∀ k, k < t → (dropD ws sc xss (k + 1)).all finF = true) : dropOk ws sc (dropD ws sc xss t) (xss.getD (xss.length - 2 - t) []) = (dropD ws sc xss (t + 1)).all finF := by
  unfold dropOk
  rw [h0, dropD_fit (bands_sizes h) ht, dropD_fin h t hk, bandsF_fin h _ (by omega), Bool.and_self, Bool.and_self, Bool.true_and, dropD_succ]
theorem unOk_no {ws : List Nat} {sc : Nat} {xss : List (List Nat)} {t : Nat} (ht : t < xss.length - 1) (h : (dropD ws sc xss (t + 1)).all finF = false) : unOk ws sc xss = false := by
  have : ((List.range (xss.length - 1)).all fun t => (dropD ws sc xss (t + 1)).all finF) = false := by
    rw [List.all_eq_false]
    exact ⟨t, List.mem_range.2 ht, by rw [h]; decide⟩
  unfold unOk
  rw [this, Bool.and_false]
theorem unOk_yes {ws : List Nat} {sc : Nat} {xss : List (List Nat)} (h0 : schemeF ws sc = true) (h1 : bandsF xss = true) (h : ∀ k, k < xss.length - 1 → (dropD ws sc xss (k + 1)).all finF = true) : unOk ws sc xss = true := by
  unfold unOk
  rw [h0, h1, Bool.and_self, Bool.true_and, List.all_eq_true]
  exact fun k hk => h k (List.mem_range.1 hk)
theorem dropD_le {ws : List Nat} {sc : Nat} {xss : List (List Nat)} (h : bandsF xss = true) {t : Nat} (ht : t ≤ xss.length - 1) : (dropD ws sc xss t).length ≤ 128 := by
  have hs := bands_sizes h
  by_cases hz : xss.length = 1
  · have h0 : t = 0 := by omega
    subst h0
    unfold bandsF sizesF at h
    simp only [Bool.and_eq_true, Bool.or_eq_true, decide_eq_true_eq, List.length_map, sizes_len] at h
    have := h.1.1.2
    rw [dropD_zero, show xss.length - 1 = 0 by omega]
    omega
  · have h1 := (sizes_at hs).1
    rw [List.length_map] at h1
    have h2 := (sizes_at hs).2.2.2 0 (by rw [List.length_map]; omega)
    simp only [sizeAt, Bool.and_eq_true, decide_eq_true_eq] at h2
    have h3 := sufS_le (xss.map List.length) (i := 0) (j := xss.length - 1 - t) (by omega)
    rw [dropD_len hs t ht]
    omega
structure RS (H : Heap) (v : Value) (xss : List (List Nat)) : Prop where
  rd : SS H v xss
  le : totL xss ≤ 2 ^ 40
end Go.Proofs.Ytkojmlpaamdhoae

namespace Go.Proofs.Ytkojmlpaamdhoae
open Go.Gx
set_option maxRecDepth 100000
set_option linter.unusedSimpArgs false
set_option linter.unusedVariables false

def sizeJ (xss : List (List Int)) (i : Nat) : List Nat := (List.range i).map fun j => (xss.getD j []).length
theorem sizeJ_length (xss : List (List Int)) (i : Nat) : (sizeJ xss i).length = i := by simp [sizeJ]
theorem sizeJ_succ (xss : List (List Int)) (i : Nat) : sizeJ xss (i + 1) = sizeJ xss i ++ [(xss.getD i []).length] := by simp [sizeJ, List.range_succ]
theorem sizesJ_len (xss : List (List Int)) (k : Nat) : (xss.map List.length).getD k 0 = (xss.getD k []).length := by
  by_cases h : k < xss.length <;> simp [List.getD_eq_getElem?_getD, h]
theorem sizeJ_all (xss : List (List Int)) : sizeJ xss xss.length = xss.map List.length := by
  refine list_ext_getD 0 (by simp [sizeJ]) fun j hj => ?_
  have hj' : j < xss.length := by simpa [sizeJ] using hj
  rw [sizesJ_len, sizeJ, getD_range_map hj']
theorem sizesJ_le {xss : List (List Int)} (hm : totL xss ≤ 2 ^ 40) (j : Nat) : (xss.map List.length).getD j 0 ≤ 2 ^ 40 := by
  rw [sizesJ_len]; exact totL_row hm j
theorem sizesJ_sum (xss : List (List Int)) (hm : totL xss ≤ 2 ^ 40) : sufS (xss.map List.length) 0 ≤ 2 ^ 40 := by
  have : sufS (xss.map List.length) 0 = offN xss xss.length := by simp [sufS, offN]
  rw [this]
  unfold totL at hm
  omega
theorem sizesJ_n {sz : List Nat} (h : sizesF sz = true) : 1 ≤ sz.length ∧ sz.length ≤ 7 := by
  unfold sizesF at h
  simp only [Bool.and_eq_true] at h
  have := within_true.1 h.1.1.1
  omega
def dropV (kind : Int) (xss : List (List Int)) : Nat → List Int := foldI (fun t l => dropI kind l (xss.getD (xss.length - 2 - t) [])) (xss.getD (xss.length - 1) [])
theorem dropV_zero (kind : Int) (xss : List (List Int)) : dropV kind xss 0 = xss.getD (xss.length - 1) [] := rfl
theorem dropV_succ (kind : Int) (xss : List (List Int)) (t : Nat) : dropV kind xss (t + 1) = dropI kind (dropV kind xss t) (xss.getD (xss.length - 2 - t) []) := rfl
def levOk (kind : Int) (xss : List (List Int)) : Bool := within kind 0 2 && sizesF (xss.map List.length) && ((List.range (xss.length - 1)).all fun t => dropOkI kind (dropV kind xss t) (xss.getD (xss.length - 2 - t) [])) && integersF (dropV kind xss (xss.length - 1))
theorem levOk_no {kind : Int} {xss : List (List Int)} {t : Nat} (ht : t < xss.length - 1) (h : dropOkI kind (dropV kind xss t) (xss.getD (xss.length - 2 - t) []) = false) : levOk kind xss = false := by
  have : ((List.range (xss.length - 1)).all fun t => dropOkI kind (dropV kind xss t) (xss.getD (xss.length - 2 - t) [])) = false := by
    rw [List.all_eq_false]
    exact ⟨t, List.mem_range.2 ht, by rw [h]; decide⟩
  unfold levOk
  rw [this, Bool.and_false, Bool.false_and]
theorem levOk_yes {kind : Int} {xss : List (List Int)} (h0 : within kind 0 2 = true) (h1 : sizesF (xss.map List.length) = true) (h : ∀ k, k < xss.length - 1 → dropOkI kind (dropV kind xss k) (xss.getD (xss.length - 2 - k) []) = true) : levOk kind xss = integersF (dropV kind xss (xss.length - 1)) := by
  have : ((List.range (xss.length - 1)).all fun t => dropOkI kind (dropV kind xss t) (xss.getD (xss.length - 2 - t) [])) = true := by
    rw [List.all_eq_true]
    exact fun k hk => h k (List.mem_range.1 hk)
  unfold levOk
  rw [h0, h1, this, Bool.and_self, Bool.and_self, Bool.true_and]
theorem levOk_int {kind : Int} {xss : List (List Int)} {t : Nat} (h : dropOkI kind (dropV kind xss t) (xss.getD (xss.length - 2 - t) []) = true) : integersF (dropV kind xss (t + 1)) = true := by
  unfold dropOkI at h
  rw [Bool.and_eq_true] at h
  rw [dropV_succ]
  exact h.2
theorem int_le {xs : List Int} (h : integersF xs = true) : xs.length ≤ 128 := by
  simp only [integersF, Bool.and_eq_true] at h
  have := within_true.1 h.1
  omega
theorem dropV_le {kind : Int} {xss : List (List Int)} (hm : totL xss ≤ 2 ^ 40) : ∀ t, (∀ k, k < t → dropOkI kind (dropV kind xss k) (xss.getD (xss.length - 2 - k) []) = true) → (dropV kind xss t).length ≤ 2 ^ 40
  | 0, _ => totL_row hm _
  | t + 1, h => by
    have := int_le (levOk_int (h t (by omega)))
    omega
end Go.Proofs.Ytkojmlpaamdhoae

namespace Go.Proofs.Ytkojmlpaamdhoae
open Go.Gx
set_option maxRecDepth 100000
set_option linter.unusedSimpArgs false
set_option linter.unusedVariables false

theorem part_nat {a c x y w h : Int} {xs : List Nat} (p : partOk a c xs x y w h = true) : ∃ m n i j k l : Nat, a = m ∧ c = n ∧ x = i ∧ y = j ∧ w = k ∧ h = l ∧ 1 ≤ k ∧ 1 ≤ l ∧ i + k ≤ m ∧ j + l ≤ n ∧ m ≤ 16 ∧ n ≤ 16 ∧ xs.length = m * n ∧ xs.all finF = true := by
  unfold partOk at p
  simp only [Bool.and_eq_true] at p
  obtain ⟨⟨⟨⟨p0, p1⟩, p2⟩, p3⟩, p4⟩ := p
  obtain ⟨m, n, rfl, rfl, h1, h2, h3, h4, h5, h6⟩ := valid_sides p0
  have q1 := within_true.1 p1
  have q2 := within_true.1 p2
  have q3 := within_true.1 p3
  have q4 := within_true.1 p4
  exact ⟨m, n, x.toNat, y.toNat, w.toNat, h.toNat, rfl, rfl, by omega, by omega, by omega, by omega, by omega, by omega, by omega, by omega, h2, h4, h5, h6⟩
theorem crop_ix {m n x y a b : Nat} (hx : x + a < m) (hy : y + b < n) : (y + b) * m + x + a < m * n := by
  have h1 : (y + b + 1) * m ≤ n * m := Nat.mul_le_mul_right m hy
  rw [Nat.add_mul, Nat.one_mul, Nat.mul_comm n m] at h1
  omega
theorem crop_fin {m n i j k l : Nat} {xs : List Nat} (hk : 1 ≤ k) (h1 : i + k ≤ m) (h2 : j + l ≤ n) (hl : xs.length = m * n) (hf : xs.all finF = true) : (tabL (k * l) (cropF m xs i j k)).all finF = true := tabL_fin fun t ht => by
  have ha : t % k < k := Nat.mod_lt _ hk
  have hb : t / k < l := Nat.div_lt_of_lt_mul ht
  exact all_getD.1 hf _ (by rw [hl]; exact crop_ix (by omega) (by omega))
end Go.Proofs.Ytkojmlpaamdhoae

namespace Go.Proofs.Ytkojmlpaamdhoae
open Go.Gx
set_option maxRecDepth 100000
set_option linter.unusedSimpArgs false
set_option linter.unusedVariables false

theorem region_facts {a c l b : Int} (hk : regionOk a c l b = true) : 0 ≤ (regionF a c l b).1 ∧ 0 ≤ (regionF a c l b).2.1 ∧ 0 ≤ (regionF a c l b).2.2.1 ∧ 0 ≤ (regionF a c l b).2.2.2 ∧ (regionF a c l b).1 + (regionF a c l b).2.2.1 ≤ a ∧ (regionF a c l b).2.1 + (regionF a c l b).2.2.2 ≤ c ∧ a ≤ 16 ∧ c ≤ 16 := by
  unfold regionOk at hk
  simp only [Bool.and_eq_true] at hk
  have h1 := within_true.1 hk.1.1.1
  have h2 := within_true.1 hk.1.1.2
  have g1 := halfN_le' h1.1 (l - 1).toNat
  have g2 := halfN_le' h2.1 (l - 1).toNat
  have g3 := halfN_le' g1.1 1
  have g4 := halfN_le' g2.1 1
  unfold regionF
  dsimp only
  generalize halfN (halfN a (l - 1).toNat) 1 = U at *
  generalize halfN (halfN c (l - 1).toNat) 1 = V at *
  repeat' split
  all_goals (dsimp only; omega)
def bandOk (a c : Int) (xs : List Nat) (l b : Int) : Bool := regionOk a c l b && partOk a c xs (regionF a c l b).1 (regionF a c l b).2.1 (regionF a c l b).2.2.1 (regionF a c l b).2.2.2
def bandL (a c : Int) (xs : List Nat) (l b : Int) : List Nat := tabL ((regionF a c l b).2.2.1.toNat * (regionF a c l b).2.2.2.toNat) (cropF a.toNat xs (regionF a c l b).1.toNat (regionF a c l b).2.1.toNat (regionF a c l b).2.2.1.toNat)
theorem band_part {a c : Int} {xs : List Nat} {l b : Int} (hv : validPicF a c xs = true) (hk : regionOk a c l b = true) (h1 : ¬ (regionF a c l b).2.2.1 = 0) (h2 : ¬ (regionF a c l b).2.2.2 = 0) : partOk a c xs (regionF a c l b).1 (regionF a c l b).2.1 (regionF a c l b).2.2.1 (regionF a c l b).2.2.2 = true := by
  have h := region_facts hk
  unfold partOk
  rw [hv, within_true.2 (by omega), within_true.2 (by omega), within_true.2 (by omega), within_true.2 (by omega)]
  rfl
theorem band_none {a c : Int} {xs : List Nat} {l b : Int} (h1 : (regionF a c l b).2.2.1 = 0 ∨ (regionF a c l b).2.2.2 = 0) : bandOk a c xs l b = false := by
  unfold bandOk partOk
  rcases h1 with h | h
  · rw [h]
    simp [within]
  · rw [h]
    simp [within]
end Go.Proofs.Ytkojmlpaamdhoae

namespace Go.Proofs.Ytkojmlpaamdhoae
open Go.Gx
set_option maxRecDepth 100000
set_option linter.unusedSimpArgs false
set_option linter.unusedVariables false

theorem coarse_eq (m n i : Nat) (l : Int) : coarseF m n l i = (decide (((i % m : Nat) : Int) < halfN m l.toNat) && decide (((i / m : Nat) : Int) < halfN n l.toNat)) := by
  unfold coarseF
  push_cast
  rfl
def sizeX (xs : List Nat) (b : Int) : Nat := sizeF (xs.getD b.toNat 0)
def bestI (m n : Nat) (l : Int) (xs : List Nat) : Nat → Int := foldI (fun i b => if (!coarseF m n l i && (decide (b < 0) || fcB .gtr .f32 (sizeF (xs.getD i 0)) (sizeX xs b))) = true then (i : Int) else b) (-1)
theorem bestI_zero (m n : Nat) (l : Int) (xs : List Nat) : bestI m n l xs 0 = -1 := rfl
theorem bestI_succ (m n : Nat) (l : Int) (xs : List Nat) (i : Nat) : bestI m n l xs (i + 1) = if (!coarseF m n l i && (decide (bestI m n l xs i < 0) || fcB .gtr .f32 (sizeF (xs.getD i 0)) (sizeX xs (bestI m n l xs i)))) = true then (i : Int) else bestI m n l xs i := rfl
theorem bestI_lt (m n : Nat) (l : Int) (xs : List Nat) : ∀ i, -1 ≤ bestI m n l xs i ∧ bestI m n l xs i < i
  | 0 => by rw [bestI_zero]; omega
  | i + 1 => by
    have := bestI_lt m n l xs i
    rw [bestI_succ]
    split <;> omega
def roughV (a c : Int) (xs : List Nat) (l : Int) : Value :=
  if (validPicF a c xs && within l 1 4 && decide (0 ≤ bestI a.toNat c.toNat l xs xs.length)) = true then
    .tuple #[.int .i64 (((bestI a.toNat c.toNat l xs xs.length).toNat % a.toNat : Nat) : Int), .int .i64 (((bestI a.toNat c.toNat l xs xs.length).toNat / a.toNat : Nat) : Int), .float .f32 (sizeX xs (bestI a.toNat c.toNat l xs xs.length)), .bool true]
  else .tuple #[.int .i64 0, .int .i64 0, .float .f32 0, .bool false]
theorem roughV_no {a c : Int} {xs : List Nat} {l : Int} (h : (validPicF a c xs && within l 1 4 && decide (0 ≤ bestI a.toNat c.toNat l xs xs.length)) = false) : roughV a c xs l = .tuple #[.int .i64 0, .int .i64 0, .float .f32 0, .bool false] := by
  unfold roughV
  rw [h]; rfl
theorem roughV_yes {m n : Nat} {xs : List Nat} {l : Int} {k : Nat} (h1 : validPicF m n xs = true) (h2 : within l 1 4 = true) (hk : bestI m n l xs xs.length = k) : roughV m n xs l = .tuple #[.int .i64 ((k % m : Nat) : Int), .int .i64 ((k / m : Nat) : Int), .float .f32 (sizeF (xs.getD k 0)), .bool true] := by
  unfold roughV
  simp only [Int.toNat_natCast]
  rw [if_pos (by rw [h1, h2, Bool.and_self, Bool.true_and]; exact decide_eq_true (by omega)), hk]
  rfl
def roughO (a c : Int) (xs : List Nat) (l : Int) : Bool := validPicF a c xs && within l 1 4 && decide (0 ≤ bestI a.toNat c.toNat l xs xs.length)
def roughX (a c : Int) (xs : List Nat) (l : Int) : Int := if roughO a c xs l = true then (((bestI a.toNat c.toNat l xs xs.length).toNat % a.toNat : Nat) : Int) else 0
def roughY (a c : Int) (xs : List Nat) (l : Int) : Int := if roughO a c xs l = true then (((bestI a.toNat c.toNat l xs xs.length).toNat / a.toNat : Nat) : Int) else 0
def roughS (a c : Int) (xs : List Nat) (l : Int) : Nat := if roughO a c xs l = true then sizeX xs (bestI a.toNat c.toNat l xs xs.length) else 0
theorem roughV_eq (a c : Int) (xs : List Nat) (l : Int) : roughV a c xs l = .tuple #[.int .i64 (roughX a c xs l), .int .i64 (roughY a c xs l), .float .f32 (roughS a c xs l), .bool (roughO a c xs l)] := by
  unfold roughX roughY roughS
  cases h : roughO a c xs l
  · exact (roughV_no h).trans rfl
  · exact (if_pos h).trans rfl
end Go.Proofs.Ytkojmlpaamdhoae

namespace Go.Proofs.Ytkojmlpaamdhoae
open Go.Gx
set_option maxRecDepth 100000
set_option linter.unusedSimpArgs false
set_option linter.unusedVariables false

def outQ (b : Bool) (t x : Nat) : Bool := b && fcB .leq .f32 (sizeF x) t
def outX (b : Bool) (t x : Nat) : Nat := if outQ b t x = true then 0 else x
def cntK (b : Bool) (t : Nat) (xs : List Nat) : Nat → Nat := foldI (fun k c => if outQ b t (xs.getD k 0) = true then c + 1 else c) 0
theorem cntK_succ (b : Bool) (t : Nat) (xs : List Nat) (i : Nat) : cntK b t xs (i + 1) = if outQ b t (xs.getD i 0) = true then cntK b t xs i + 1 else cntK b t xs i := rfl
theorem cntK_le (b : Bool) (t : Nat) (xs : List Nat) : ∀ i, cntK b t xs i ≤ i
  | 0 => Nat.le_refl _
  | i + 1 => by
    have := cntK_le b t xs i
    rw [cntK_succ]
    split <;> omega
theorem cntK_no (t : Nat) (xs : List Nat) : ∀ i, cntK false t xs i = 0
  | 0 => rfl
  | i + 1 => by rw [cntK_succ, cntK_no t xs i]; rfl
def bandS (t : Nat) (xss : List (List Nat)) (k : Nat) : List Nat := (xss.getD k []).map (outX (decide (k + 1 < xss.length)) t)
def outS (t : Nat) (xss : List (List Nat)) (j : Nat) : List (List Nat) := (List.range j).map (bandS t xss)
def cntS (t : Nat) (xss : List (List Nat)) : Nat → Nat := foldI (fun k c => c + cntK (decide (k + 1 < xss.length)) t (xss.getD k []) (xss.getD k []).length) 0
theorem cntS_succ (t : Nat) (xss : List (List Nat)) (j : Nat) : cntS t xss (j + 1) = cntS t xss j + cntK (decide (j + 1 < xss.length)) t (xss.getD j []) (xss.getD j []).length := rfl
theorem outS_succ (t : Nat) (xss : List (List Nat)) (j : Nat) : outS t xss (j + 1) = outS t xss j ++ [bandS t xss j] := by simp [outS, List.range_succ]
theorem outS_len (t : Nat) (xss : List (List Nat)) (j : Nat) : (outS t xss j).length = j := by simp [outS]
theorem bandS_len (t : Nat) (xss : List (List Nat)) (k : Nat) : (bandS t xss k).length = (xss.getD k []).length := by simp [bandS]
theorem cntS_le (t : Nat) (xss : List (List Nat)) : ∀ j, j ≤ xss.length → cntS t xss j ≤ offN xss j
  | 0, _ => Nat.zero_le _
  | j + 1, h => by
    have h1 := cntS_le t xss j (by omega)
    have h2 := cntK_le (decide (j + 1 < xss.length)) t (xss.getD j []) (xss.getD j []).length
    rw [cntS_succ, offN_succ (by omega)]
    omega
theorem outS_tot (t : Nat) (xss : List (List Nat)) : totL (outS t xss xss.length) = totL xss := by
  have h : (outS t xss xss.length).map List.length = xss.map List.length := by
    refine list_ext_getD 0 (by simp [outS_len]) fun j hj => ?_
    have hj' : j < xss.length := by simpa [outS_len] using hj
    simp [outS, bandS, List.getD_eq_getElem?_getD, hj']
  unfold totL offN
  rw [outS_len, List.take_of_length_le (by rw [outS_len]; exact Nat.le_refl _), List.take_of_length_le (Nat.le_refl _), h]
theorem set_getD_self {xs : List Nat} {i : Nat} (h : i < xs.length) : xs.set i (xs.getD i 0) = xs := by
  have e : xs.getD i 0 = xs[i] := by simp [List.getD_eq_getElem?_getD, h]
  rw [e, List.set_getElem_self]
def SmallR (H : Heap) (ok : Bool) (c : Nat) (xss : List (List Nat)) (sty ty : TypeId) (r : Value) (H' : Heap) : Prop :=
  Ext H H' ∧ ∃ v, r = .tuple #[v, .int .i64 (selI ok c), .bool ok] ∧ OwS H.n H'.n H' sty ty v ((selL ok xss).map (List.map fv)) ∧ totL (selL ok xss) ≤ 2 ^ 40
theorem SmallR.no {H H' : Heap} {ok : Bool} {c : Nat} {xss : List (List Nat)} {sty ty : TypeId} (hk : ok = false) (e : Ext H H') : SmallR H ok c xss sty ty (.tuple #[.slice none 0 0, .int .i64 0, .bool false]) H' := by
  subst hk; exact ⟨e, _, rfl, .nil, by simp [selL, totL, offN]⟩
theorem SmallR.yes {H H' : Heap} {ok : Bool} {c : Nat} {xss : List (List Nat)} {sty ty : TypeId} {v : Value} (hk : ok = true) (e : Ext H H') (o : OwS H.n H'.n H' sty ty v (xss.map (List.map fv))) (hl : totL xss ≤ 2 ^ 40) : SmallR H ok c xss sty ty (.tuple #[v, .int .i64 c, .bool true]) H' := by
  subst hk; exact ⟨e, v, rfl, o, hl⟩
end Go.Proofs.Ytkojmlpaamdhoae

namespace Go.Proofs.Ytkojmlpaamdhoae
open Go.Gx
set_option maxRecDepth 100000
set_option linter.unusedSimpArgs false
set_option linter.unusedVariables false

theorem stopN_all {p : Nat → Bool} : ∀ n k, k < stopN p n → p k = true
  | 0, k, h => absurd h (Nat.not_lt_zero _)
  | n + 1, k, h => by
    have hle := stopN_le p n
    unfold stopN at h
    split at h
    · rename_i hc
      by_cases hk : k = n
      · rw [hk]; exact hc.2
      · exact stopN_all n k (by omega)
    · exact stopN_all n k h
theorem stopN_stop {p : Nat → Bool} {n : Nat} (h : stopN p n < n) : p (stopN p n) = false := by
  cases hp : p (stopN p n)
  · rfl
  · have := stopN_gt (p := p) (t := stopN p n) (n := n) (fun k hk => by
      by_cases hk' : k = stopN p n
      · rw [hk']; exact hp
      · exact stopN_all n k (by omega)) h
    omega
theorem levelsD_len (ws : List Nat) (sc : Nat) (xs : List Nat) (n : Nat) : (levelsD ws sc xs n).length = stopN (moreD ws sc xs) n + 1 := by simp [levelsD, outD_len]
theorem levelsD_at {ws : List Nat} {sc : Nat} {xs : List Nat} {n k : Nat} (hk : k < stopN (moreD ws sc xs) n) : (levelsD ws sc xs n).getD k [] = (liftF ws sc (nowD ws sc xs k)).2 := by
  unfold levelsD
  rw [getD_app_lt (by rw [outD_len]; exact hk), outD]
  exact getD_range_map hk
theorem levelsD_last (ws : List Nat) (sc : Nat) (xs : List Nat) (n : Nat) : (levelsD ws sc xs n).getD (stopN (moreD ws sc xs) n) [] = nowD ws sc xs (stopN (moreD ws sc xs) n) := by
  unfold levelsD
  have := @getD_app_at _ (outD ws sc xs (stopN (moreD ws sc xs) n)) (nowD ws sc xs (stopN (moreD ws sc xs) n)) []
  rwa [outD_len] at this
/-- The sizes from 'k' on make up the list that is lifted at 'k'. -/
theorem levels_suf (ws : List Nat) (sc : Nat) (xs : List Nat) (n : Nat) : ∀ d k, k + d = stopN (moreD ws sc xs) n → sufS ((levelsD ws sc xs n).map List.length) k = (nowD ws sc xs k).length
  | 0, k, h => by
    have hk : k = stopN (moreD ws sc xs) n := by omega
    have hl := levelsD_len ws sc xs n
    have h1 := sufS_last (sz := (levelsD ws sc xs n).map List.length) (by rw [List.length_map]; omega)
    rw [List.length_map, hl, Nat.add_sub_cancel, ← hk, sizes_len] at h1
    rw [h1, hk, levelsD_last]
  | d + 1, k, h => by
    have ih := levels_suf ws sc xs n d (k + 1) (by omega)
    have hl := levelsD_len ws sc xs n
    rw [sufS_succ (by rw [List.length_map]; omega), ih, sizes_len, levelsD_at (by omega), nowD_succ, liftF_len1, liftF_len2]
    omega
theorem levels_sizes {ws : List Nat} {sc : Nat} {xs : List Nat} {n : Nat} (h1 : 1 ≤ xs.length) (hx : xs.length ≤ 128) (hn : 1 ≤ n) (hn6 : n ≤ 6) : sizesF ((levelsD ws sc xs n).map List.length) = true := by
  have hs := stopN_le (moreD ws sc xs) n
  have hl := levelsD_len ws sc xs n
  obtain ⟨L, hL⟩ : ∃ L, L = stopN (moreD ws sc xs) n := ⟨_, rfl⟩
  have hlast := nowD_le ws sc xs h1 L
  refine (sizesF_yes (within_true.2 ?_) ?_ ?_ ?_).1
  · rw [List.length_map, hl]; omega
  · rw [List.length_map, hl, Nat.add_sub_cancel, sizes_len, levelsD_last, ← hL]; omega
  · rw [List.length_map, hl, sizes_len]
    by_cases hz : L = 0
    · refine .inr ?_
      have h2 := stopN_stop (p := moreD ws sc xs) (n := n) (by omega)
      have h3 := levelsD_last ws sc xs n
      rw [← hL, hz] at h2 h3
      rw [h3]
      have h4 := of_decide_eq_false h2
      rw [hz] at hlast
      omega
    · exact .inl (by omega)
  · intro j hj
    rw [List.length_map, hl, Nat.add_sub_cancel] at hj
    have h2 := of_decide_eq_true (stopN_all (p := moreD ws sc xs) n j hj)
    have h3 := levels_suf ws sc xs n (stopN (moreD ws sc xs) n - j) j (by omega)
    have h4 := levels_suf ws sc xs n (stopN (moreD ws sc xs) n - (j + 1)) (j + 1) (by omega)
    have h5 := nowD_le ws sc xs h1 j
    rw [nowD_succ, liftF_len1] at h4
    unfold sizeAt
    rw [sizes_len, levelsD_at hj, liftF_len2, h3, h4]
    simp only [Bool.and_eq_true, Bool.or_eq_true, decide_eq_true_eq]
    omega
def coarseL (xss : List (List Nat)) (keep i : Nat) : List Nat := if i + 1 + keep < xss.length then zerosF (xss.getD i []).length else xss.getD i []
def coarseU (xss : List (List Nat)) (keep t : Nat) : List (List Nat) := (List.range xss.length).map fun i => if i < t then coarseL xss keep i else xss.getD i []
theorem coarseU_len (xss : List (List Nat)) (keep t : Nat) : (coarseU xss keep t).length = xss.length := by simp [coarseU]
theorem coarseU_at {xss : List (List Nat)} {keep t i : Nat} (h : i < xss.length) : (coarseU xss keep t).getD i [] = if i < t then coarseL xss keep i else xss.getD i [] := by
  rw [coarseU, getD_range_map h]
theorem coarseL_len (xss : List (List Nat)) (keep i : Nat) : (coarseL xss keep i).length = (xss.getD i []).length := by
  unfold coarseL
  split
  · exact zerosF_length _
  · rfl
theorem coarseU_row {xss : List (List Nat)} {keep t i : Nat} (h : i < xss.length) : ((coarseU xss keep t).getD i []).length = (xss.getD i []).length := by
  rw [coarseU_at h]
  split
  · exact coarseL_len _ _ _
  · rfl
theorem coarseU_zero (xss : List (List Nat)) (keep : Nat) : coarseU xss keep 0 = xss := by
  refine list_ext_getD [] (coarseU_len _ _ _) fun j hj => ?_
  rw [coarseU_len] at hj
  rw [coarseU_at hj]; rfl
theorem coarseU_succ {xss : List (List Nat)} {keep t : Nat} (h : t < xss.length) : coarseU xss keep (t + 1) = (coarseU xss keep t).set t (coarseL xss keep t) := by
  refine list_ext_getD [] (by simp [coarseU_len]) fun j hj => ?_
  rw [coarseU_len] at hj
  rw [coarseU_at hj]
  by_cases hjt : j = t
  · subst hjt
    rw [getD_set_self (by rw [coarseU_len]; exact hj), if_pos (by omega)]
  · rw [Go.Gx.getD_set_ne (Ne.symm hjt), coarseU_at hj]
    by_cases h2 : j < t
    · rw [if_pos h2, if_pos (by omega)]
    · rw [if_neg h2, if_neg (by omega)]
theorem coarseU_sizes (xss : List (List Nat)) (keep t : Nat) : (coarseU xss keep t).map List.length = xss.map List.length := by
  refine list_ext_getD 0 (by simp [coarseU_len]) fun j hj => ?_
  have hj' : j < xss.length := by simpa [coarseU_len] using hj
  rw [sizes_len, sizes_len, coarseU_row hj']
theorem coarseU_tot (xss : List (List Nat)) (keep t : Nat) : totL (coarseU xss keep t) = totL xss := by
  unfold totL offN
  rw [List.take_of_length_le (Nat.le_refl _), List.take_of_length_le (Nat.le_refl _), coarseU_len, coarseU_sizes]
theorem levels_fin {ws : List Nat} {sc : Nat} {xs : List Nat} {n : Nat} (hx : isLongF xs = true) (h : ∀ k, k < stopN (moreD ws sc xs) n → liftOkF ws sc (nowD ws sc xs k) = true) (i : Nat) (hi : i < (levelsD ws sc xs n).length) : ((levelsD ws sc xs n).getD i []).all finF = true := by
  rw [levelsD_len] at hi
  by_cases hk : i < stopN (moreD ws sc xs) n
  · rw [levelsD_at hk]
    have h1 := h i hk
    have h2 := of_decide_eq_true (stopN_all (p := moreD ws sc xs) n i hk)
    unfold liftOkF at h1
    rw [Bool.or_eq_true, Bool.and_eq_true, decide_eq_true_eq] at h1
    rcases h1 with h1 | h1
    · omega
    · exact h1.2
  · have hk' : i = stopN (moreD ws sc xs) n := by omega
    rw [hk', levelsD_last]
    exact isLong_fin (nowD_long hx _ h)
theorem coarse_bands {ws : List Nat} {sc : Nat} {xs : List Nat} {n keep t : Nat} (hx : isLongF xs = true) (hn : 1 ≤ n) (hn6 : n ≤ 6) (h : ∀ k, k < stopN (moreD ws sc xs) n → liftOkF ws sc (nowD ws sc xs k) = true) : bandsF (coarseU (levelsD ws sc xs n) keep t) = true := by
  obtain ⟨hl, hl1⟩ := isLong_len hx
  unfold bandsF
  rw [coarseU_sizes, levels_sizes hl1 hl hn hn6, Bool.true_and]
  refine (allD []).2 fun j hj => ?_
  rw [coarseU_len] at hj
  rw [coarseU_at hj]
  have hf := levels_fin hx h j hj
  split
  · unfold coarseL
    split
    · exact zerosF_fin _
    · exact hf
  · exact hf
theorem deepOk_parts {ws : List Nat} {sc : Nat} {xs : List Nat} {n : Int} (h : deepOk ws sc xs n = true) : schemeF ws sc = true ∧ isLongF xs = true ∧ within n 1 6 = true ∧ ∀ k, k < stopN (moreD ws sc xs) n.toNat → liftOkF ws sc (nowD ws sc xs k) = true := by
  unfold deepOk at h
  rw [Bool.and_eq_true, Bool.and_eq_true, Bool.and_eq_true, List.all_eq_true] at h
  exact ⟨h.1.1.1, h.1.1.2, h.1.2, fun k hk => h.2 k (List.mem_range.2 hk)⟩
theorem OwN_at {lo hi i : Nat} {H : Heap} {ty : TypeId} {vs : List Value} {ls : List (List Value)} {v : Value} {l : List Value} (o : OwN lo hi H ty vs ls) (hi' : i < ls.length) (p : OwL lo hi H ty v l) (hd : ∀ j h, j < ls.length → hdl (vs.getD j undef) = some h → hdl v ≠ some h) : OwN lo hi H ty (vs.set i v) (ls.set i l) := by
  obtain ⟨h1, h2, h3⟩ := o
  have es : (vs.set i v).getD i undef = v := getD_set_self (by omega)
  have en : ∀ j, j ≠ i → (vs.set i v).getD j undef = vs.getD j undef := fun j hj => Go.Gx.getD_set_ne (Ne.symm hj)
  refine ⟨by simp [h1], fun j hj => ?_, fun j k h hj hk hh hk' => ?_⟩
  · rw [List.length_set] at hj
    by_cases hji : j = i
    · rw [hji, es, getD_set_self hi']; exact p
    · rw [en j hji, Go.Gx.getD_set_ne (Ne.symm hji)]; exact h2 j hj
  · rw [List.length_set] at hj hk
    by_cases hji : j = i
    · by_cases hki : k = i
      · rw [hji, hki]
      · rw [hji, es] at hh
        rw [en k hki] at hk'
        exact absurd hh (hd k h hk hk')
    · by_cases hki : k = i
      · rw [hki, es] at hk'
        rw [en j hji] at hh
        exact absurd hk' (hd j h hj hh)
      · rw [en j hji] at hh
        rw [en k hki] at hk'
        exact h3 j k h hj hk hh hk'
def coarseOk (ws : List Nat) (sc : Nat) (xs : List Nat) (n keep : Int) : Bool := decide (0 ≤ keep) && (deepOk ws sc xs n && unOk ws sc (coarseU (levelsD ws sc xs n.toNat) keep.toNat ((levelsD ws sc xs n.toNat).length - 1 - keep.toNat)))
def coarseD (ws : List Nat) (sc : Nat) (xs : List Nat) (n keep : Int) : List Nat := dropD ws sc (coarseU (levelsD ws sc xs n.toNat) keep.toNat ((levelsD ws sc xs n.toNat).length - 1 - keep.toNat)) ((levelsD ws sc xs n.toNat).length - 1)
end Go.Proofs.Ytkojmlpaamdhoae

namespace Go.Proofs.Ytkojmlpaamdhoae
open Go.Gx
set_option maxRecDepth 100000
set_option linter.unusedSimpArgs false
set_option linter.unusedVariables false

def atF (xs : List Nat) (i : Int) : Nat := xs.getD (mirF xs.length i).toNat 0
def wK (k : Nat) : Nat := [1031798784, 1048576000, 1052770304, 1048576000, 1031798784].getD k 0
def smoothK (xs : List Nat) (d : Int) (j : Nat) : Nat → Nat := foldI (fun k s => fbin .add .f32 s (fbin .mul .f32 (atF xs ((j : Int) + ((k : Int) - 2) * d)) (wK k))) 0
def smoothL (d : Int) (xs : List Nat) : List Nat := (List.range xs.length).map fun j => smoothK xs d j 5
theorem smoothL_length (d : Int) (xs : List Nat) : (smoothL d xs).length = xs.length := by simp [smoothL]
theorem smooth5 (xs : List Nat) (d : Int) (j : Nat) : smoothK xs d j 5 = fbin .add .f32 (fbin .add .f32 (fbin .add .f32 (fbin .add .f32 (fbin .add .f32 0 (fbin .mul .f32 (atF xs ((j : Int) - 2 * d)) 1031798784)) (fbin .mul .f32 (atF xs ((j : Int) - d)) 1048576000)) (fbin .mul .f32 (atF xs (j : Int)) 1052770304)) (fbin .mul .f32 (atF xs ((j : Int) + d)) 1048576000)) (fbin .mul .f32 (atF xs ((j : Int) + 2 * d)) 1031798784) := by
  have e0 : (j : Int) + (((0 : Nat) : Int) - 2) * d = (j : Int) - 2 * d := by omega
  have e1 : (j : Int) + (((1 : Nat) : Int) - 2) * d = (j : Int) - d := by omega
  have e2 : (j : Int) + (((2 : Nat) : Int) - 2) * d = (j : Int) := by omega
  have e3 : (j : Int) + (((3 : Nat) : Int) - 2) * d = (j : Int) + d := by omega
  have e4 : (j : Int) + (((4 : Nat) : Int) - 2) * d = (j : Int) + 2 * d := by omega
  simp only [smoothK, foldI_succ, foldI_zero, e0, e1, e2, e3, e4]
  rfl
def nowW (xs : List Nat) : Nat → List Nat := foldI (fun t l => smoothL ((2 ^ t : Nat) : Int) l) xs
theorem nowW_succ (xs : List Nat) (t : Nat) : nowW xs (t + 1) = smoothL ((2 ^ t : Nat) : Int) (nowW xs t) := rfl
theorem nowW_len (xs : List Nat) : ∀ t, (nowW xs t).length = xs.length
  | 0 => rfl
  | t + 1 => by rw [nowW_succ, smoothL_length, nowW_len xs t]
def detW (xs : List Nat) (t : Nat) : List Nat := (List.range xs.length).map fun j => fbin .sub .f32 ((nowW xs t).getD j 0) ((nowW xs (t + 1)).getD j 0)
theorem detW_len (xs : List Nat) (t : Nat) : (detW xs t).length = xs.length := by simp [detW]
def frameW (xs : List Nat) (n : Nat) : List (List Nat) := (List.range n).map (detW xs) ++ [nowW xs n]
def frameOk (xs : List Nat) (n : Int) : Bool := isLongF xs && within n 0 6 && (frameW xs n.toNat).all fun l => l.all finF
theorem det_fin {xs : List Nat} {t : Nat} (hc : (nowW xs t).all finF = true) (hd : (detW xs t).all finF = true) : (nowW xs (t + 1)).all finF = true := by
  refine all_getD.2 fun j hj => ?_
  rw [nowW_len] at hj
  have h1 := all_getD.1 hc j (by rw [nowW_len]; exact hj)
  have h2 := all_getD.1 hd j (by rw [detW_len]; exact hj)
  rw [detW, getD_range_map hj] at h2
  exact fin_sub h1 h2
theorem outW_sum (xs : List Nat) (n : Nat) : ∀ t, t ≤ n → offN (frameW xs n) t = t * xs.length
  | 0, _ => by simp [offN_zero]
  | t + 1, h => by
    have hl : (frameW xs n).length = n + 1 := by simp [frameW]
    rw [offN_succ (by omega), outW_sum xs n t (by omega)]
    have e : (frameW xs n).getD t [] = detW xs t := by
      unfold frameW
      rw [getD_app_lt (by simp; omega)]
      exact getD_range_map (by omega)
    rw [e, detW_len, Nat.add_mul, Nat.one_mul]
theorem frameW_tot {xs : List Nat} {n : Nat} (hx : xs.length ≤ 128) (hn : n ≤ 6) : totL (frameW xs n) ≤ 2 ^ 40 := by
  have hl : (frameW xs n).length = n + 1 := by simp [frameW]
  unfold totL
  rw [hl, offN_succ (by omega), outW_sum xs n n (Nat.le_refl _)]
  have e : (frameW xs n).getD n [] = nowW xs n := by
    unfold frameW
    have := @getD_app_at _ ((List.range n).map (detW xs)) (nowW xs n) []
    rw [List.length_map, List.length_range] at this
    exact this
  rw [e, nowW_len]
  have : n * xs.length ≤ 6 * 128 := Nat.mul_le_mul hn hx
  omega
theorem eBsl_5 {ety : TypeId} {zero a b c d e : Value} {H : Heap} (ha : one a = true) (hb : one b = true) (hc : one c = true) (hd : one d = true) (he : one e = true) : eBsl ety 5 zero [(0, a), (1, b), (2, c), (3, d), (4, e)] H = some (.slice (some ⟨H.n, 0, none⟩) 5 5, H.new ⟨true, ety, [a, b, c, d, e]⟩) := by
  simp [eBsl, afillS, ha, hb, hc, hd, he, List.replicate]
def tapsW : List Nat := [1031798784, 1048576000, 1052770304, 1048576000, 1031798784]
theorem frame_no {xs : List Nat} {n t : Nat} (ht : t < n) (h : (detW xs t).all finF = false) : frameOk xs n = false := by
  have : ((frameW xs n).all fun l => l.all finF) = false := by
    rw [List.all_eq_false]
    exact ⟨detW xs t, List.mem_append_left _ (List.mem_map.2 ⟨t, List.mem_range.2 ht, rfl⟩), by rw [h]; decide⟩
  unfold frameOk
  rw [Int.toNat_natCast, this, Bool.and_false]
theorem frame_yes {xs : List Nat} {n : Nat} (h1 : isLongF xs = true) (h2 : within n 0 6 = true) (h : ∀ t, t < n → (detW xs t).all finF = true) (h' : (nowW xs n).all finF = true) : frameOk xs n = true := by
  have : ((frameW xs n).all fun l => l.all finF) = true := by
    rw [List.all_eq_true]
    intro l hl
    rcases List.mem_append.1 hl with hl | hl
    · obtain ⟨t, ht, rfl⟩ := List.mem_map.1 hl
      exact h t (List.mem_range.1 ht)
    · rw [List.mem_singleton] at hl
      rw [hl]; exact h'
  unfold frameOk
  rw [Int.toNat_natCast, this, h1, h2]; rfl
end Go.Proofs.Ytkojmlpaamdhoae
