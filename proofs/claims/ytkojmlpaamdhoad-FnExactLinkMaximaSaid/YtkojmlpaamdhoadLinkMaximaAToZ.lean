/- What the functions of the program do: contracts that are proved. -/
import Derived.Test.YtkojmlpaamdhoadLinkMaximaCode
import Derived.Test.YtkojmlpaamdhoadGxBands
namespace Go.Proofs.Ytkojmlpaamdhoad
open Go.Gx
set_option maxRecDepth 100000
set_option linter.unusedSimpArgs false
set_option linter.unusedVariables false

theorem w_sameFloat_ok {H : Heap} {x : Nat} : ACalls Try.prog n_w_sameFloat [.float .f64 x, .float .f64 x] H fun r H' => r = .bool true ∧ H' = H := by
  refine k_w_sameFloat.run rfl ?_
  unfold c_w_sameFloat
  ((try simp (disch := first | assumption | omega | rfl | (refine id ?_; simp only [gxD, ne_eq, reduceCtorEq, not_false_eq_true, Nat.reduceAdd, *]; done) | (refine id ?_; simp only [gxD]; omega)) only [↓gxPre, gxPost, ↓reduceIte, Nat.reduceEqDiff, reduceCtorEq, Nat.reduceAdd, *]); repeat' (first | (refine grdR_split (fun _ => ?_) (fun _ => ?_) <;> simp (disch := first | assumption | omega | rfl | (refine id ?_; simp only [gxD, ne_eq, reduceCtorEq, not_false_eq_true, Nat.reduceAdd, *]; done) | (refine id ?_; simp only [gxD]; omega)) only [↓gxPre, gxPost, ↓reduceIte, Nat.reduceEqDiff, reduceCtorEq, Nat.reduceAdd, *]) | (refine condR_split (fun _ => ?_) (fun _ => ?_) <;> simp (disch := first | assumption | omega | rfl | (refine id ?_; simp only [gxD, ne_eq, reduceCtorEq, not_false_eq_true, Nat.reduceAdd, *]; done) | (refine id ?_; simp only [gxD]; omega)) only [↓gxPre, gxPost, ↓reduceIte, Nat.reduceEqDiff, reduceCtorEq, Nat.reduceAdd, *])))
  all_goals first | rfl | (simp_all [fcB, fcmp]; done)
theorem w_eqFloat32S_ok {H : Heap} {v u : Value} {xs : List Nat} (hv : FS H v xs) (hu : FS H u xs) (hn : xs.length ≤ 2 ^ 40) :
    ACalls Try.prog n_w_eqFloat32S [v, u] H fun r H' => r = .bool true ∧ H' = H := by
  refine k_w_eqFloat32S.run rfl ?_
  unfold c_w_eqFloat32S
  ((try simp (disch := first | assumption | omega | rfl | (refine id ?_; simp only [gxD, ne_eq, reduceCtorEq, not_false_eq_true, Nat.reduceAdd, *]; done) | (refine id ?_; simp only [gxD]; omega)) only [↓gxPre, gxPost, ↓reduceIte, Nat.reduceEqDiff, reduceCtorEq, Nat.reduceAdd, hv.len, hu.len, ne_eq, not_true, not_false_eq_true, *]); repeat' (first | (refine grdR_split (fun _ => ?_) (fun _ => ?_) <;> simp (disch := first | assumption | omega | rfl | (refine id ?_; simp only [gxD, ne_eq, reduceCtorEq, not_false_eq_true, Nat.reduceAdd, *]; done) | (refine id ?_; simp only [gxD]; omega)) only [↓gxPre, gxPost, ↓reduceIte, Nat.reduceEqDiff, reduceCtorEq, Nat.reduceAdd, hv.len, hu.len, ne_eq, not_true, not_false_eq_true, *]) | (refine condR_split (fun _ => ?_) (fun _ => ?_) <;> simp (disch := first | assumption | omega | rfl | (refine id ?_; simp only [gxD, ne_eq, reduceCtorEq, not_false_eq_true, Nat.reduceAdd, *]; done) | (refine id ?_; simp only [gxD]; omega)) only [↓gxPre, gxPost, ↓reduceIte, Nat.reduceEqDiff, reduceCtorEq, Nat.reduceAdd, hv.len, hu.len, ne_eq, not_true, not_false_eq_true, *])))
  refine loop_for xs.length (fun i => [v, u, .int .i64 i]) rfl ?_ ?_
  · ((try simp (disch := first | assumption | omega | rfl | (refine id ?_; simp only [gxD, ne_eq, reduceCtorEq, not_false_eq_true, Nat.reduceAdd, *]; done) | (refine id ?_; simp only [gxD]; omega)) only [↓gxPre, gxPost, ↓reduceIte, Nat.reduceEqDiff, reduceCtorEq, Nat.reduceAdd, hv.len, hu.len, Int.lt_irrefl, *]); repeat' (first | (refine grdR_split (fun _ => ?_) (fun _ => ?_) <;> simp (disch := first | assumption | omega | rfl | (refine id ?_; simp only [gxD, ne_eq, reduceCtorEq, not_false_eq_true, Nat.reduceAdd, *]; done) | (refine id ?_; simp only [gxD]; omega)) only [↓gxPre, gxPost, ↓reduceIte, Nat.reduceEqDiff, reduceCtorEq, Nat.reduceAdd, hv.len, hu.len, Int.lt_irrefl, *]) | (refine condR_split (fun _ => ?_) (fun _ => ?_) <;> simp (disch := first | assumption | omega | rfl | (refine id ?_; simp only [gxD, ne_eq, reduceCtorEq, not_false_eq_true, Nat.reduceAdd, *]; done) | (refine id ?_; simp only [gxD]; omega)) only [↓gxPre, gxPost, ↓reduceIte, Nat.reduceEqDiff, reduceCtorEq, Nat.reduceAdd, hv.len, hu.len, Int.lt_irrefl, *])))
  · intro i hi
    ((try simp (disch := first | assumption | omega | rfl | (refine id ?_; simp only [gxD, ne_eq, reduceCtorEq, not_false_eq_true, Nat.reduceAdd, *]; done) | (refine id ?_; simp only [gxD]; omega)) only [↓gxPre, gxPost, ↓reduceIte, Nat.reduceEqDiff, reduceCtorEq, Nat.reduceAdd, hv.len, hu.len, hv.ia, hu.ia, hv.ld, hu.ld, *]); repeat' (first | (refine grdR_split (fun _ => ?_) (fun _ => ?_) <;> simp (disch := first | assumption | omega | rfl | (refine id ?_; simp only [gxD, ne_eq, reduceCtorEq, not_false_eq_true, Nat.reduceAdd, *]; done) | (refine id ?_; simp only [gxD]; omega)) only [↓gxPre, gxPost, ↓reduceIte, Nat.reduceEqDiff, reduceCtorEq, Nat.reduceAdd, hv.len, hu.len, hv.ia, hu.ia, hv.ld, hu.ld, *]) | (refine condR_split (fun _ => ?_) (fun _ => ?_) <;> simp (disch := first | assumption | omega | rfl | (refine id ?_; simp only [gxD, ne_eq, reduceCtorEq, not_false_eq_true, Nat.reduceAdd, *]; done) | (refine id ?_; simp only [gxD]; omega)) only [↓gxPre, gxPost, ↓reduceIte, Nat.reduceEqDiff, reduceCtorEq, Nat.reduceAdd, hv.len, hu.len, hv.ia, hu.ia, hv.ld, hu.ld, *]) | (refine callR_pure (w_sameFloat_ok) (by first | exact Or.inl rfl | (simp (disch := first | assumption | omega | rfl | (refine id ?_; simp only [gxD, ne_eq, reduceCtorEq, not_false_eq_true, Nat.reduceAdd, *]; done) | (refine id ?_; simp only [gxD]; omega)) only [↓gxPre, gxPost, ↓reduceIte, Nat.reduceEqDiff, reduceCtorEq, Nat.reduceAdd, hv.len, hu.len, hv.ia, hu.ia, hv.ld, hu.ld, *]; done)) ?_; simp (disch := first | assumption | omega | rfl | (refine id ?_; simp only [gxD, ne_eq, reduceCtorEq, not_false_eq_true, Nat.reduceAdd, *]; done) | (refine id ?_; simp only [gxD]; omega)) only [↓gxPre, gxPost, ↓reduceIte, Nat.reduceEqDiff, reduceCtorEq, Nat.reduceAdd, hv.len, hu.len, hv.ia, hu.ia, hv.ld, hu.ld, *])))
    all_goals simp
theorem w_eqInt64S_ok {H : Heap} {v u : Value} {xs : List Int} (hv : IS H v xs) (hu : IS H u xs) (hn : xs.length ≤ 2 ^ 40) :
    ACalls Try.prog n_w_eqInt64S [v, u] H fun r H' => r = .bool true ∧ H' = H := by
  refine k_w_eqInt64S.run rfl ?_
  unfold c_w_eqInt64S
  ((try simp (disch := first | assumption | omega | rfl | (refine id ?_; simp only [gxD, ne_eq, reduceCtorEq, not_false_eq_true, Nat.reduceAdd, *]; done) | (refine id ?_; simp only [gxD]; omega)) only [↓gxPre, gxPost, ↓reduceIte, Nat.reduceEqDiff, reduceCtorEq, Nat.reduceAdd, hv.len, hu.len, ne_eq, not_true, not_false_eq_true, *]); repeat' (first | (refine grdR_split (fun _ => ?_) (fun _ => ?_) <;> simp (disch := first | assumption | omega | rfl | (refine id ?_; simp only [gxD, ne_eq, reduceCtorEq, not_false_eq_true, Nat.reduceAdd, *]; done) | (refine id ?_; simp only [gxD]; omega)) only [↓gxPre, gxPost, ↓reduceIte, Nat.reduceEqDiff, reduceCtorEq, Nat.reduceAdd, hv.len, hu.len, ne_eq, not_true, not_false_eq_true, *]) | (refine condR_split (fun _ => ?_) (fun _ => ?_) <;> simp (disch := first | assumption | omega | rfl | (refine id ?_; simp only [gxD, ne_eq, reduceCtorEq, not_false_eq_true, Nat.reduceAdd, *]; done) | (refine id ?_; simp only [gxD]; omega)) only [↓gxPre, gxPost, ↓reduceIte, Nat.reduceEqDiff, reduceCtorEq, Nat.reduceAdd, hv.len, hu.len, ne_eq, not_true, not_false_eq_true, *])))
  refine loop_for xs.length (fun i => [v, u, .int .i64 i]) rfl ?_ ?_
  · ((try simp (disch := first | assumption | omega | rfl | (refine id ?_; simp only [gxD, ne_eq, reduceCtorEq, not_false_eq_true, Nat.reduceAdd, *]; done) | (refine id ?_; simp only [gxD]; omega)) only [↓gxPre, gxPost, ↓reduceIte, Nat.reduceEqDiff, reduceCtorEq, Nat.reduceAdd, hv.len, hu.len, Int.lt_irrefl, *]); repeat' (first | (refine grdR_split (fun _ => ?_) (fun _ => ?_) <;> simp (disch := first | assumption | omega | rfl | (refine id ?_; simp only [gxD, ne_eq, reduceCtorEq, not_false_eq_true, Nat.reduceAdd, *]; done) | (refine id ?_; simp only [gxD]; omega)) only [↓gxPre, gxPost, ↓reduceIte, Nat.reduceEqDiff, reduceCtorEq, Nat.reduceAdd, hv.len, hu.len, Int.lt_irrefl, *]) | (refine condR_split (fun _ => ?_) (fun _ => ?_) <;> simp (disch := first | assumption | omega | rfl | (refine id ?_; simp only [gxD, ne_eq, reduceCtorEq, not_false_eq_true, Nat.reduceAdd, *]; done) | (refine id ?_; simp only [gxD]; omega)) only [↓gxPre, gxPost, ↓reduceIte, Nat.reduceEqDiff, reduceCtorEq, Nat.reduceAdd, hv.len, hu.len, Int.lt_irrefl, *])))
  · intro i hi
    ((try simp (disch := first | assumption | omega | rfl | (refine id ?_; simp only [gxD, ne_eq, reduceCtorEq, not_false_eq_true, Nat.reduceAdd, *]; done) | (refine id ?_; simp only [gxD]; omega)) only [↓gxPre, gxPost, ↓reduceIte, Nat.reduceEqDiff, reduceCtorEq, Nat.reduceAdd, hv.len, hu.len, hv.ia, hu.ia, hv.ld, hu.ld, ne_eq, not_true, not_false_eq_true, *]); repeat' (first | (refine grdR_split (fun _ => ?_) (fun _ => ?_) <;> simp (disch := first | assumption | omega | rfl | (refine id ?_; simp only [gxD, ne_eq, reduceCtorEq, not_false_eq_true, Nat.reduceAdd, *]; done) | (refine id ?_; simp only [gxD]; omega)) only [↓gxPre, gxPost, ↓reduceIte, Nat.reduceEqDiff, reduceCtorEq, Nat.reduceAdd, hv.len, hu.len, hv.ia, hu.ia, hv.ld, hu.ld, ne_eq, not_true, not_false_eq_true, *]) | (refine condR_split (fun _ => ?_) (fun _ => ?_) <;> simp (disch := first | assumption | omega | rfl | (refine id ?_; simp only [gxD, ne_eq, reduceCtorEq, not_false_eq_true, Nat.reduceAdd, *]; done) | (refine id ?_; simp only [gxD]; omega)) only [↓gxPre, gxPost, ↓reduceIte, Nat.reduceEqDiff, reduceCtorEq, Nat.reduceAdd, hv.len, hu.len, hv.ia, hu.ia, hv.ld, hu.ld, ne_eq, not_true, not_false_eq_true, *])))
    all_goals simp
theorem w_toFloat32S_ok {H : Heap} {v : Value} {xs : List Nat} (hv : FS H v xs) (hn : xs.length ≤ 2 ^ 40) :
    ACalls Try.prog n_w_toFloat32S [v] H fun r H' => r = .slice (some ⟨H.n, 0, none⟩) xs.length xs.length ∧ H' = H.new ⟨true, t_float32, xs.map fv⟩ := by
  refine k_w_toFloat32S.run rfl ?_
  unfold c_w_toFloat32S
  simp (disch := first | assumption | omega | rfl | (refine id ?_; simp only [gxD, ne_eq, reduceCtorEq, not_false_eq_true, Nat.reduceAdd, *]; done) | (refine id ?_; simp only [gxD]; omega)) only [↓gxPre, gxPost, ↓reduceIte, Nat.reduceEqDiff, reduceCtorEq, Nat.reduceAdd, hv.len, eMks_i]
  refine loop_forH xs.length (fun i => [v, .slice (some ⟨H.n, 0, none⟩) xs.length xs.length, .int .i64 i]) (fun i H' => H' = H.new ⟨true, t_float32, overL (fun i => fv (xs.getD i 0)) i (List.replicate xs.length (.float .f32 0))⟩) rfl (by simp [overL_zero]) ?_ ?_
  · rintro _ rfl
    ((try simp (disch := first | assumption | omega | rfl | (refine id ?_; simp only [gxD, ne_eq, reduceCtorEq, not_false_eq_true, Nat.reduceAdd, *]; done) | (refine id ?_; simp only [gxD]; omega)) only [↓gxPre, gxPost, ↓reduceIte, Nat.reduceEqDiff, reduceCtorEq, Nat.reduceAdd, hv.len, Int.lt_irrefl, *]); repeat' (first | (refine grdR_split (fun _ => ?_) (fun _ => ?_) <;> simp (disch := first | assumption | omega | rfl | (refine id ?_; simp only [gxD, ne_eq, reduceCtorEq, not_false_eq_true, Nat.reduceAdd, *]; done) | (refine id ?_; simp only [gxD]; omega)) only [↓gxPre, gxPost, ↓reduceIte, Nat.reduceEqDiff, reduceCtorEq, Nat.reduceAdd, hv.len, Int.lt_irrefl, *]) | (refine condR_split (fun _ => ?_) (fun _ => ?_) <;> simp (disch := first | assumption | omega | rfl | (refine id ?_; simp only [gxD, ne_eq, reduceCtorEq, not_false_eq_true, Nat.reduceAdd, *]; done) | (refine id ?_; simp only [gxD]; omega)) only [↓gxPre, gxPost, ↓reduceIte, Nat.reduceEqDiff, reduceCtorEq, Nat.reduceAdd, hv.len, Int.lt_irrefl, *])))
    rw [overL_all _ _ _ (by simp), map_range_getD]
  · rintro i _ hi rfl
    have hv' := hv.ext (Ext.new H ⟨true, t_float32, overL (fun i => fv (xs.getD i 0)) i (List.replicate xs.length (.float .f32 0))⟩)
    have hl := overL_length (fun i => fv (xs.getD i 0)) i (List.replicate xs.length (.float .f32 0)) (by simp; omega)
    simp only [List.length_replicate] at hl
    ((try simp (disch := first | assumption | omega | rfl | (refine id ?_; simp only [gxD, ne_eq, reduceCtorEq, not_false_eq_true, Nat.reduceAdd, *]; done) | (refine id ?_; simp only [gxD]; omega)) only [↓gxPre, gxPost, ↓reduceIte, Nat.reduceEqDiff, reduceCtorEq, Nat.reduceAdd, hv.len, hv'.ia, hv'.ld, hl, *]); repeat' (first | (refine grdR_split (fun _ => ?_) (fun _ => ?_) <;> simp (disch := first | assumption | omega | rfl | (refine id ?_; simp only [gxD, ne_eq, reduceCtorEq, not_false_eq_true, Nat.reduceAdd, *]; done) | (refine id ?_; simp only [gxD]; omega)) only [↓gxPre, gxPost, ↓reduceIte, Nat.reduceEqDiff, reduceCtorEq, Nat.reduceAdd, hv.len, hv'.ia, hv'.ld, hl, *]) | (refine condR_split (fun _ => ?_) (fun _ => ?_) <;> simp (disch := first | assumption | omega | rfl | (refine id ?_; simp only [gxD, ne_eq, reduceCtorEq, not_false_eq_true, Nat.reduceAdd, *]; done) | (refine id ?_; simp only [gxD]; omega)) only [↓gxPre, gxPost, ↓reduceIte, Nat.reduceEqDiff, reduceCtorEq, Nat.reduceAdd, hv.len, hv'.ia, hv'.ld, hl, *])))
    have := overL_set (fun i => fv (xs.getD i 0)) i (List.replicate xs.length (.float .f32 0)) (by simpa using hi)
    simp only [fv] at this ⊢
    rw [this]
    simp
theorem w_szFloat32S_ok {H : Heap} {v : Value} {xs : List Nat} {n : Int} (hv : FS H v xs) (h0 : 0 ≤ n) (h1 : n ≤ 1048576) (hx : xs.length ≤ 9223372036854775807) :
    ACalls Try.prog n_w_szFloat32S [v, .int .i64 n] H fun r H' => r = .int .i64 (if n < xs.length then -1 else n - xs.length) ∧ H' = H := by
  refine k_w_szFloat32S.run rfl ?_
  unfold c_w_szFloat32S
  ((try simp (disch := first | assumption | omega | rfl | (refine id ?_; simp only [gxD, ne_eq, reduceCtorEq, not_false_eq_true, Nat.reduceAdd, *]; done) | (refine id ?_; simp only [gxD]; omega)) only [↓gxPre, gxPost, ↓reduceIte, Nat.reduceEqDiff, reduceCtorEq, Nat.reduceAdd, hv.len, *]); repeat' (first | (refine grdR_split (fun _ => ?_) (fun _ => ?_) <;> simp (disch := first | assumption | omega | rfl | (refine id ?_; simp only [gxD, ne_eq, reduceCtorEq, not_false_eq_true, Nat.reduceAdd, *]; done) | (refine id ?_; simp only [gxD]; omega)) only [↓gxPre, gxPost, ↓reduceIte, Nat.reduceEqDiff, reduceCtorEq, Nat.reduceAdd, hv.len, *]) | (refine condR_split (fun _ => ?_) (fun _ => ?_) <;> simp (disch := first | assumption | omega | rfl | (refine id ?_; simp only [gxD, ne_eq, reduceCtorEq, not_false_eq_true, Nat.reduceAdd, *]; done) | (refine id ?_; simp only [gxD]; omega)) only [↓gxPre, gxPost, ↓reduceIte, Nat.reduceEqDiff, reduceCtorEq, Nat.reduceAdd, hv.len, *])))
  all_goals simp_all
  all_goals omega
theorem w_markFloat32S_ok {H : Heap} {h n : Nat} {ty : TypeId} {l : List Value} {k : Int} (hb : H.blk h = some ⟨true, ty, l⟩) (hl : l.length = n) (h0 : 0 ≤ k) (h1 : k ≤ 2 ^ 61) (hn : n ≤ 2 ^ 61) :
    ACalls Try.prog n_w_markFloat32S [.slice (some ⟨h, 0, none⟩) n n, .int .i64 k] H fun r H' => r = .int .i64 (k + n) ∧ H' = H.put h ⟨true, ty, (List.range n).map (markF k)⟩ := by
  refine k_w_markFloat32S.run rfl ?_
  unfold c_w_markFloat32S
  simp (disch := first | assumption | omega | rfl | (refine id ?_; simp only [gxD, ne_eq, reduceCtorEq, not_false_eq_true, Nat.reduceAdd, *]; done) | (refine id ?_; simp only [gxD]; omega)) only [↓gxPre, gxPost, ↓reduceIte, Nat.reduceEqDiff, reduceCtorEq, Nat.reduceAdd]
  refine loop_forH n (fun i => [.slice (some ⟨h, 0, none⟩) n n, .int .i64 (k + i), .int .i64 i]) (fun i H' => H' = H.put h ⟨true, ty, overL (markF k) i l⟩) (by simp) (by simp [overL_zero, put_id hb]) ?_ ?_
  · rintro _ rfl
    ((try simp (disch := first | assumption | omega | rfl | (refine id ?_; simp only [gxD, ne_eq, reduceCtorEq, not_false_eq_true, Nat.reduceAdd, *]; done) | (refine id ?_; simp only [gxD]; omega)) only [↓gxPre, gxPost, ↓reduceIte, Nat.reduceEqDiff, reduceCtorEq, Nat.reduceAdd, Int.lt_irrefl, *]); repeat' (first | (refine grdR_split (fun _ => ?_) (fun _ => ?_) <;> simp (disch := first | assumption | omega | rfl | (refine id ?_; simp only [gxD, ne_eq, reduceCtorEq, not_false_eq_true, Nat.reduceAdd, *]; done) | (refine id ?_; simp only [gxD]; omega)) only [↓gxPre, gxPost, ↓reduceIte, Nat.reduceEqDiff, reduceCtorEq, Nat.reduceAdd, Int.lt_irrefl, *]) | (refine condR_split (fun _ => ?_) (fun _ => ?_) <;> simp (disch := first | assumption | omega | rfl | (refine id ?_; simp only [gxD, ne_eq, reduceCtorEq, not_false_eq_true, Nat.reduceAdd, *]; done) | (refine id ?_; simp only [gxD]; omega)) only [↓gxPre, gxPost, ↓reduceIte, Nat.reduceEqDiff, reduceCtorEq, Nat.reduceAdd, Int.lt_irrefl, *])))
    rw [overL_all _ _ _ hl]
  · rintro i _ hi rfl
    have hl' := overL_length (markF k) i l (by omega)
    rw [hl] at hl'
    have := overL_set (markF k) i l (by omega)
    ((try simp (disch := first | assumption | omega | rfl | (refine id ?_; simp only [gxD, ne_eq, reduceCtorEq, not_false_eq_true, Nat.reduceAdd, *]; done) | (refine id ?_; simp only [gxD]; omega)) only [↓gxPre, gxPost, ↓reduceIte, Nat.reduceEqDiff, reduceCtorEq, Nat.reduceAdd, hl', *]); repeat' (first | (refine grdR_split (fun _ => ?_) (fun _ => ?_) <;> simp (disch := first | assumption | omega | rfl | (refine id ?_; simp only [gxD, ne_eq, reduceCtorEq, not_false_eq_true, Nat.reduceAdd, *]; done) | (refine id ?_; simp only [gxD]; omega)) only [↓gxPre, gxPost, ↓reduceIte, Nat.reduceEqDiff, reduceCtorEq, Nat.reduceAdd, hl', *]) | (refine condR_split (fun _ => ?_) (fun _ => ?_) <;> simp (disch := first | assumption | omega | rfl | (refine id ?_; simp only [gxD, ne_eq, reduceCtorEq, not_false_eq_true, Nat.reduceAdd, *]; done) | (refine id ?_; simp only [gxD]; omega)) only [↓gxPre, gxPost, ↓reduceIte, Nat.reduceEqDiff, reduceCtorEq, Nat.reduceAdd, hl', *])))
    simp only [markF, fv] at this ⊢
    rw [this]
    simp [Int.add_assoc]
theorem w_markInt64S_ok {H : Heap} {h n : Nat} {ty : TypeId} {l : List Value} {k : Int} (hb : H.blk h = some ⟨true, ty, l⟩) (hl : l.length = n) (h0 : 0 ≤ k) (h1 : k ≤ 2 ^ 61) (hn : n ≤ 2 ^ 61) :
    ACalls Try.prog n_w_markInt64S [.slice (some ⟨h, 0, none⟩) n n, .int .i64 k] H fun r H' => r = .int .i64 (k + n) ∧ H' = H.put h ⟨true, ty, (List.range n).map (markI k)⟩ := by
  refine k_w_markInt64S.run rfl ?_
  unfold c_w_markInt64S
  simp (disch := first | assumption | omega | rfl | (refine id ?_; simp only [gxD, ne_eq, reduceCtorEq, not_false_eq_true, Nat.reduceAdd, *]; done) | (refine id ?_; simp only [gxD]; omega)) only [↓gxPre, gxPost, ↓reduceIte, Nat.reduceEqDiff, reduceCtorEq, Nat.reduceAdd]
  refine loop_forH n (fun i => [.slice (some ⟨h, 0, none⟩) n n, .int .i64 (k + i), .int .i64 i]) (fun i H' => H' = H.put h ⟨true, ty, overL (markI k) i l⟩) (by simp) (by simp [overL_zero, put_id hb]) ?_ ?_
  · rintro _ rfl
    ((try simp (disch := first | assumption | omega | rfl | (refine id ?_; simp only [gxD, ne_eq, reduceCtorEq, not_false_eq_true, Nat.reduceAdd, *]; done) | (refine id ?_; simp only [gxD]; omega)) only [↓gxPre, gxPost, ↓reduceIte, Nat.reduceEqDiff, reduceCtorEq, Nat.reduceAdd, Int.lt_irrefl, *]); repeat' (first | (refine grdR_split (fun _ => ?_) (fun _ => ?_) <;> simp (disch := first | assumption | omega | rfl | (refine id ?_; simp only [gxD, ne_eq, reduceCtorEq, not_false_eq_true, Nat.reduceAdd, *]; done) | (refine id ?_; simp only [gxD]; omega)) only [↓gxPre, gxPost, ↓reduceIte, Nat.reduceEqDiff, reduceCtorEq, Nat.reduceAdd, Int.lt_irrefl, *]) | (refine condR_split (fun _ => ?_) (fun _ => ?_) <;> simp (disch := first | assumption | omega | rfl | (refine id ?_; simp only [gxD, ne_eq, reduceCtorEq, not_false_eq_true, Nat.reduceAdd, *]; done) | (refine id ?_; simp only [gxD]; omega)) only [↓gxPre, gxPost, ↓reduceIte, Nat.reduceEqDiff, reduceCtorEq, Nat.reduceAdd, Int.lt_irrefl, *])))
    rw [overL_all _ _ _ hl]
  · rintro i _ hi rfl
    have hl' := overL_length (markI k) i l (by omega)
    rw [hl] at hl'
    have := overL_set (markI k) i l (by omega)
    ((try simp (disch := first | assumption | omega | rfl | (refine id ?_; simp only [gxD, ne_eq, reduceCtorEq, not_false_eq_true, Nat.reduceAdd, *]; done) | (refine id ?_; simp only [gxD]; omega)) only [↓gxPre, gxPost, ↓reduceIte, Nat.reduceEqDiff, reduceCtorEq, Nat.reduceAdd, hl', *]); repeat' (first | (refine grdR_split (fun _ => ?_) (fun _ => ?_) <;> simp (disch := first | assumption | omega | rfl | (refine id ?_; simp only [gxD, ne_eq, reduceCtorEq, not_false_eq_true, Nat.reduceAdd, *]; done) | (refine id ?_; simp only [gxD]; omega)) only [↓gxPre, gxPost, ↓reduceIte, Nat.reduceEqDiff, reduceCtorEq, Nat.reduceAdd, hl', *]) | (refine condR_split (fun _ => ?_) (fun _ => ?_) <;> simp (disch := first | assumption | omega | rfl | (refine id ?_; simp only [gxD, ne_eq, reduceCtorEq, not_false_eq_true, Nat.reduceAdd, *]; done) | (refine id ?_; simp only [gxD]; omega)) only [↓gxPre, gxPost, ↓reduceIte, Nat.reduceEqDiff, reduceCtorEq, Nat.reduceAdd, hl', *])))
    simp only [markI, iv] at this ⊢
    rw [this]
    simp [Int.add_assoc]
theorem w_heldInt64S_ok {H : Heap} {h n : Nat} {ty : TypeId} {k : Int} (hb : H.blk h = some ⟨true, ty, (List.range n).map (markI k)⟩) (h0 : 0 ≤ k) (h1 : k ≤ 2 ^ 61) (hn : n ≤ 2 ^ 61) :
    ACalls Try.prog n_w_heldInt64S [.slice (some ⟨h, 0, none⟩) n n, .int .i64 k] H fun r H' => r = .int .i64 (k + n) ∧ H' = H := by
  refine k_w_heldInt64S.run rfl ?_
  unfold c_w_heldInt64S
  simp (disch := first | assumption | omega | rfl | (refine id ?_; simp only [gxD, ne_eq, reduceCtorEq, not_false_eq_true, Nat.reduceAdd, *]; done) | (refine id ?_; simp only [gxD]; omega)) only [↓gxPre, gxPost, ↓reduceIte, Nat.reduceEqDiff, reduceCtorEq, Nat.reduceAdd]
  refine loop_for n (fun i => [.slice (some ⟨h, 0, none⟩) n n, .int .i64 (k + i), .int .i64 i]) (by simp) ?_ ?_
  · ((try simp (disch := first | assumption | omega | rfl | (refine id ?_; simp only [gxD, ne_eq, reduceCtorEq, not_false_eq_true, Nat.reduceAdd, *]; done) | (refine id ?_; simp only [gxD]; omega)) only [↓gxPre, gxPost, ↓reduceIte, Nat.reduceEqDiff, reduceCtorEq, Nat.reduceAdd, Int.lt_irrefl, *]); repeat' (first | (refine grdR_split (fun _ => ?_) (fun _ => ?_) <;> simp (disch := first | assumption | omega | rfl | (refine id ?_; simp only [gxD, ne_eq, reduceCtorEq, not_false_eq_true, Nat.reduceAdd, *]; done) | (refine id ?_; simp only [gxD]; omega)) only [↓gxPre, gxPost, ↓reduceIte, Nat.reduceEqDiff, reduceCtorEq, Nat.reduceAdd, Int.lt_irrefl, *]) | (refine condR_split (fun _ => ?_) (fun _ => ?_) <;> simp (disch := first | assumption | omega | rfl | (refine id ?_; simp only [gxD, ne_eq, reduceCtorEq, not_false_eq_true, Nat.reduceAdd, *]; done) | (refine id ?_; simp only [gxD]; omega)) only [↓gxPre, gxPost, ↓reduceIte, Nat.reduceEqDiff, reduceCtorEq, Nat.reduceAdd, Int.lt_irrefl, *])))
  · intro i hi
    have hr : (List.map (markI k) (List.range n))[i]? = some (.int .i64 (k + i)) := by simp [hi, markI, iv]
    ((try simp (disch := first | assumption | omega | rfl | (refine id ?_; simp only [gxD, ne_eq, reduceCtorEq, not_false_eq_true, Nat.reduceAdd, *]; done) | (refine id ?_; simp only [gxD]; omega)) only [↓gxPre, gxPost, ↓reduceIte, Nat.reduceEqDiff, reduceCtorEq, Nat.reduceAdd, hr, ne_eq, not_true, not_false_eq_true, *]); repeat' (first | (refine grdR_split (fun _ => ?_) (fun _ => ?_) <;> simp (disch := first | assumption | omega | rfl | (refine id ?_; simp only [gxD, ne_eq, reduceCtorEq, not_false_eq_true, Nat.reduceAdd, *]; done) | (refine id ?_; simp only [gxD]; omega)) only [↓gxPre, gxPost, ↓reduceIte, Nat.reduceEqDiff, reduceCtorEq, Nat.reduceAdd, hr, ne_eq, not_true, not_false_eq_true, *]) | (refine condR_split (fun _ => ?_) (fun _ => ?_) <;> simp (disch := first | assumption | omega | rfl | (refine id ?_; simp only [gxD, ne_eq, reduceCtorEq, not_false_eq_true, Nat.reduceAdd, *]; done) | (refine id ?_; simp only [gxD]; omega)) only [↓gxPre, gxPost, ↓reduceIte, Nat.reduceEqDiff, reduceCtorEq, Nat.reduceAdd, hr, ne_eq, not_true, not_false_eq_true, *])))
    simp [Int.add_assoc]
theorem w_markFloat32S_nil {H : Heap} {k : Int} : ACalls Try.prog n_w_markFloat32S [.slice none 0 0, .int .i64 k] H fun r H' => r = .int .i64 k ∧ H' = H := by
  refine k_w_markFloat32S.run rfl ?_
  unfold c_w_markFloat32S
  simp (disch := first | assumption | omega | rfl | (refine id ?_; simp only [gxD, ne_eq, reduceCtorEq, not_false_eq_true, Nat.reduceAdd, *]; done) | (refine id ?_; simp only [gxD]; omega)) only [↓gxPre, gxPost, ↓reduceIte, Nat.reduceEqDiff, reduceCtorEq, Nat.reduceAdd]
  refine loop_for 0 (fun i => [.slice none 0 0, .int .i64 k, .int .i64 i]) rfl ?_ ?_
  · simp (disch := first | assumption | omega | rfl | (refine id ?_; simp only [gxD, ne_eq, reduceCtorEq, not_false_eq_true, Nat.reduceAdd, *]; done) | (refine id ?_; simp only [gxD]; omega)) only [↓gxPre, gxPost, ↓reduceIte, Nat.reduceEqDiff, reduceCtorEq, Nat.reduceAdd]
  · intro i hi; omega
theorem w_markInt64S_nil {H : Heap} {k : Int} : ACalls Try.prog n_w_markInt64S [.slice none 0 0, .int .i64 k] H fun r H' => r = .int .i64 k ∧ H' = H := by
  refine k_w_markInt64S.run rfl ?_
  unfold c_w_markInt64S
  simp (disch := first | assumption | omega | rfl | (refine id ?_; simp only [gxD, ne_eq, reduceCtorEq, not_false_eq_true, Nat.reduceAdd, *]; done) | (refine id ?_; simp only [gxD]; omega)) only [↓gxPre, gxPost, ↓reduceIte, Nat.reduceEqDiff, reduceCtorEq, Nat.reduceAdd]
  refine loop_for 0 (fun i => [.slice none 0 0, .int .i64 k, .int .i64 i]) rfl ?_ ?_
  · simp (disch := first | assumption | omega | rfl | (refine id ?_; simp only [gxD, ne_eq, reduceCtorEq, not_false_eq_true, Nat.reduceAdd, *]; done) | (refine id ?_; simp only [gxD]; omega)) only [↓gxPre, gxPost, ↓reduceIte, Nat.reduceEqDiff, reduceCtorEq, Nat.reduceAdd]
  · intro i hi; omega
theorem w_heldInt64S_nil {H : Heap} {k : Int} : ACalls Try.prog n_w_heldInt64S [.slice none 0 0, .int .i64 k] H fun r H' => r = .int .i64 k ∧ H' = H := by
  refine k_w_heldInt64S.run rfl ?_
  unfold c_w_heldInt64S
  simp (disch := first | assumption | omega | rfl | (refine id ?_; simp only [gxD, ne_eq, reduceCtorEq, not_false_eq_true, Nat.reduceAdd, *]; done) | (refine id ?_; simp only [gxD]; omega)) only [↓gxPre, gxPost, ↓reduceIte, Nat.reduceEqDiff, reduceCtorEq, Nat.reduceAdd]
  refine loop_for 0 (fun i => [.slice none 0 0, .int .i64 k, .int .i64 i]) rfl ?_ ?_
  · simp (disch := first | assumption | omega | rfl | (refine id ?_; simp only [gxD, ne_eq, reduceCtorEq, not_false_eq_true, Nat.reduceAdd, *]; done) | (refine id ?_; simp only [gxD]; omega)) only [↓gxPre, gxPost, ↓reduceIte, Nat.reduceEqDiff, reduceCtorEq, Nat.reduceAdd]
  · intro i hi; omega
end Go.Proofs.Ytkojmlpaamdhoad

namespace Go.Proofs.Ytkojmlpaamdhoad
open Go.Gx
set_option maxRecDepth 100000
set_option linter.unusedSimpArgs false
set_option linter.unusedVariables false

theorem i_within_ok {H : Heap} {a b c : Int} :
    ACalls Try.prog n_i_within [.int .i64 a, .int .i64 b, .int .i64 c] H fun r H' => r = .bool (within a b c) ∧ H' = H := by
  refine k_i_within.run rfl ?_
  unfold c_i_within
  ((try simp (disch := first | assumption | omega | rfl | (refine id ?_; simp only [gxD, ne_eq, reduceCtorEq, not_false_eq_true, Nat.reduceAdd, *]; done) | (refine id ?_; simp only [gxD]; omega)) only [↓gxPre, gxPost, ↓reduceIte, Nat.reduceEqDiff, reduceCtorEq, Nat.reduceAdd, *]); repeat' (first | (refine grdR_split (fun _ => ?_) (fun _ => ?_) <;> simp (disch := first | assumption | omega | rfl | (refine id ?_; simp only [gxD, ne_eq, reduceCtorEq, not_false_eq_true, Nat.reduceAdd, *]; done) | (refine id ?_; simp only [gxD]; omega)) only [↓gxPre, gxPost, ↓reduceIte, Nat.reduceEqDiff, reduceCtorEq, Nat.reduceAdd, *]) | (refine condR_split (fun _ => ?_) (fun _ => ?_) <;> simp (disch := first | assumption | omega | rfl | (refine id ?_; simp only [gxD, ne_eq, reduceCtorEq, not_false_eq_true, Nat.reduceAdd, *]; done) | (refine id ?_; simp only [gxD]; omega)) only [↓gxPre, gxPost, ↓reduceIte, Nat.reduceEqDiff, reduceCtorEq, Nat.reduceAdd, *])))
  all_goals (simp_all [within]; try omega)
theorem s_l00In_ok {H : Heap} {a b c : Int} :
    ACalls Try.prog n_s_l00In [.int .i64 a, .int .i64 b, .int .i64 c] H fun r H' => r = .bool (within a b c) ∧ H' = H := by
  refine k_s_l00In.run rfl ?_
  unfold c_s_l00In
  ((try simp (disch := first | assumption | omega | rfl | (refine id ?_; simp only [gxD, ne_eq, reduceCtorEq, not_false_eq_true, Nat.reduceAdd, *]; done) | (refine id ?_; simp only [gxD]; omega)) only [↓gxPre, gxPost, ↓reduceIte, Nat.reduceEqDiff, reduceCtorEq, Nat.reduceAdd, *]); repeat' (first | (refine grdR_split (fun _ => ?_) (fun _ => ?_) <;> simp (disch := first | assumption | omega | rfl | (refine id ?_; simp only [gxD, ne_eq, reduceCtorEq, not_false_eq_true, Nat.reduceAdd, *]; done) | (refine id ?_; simp only [gxD]; omega)) only [↓gxPre, gxPost, ↓reduceIte, Nat.reduceEqDiff, reduceCtorEq, Nat.reduceAdd, *]) | (refine condR_split (fun _ => ?_) (fun _ => ?_) <;> simp (disch := first | assumption | omega | rfl | (refine id ?_; simp only [gxD, ne_eq, reduceCtorEq, not_false_eq_true, Nat.reduceAdd, *]; done) | (refine id ?_; simp only [gxD]; omega)) only [↓gxPre, gxPost, ↓reduceIte, Nat.reduceEqDiff, reduceCtorEq, Nat.reduceAdd, *])))
  all_goals (simp_all [within]; try omega)
theorem i_IsFinite_ok {H : Heap} {x : Nat} : ACalls Try.prog n_i_IsFinite [.float .f32 x] H fun r H' => r = .bool (finF x) ∧ H' = H := by
  refine k_i_IsFinite.run rfl ?_
  unfold c_i_IsFinite
  ((try simp (disch := first | assumption | omega | rfl | (refine id ?_; simp only [gxD, ne_eq, reduceCtorEq, not_false_eq_true, Nat.reduceAdd, *]; done) | (refine id ?_; simp only [gxD]; omega)) only [↓gxPre, gxPost, ↓reduceIte, Nat.reduceEqDiff, reduceCtorEq, Nat.reduceAdd, finF, *]); repeat' (first | (refine grdR_split (fun _ => ?_) (fun _ => ?_) <;> simp (disch := first | assumption | omega | rfl | (refine id ?_; simp only [gxD, ne_eq, reduceCtorEq, not_false_eq_true, Nat.reduceAdd, *]; done) | (refine id ?_; simp only [gxD]; omega)) only [↓gxPre, gxPost, ↓reduceIte, Nat.reduceEqDiff, reduceCtorEq, Nat.reduceAdd, finF, *]) | (refine condR_split (fun _ => ?_) (fun _ => ?_) <;> simp (disch := first | assumption | omega | rfl | (refine id ?_; simp only [gxD, ne_eq, reduceCtorEq, not_false_eq_true, Nat.reduceAdd, *]; done) | (refine id ?_; simp only [gxD]; omega)) only [↓gxPre, gxPost, ↓reduceIte, Nat.reduceEqDiff, reduceCtorEq, Nat.reduceAdd, finF, *])))
theorem s_l01Finite_ok {H : Heap} {x : Nat} : ACalls Try.prog n_s_l01Finite [.float .f32 x] H fun r H' => r = .bool (finF x) ∧ H' = H := by
  refine k_s_l01Finite.run rfl ?_
  unfold c_s_l01Finite
  ((try simp (disch := first | assumption | omega | rfl | (refine id ?_; simp only [gxD, ne_eq, reduceCtorEq, not_false_eq_true, Nat.reduceAdd, *]; done) | (refine id ?_; simp only [gxD]; omega)) only [↓gxPre, gxPost, ↓reduceIte, Nat.reduceEqDiff, reduceCtorEq, Nat.reduceAdd, finF, *]); repeat' (first | (refine grdR_split (fun _ => ?_) (fun _ => ?_) <;> simp (disch := first | assumption | omega | rfl | (refine id ?_; simp only [gxD, ne_eq, reduceCtorEq, not_false_eq_true, Nat.reduceAdd, *]; done) | (refine id ?_; simp only [gxD]; omega)) only [↓gxPre, gxPost, ↓reduceIte, Nat.reduceEqDiff, reduceCtorEq, Nat.reduceAdd, finF, *]) | (refine condR_split (fun _ => ?_) (fun _ => ?_) <;> simp (disch := first | assumption | omega | rfl | (refine id ?_; simp only [gxD, ne_eq, reduceCtorEq, not_false_eq_true, Nat.reduceAdd, *]; done) | (refine id ?_; simp only [gxD]; omega)) only [↓gxPre, gxPost, ↓reduceIte, Nat.reduceEqDiff, reduceCtorEq, Nat.reduceAdd, finF, *])))
theorem s_l02Finite_ok {H : Heap} {v : Value} {xs : List Nat} (hv : FS H v xs) (hn : xs.length ≤ 2 ^ 40) : ACalls Try.prog n_s_l02Finite [v] H fun r H' => r = .bool (xs.all finF) ∧ H' = H := by
  refine k_s_l02Finite.run rfl ?_
  unfold c_s_l02Finite
  simp (disch := first | assumption | omega | rfl | (refine id ?_; simp only [gxD, ne_eq, reduceCtorEq, not_false_eq_true, Nat.reduceAdd, *]; done) | (refine id ?_; simp only [gxD]; omega)) only [↓gxPre, gxPost, ↓reduceIte, Nat.reduceEqDiff, reduceCtorEq, Nat.reduceAdd, hv.len]
  refine loop_forH xs.length (fun i => [v, .int .i64 i]) (fun i H' => H = H' ∧ ∀ j, j < i → finF (xs.getD j 0) = true) rfl ⟨rfl, by intros; omega⟩ ?_ ?_
  · rintro _ ⟨rfl, hJ⟩
    ((try simp (disch := first | assumption | omega | rfl | (refine id ?_; simp only [gxD, ne_eq, reduceCtorEq, not_false_eq_true, Nat.reduceAdd, *]; done) | (refine id ?_; simp only [gxD]; omega)) only [↓gxPre, gxPost, ↓reduceIte, Nat.reduceEqDiff, reduceCtorEq, Nat.reduceAdd, hv.len, Int.lt_irrefl, *]); repeat' (first | (refine grdR_split (fun _ => ?_) (fun _ => ?_) <;> simp (disch := first | assumption | omega | rfl | (refine id ?_; simp only [gxD, ne_eq, reduceCtorEq, not_false_eq_true, Nat.reduceAdd, *]; done) | (refine id ?_; simp only [gxD]; omega)) only [↓gxPre, gxPost, ↓reduceIte, Nat.reduceEqDiff, reduceCtorEq, Nat.reduceAdd, hv.len, Int.lt_irrefl, *]) | (refine condR_split (fun _ => ?_) (fun _ => ?_) <;> simp (disch := first | assumption | omega | rfl | (refine id ?_; simp only [gxD, ne_eq, reduceCtorEq, not_false_eq_true, Nat.reduceAdd, *]; done) | (refine id ?_; simp only [gxD]; omega)) only [↓gxPre, gxPost, ↓reduceIte, Nat.reduceEqDiff, reduceCtorEq, Nat.reduceAdd, hv.len, Int.lt_irrefl, *])))
    rw [all_getD.2 hJ]
  · rintro i _ hi ⟨rfl, hJ⟩
    ((try simp (disch := first | assumption | omega | rfl | (refine id ?_; simp only [gxD, ne_eq, reduceCtorEq, not_false_eq_true, Nat.reduceAdd, *]; done) | (refine id ?_; simp only [gxD]; omega)) only [↓gxPre, gxPost, ↓reduceIte, Nat.reduceEqDiff, reduceCtorEq, Nat.reduceAdd, hv.len, hv.ia, hv.ld, *]); repeat' (first | (refine grdR_split (fun _ => ?_) (fun _ => ?_) <;> simp (disch := first | assumption | omega | rfl | (refine id ?_; simp only [gxD, ne_eq, reduceCtorEq, not_false_eq_true, Nat.reduceAdd, *]; done) | (refine id ?_; simp only [gxD]; omega)) only [↓gxPre, gxPost, ↓reduceIte, Nat.reduceEqDiff, reduceCtorEq, Nat.reduceAdd, hv.len, hv.ia, hv.ld, *]) | (refine condR_split (fun _ => ?_) (fun _ => ?_) <;> simp (disch := first | assumption | omega | rfl | (refine id ?_; simp only [gxD, ne_eq, reduceCtorEq, not_false_eq_true, Nat.reduceAdd, *]; done) | (refine id ?_; simp only [gxD]; omega)) only [↓gxPre, gxPost, ↓reduceIte, Nat.reduceEqDiff, reduceCtorEq, Nat.reduceAdd, hv.len, hv.ia, hv.ld, *]) | (refine callR_pure (s_l01Finite_ok) (by first | exact Or.inl rfl | (simp (disch := first | assumption | omega | rfl | (refine id ?_; simp only [gxD, ne_eq, reduceCtorEq, not_false_eq_true, Nat.reduceAdd, *]; done) | (refine id ?_; simp only [gxD]; omega)) only [↓gxPre, gxPost, ↓reduceIte, Nat.reduceEqDiff, reduceCtorEq, Nat.reduceAdd, hv.len, hv.ia, hv.ld, *]; done)) ?_; simp (disch := first | assumption | omega | rfl | (refine id ?_; simp only [gxD, ne_eq, reduceCtorEq, not_false_eq_true, Nat.reduceAdd, *]; done) | (refine id ?_; simp only [gxD]; omega)) only [↓gxPre, gxPost, ↓reduceIte, Nat.reduceEqDiff, reduceCtorEq, Nat.reduceAdd, hv.len, hv.ia, hv.ld, *])))
    · rename_i h; simp only [Bool.not_eq_true'] at h
      rw [all_false hi h]
    · rename_i h; simp only [Bool.not_eq_false'] at h
      exact ⟨by simp, Nat.forall_lt_succ_right.2 ⟨hJ, h⟩⟩
theorem i_areFinite_ok {H : Heap} {w : Value} {xss : List (List Nat)} (hw : SS H w xss) (hn : xss.length ≤ 2 ^ 40) (hx : ∀ j, j < xss.length → (xss.getD j []).length ≤ 2 ^ 40) :
    ACalls Try.prog n_i_areFinite [w] H fun r H' => r = .bool (xss.all fun xs => xs.all finF) ∧ H' = H := by
  obtain ⟨vs, hv, hl, hvs⟩ := hw
  refine k_i_areFinite.run rfl ?_
  unfold c_i_areFinite
  simp (disch := first | assumption | omega | rfl | (refine id ?_; simp only [gxD, ne_eq, reduceCtorEq, not_false_eq_true, Nat.reduceAdd, *]; done) | (refine id ?_; simp only [gxD]; omega)) only [↓gxPre, gxPost, ↓reduceIte, Nat.reduceEqDiff, reduceCtorEq, Nat.reduceAdd, hv.len, hl]
  refine loop_forH xss.length (fun i => [w, .int .i64 xss.length, .int .i64 i]) (fun i H' => H = H' ∧ ∀ j, j < i → (xss.getD j []).all finF = true) rfl ⟨rfl, by intros; omega⟩ ?_ ?_
  · rintro _ ⟨rfl, hJ⟩
    ((try simp (disch := first | assumption | omega | rfl | (refine id ?_; simp only [gxD, ne_eq, reduceCtorEq, not_false_eq_true, Nat.reduceAdd, *]; done) | (refine id ?_; simp only [gxD]; omega)) only [↓gxPre, gxPost, ↓reduceIte, Nat.reduceEqDiff, reduceCtorEq, Nat.reduceAdd, Int.lt_irrefl, *]); repeat' (first | (refine grdR_split (fun _ => ?_) (fun _ => ?_) <;> simp (disch := first | assumption | omega | rfl | (refine id ?_; simp only [gxD, ne_eq, reduceCtorEq, not_false_eq_true, Nat.reduceAdd, *]; done) | (refine id ?_; simp only [gxD]; omega)) only [↓gxPre, gxPost, ↓reduceIte, Nat.reduceEqDiff, reduceCtorEq, Nat.reduceAdd, Int.lt_irrefl, *]) | (refine condR_split (fun _ => ?_) (fun _ => ?_) <;> simp (disch := first | assumption | omega | rfl | (refine id ?_; simp only [gxD, ne_eq, reduceCtorEq, not_false_eq_true, Nat.reduceAdd, *]; done) | (refine id ?_; simp only [gxD]; omega)) only [↓gxPre, gxPost, ↓reduceIte, Nat.reduceEqDiff, reduceCtorEq, Nat.reduceAdd, Int.lt_irrefl, *])))
    rw [(allD []).2 hJ]
  · rintro i _ hi ⟨rfl, hJ⟩
    have hu := hvs i hi
    have hxi := hx i hi
    simp (disch := first | assumption | omega | rfl | (refine id ?_; simp only [gxD, ne_eq, reduceCtorEq, not_false_eq_true, Nat.reduceAdd, *]; done) | (refine id ?_; simp only [gxD]; omega)) only [↓gxPre, gxPost, ↓reduceIte, Nat.reduceEqDiff, reduceCtorEq, Nat.reduceAdd, hi, hv.ia, hv.ldD, hl, hu.len]
    refine loop_forH (xss.getD i []).length (fun j => [w, .int .i64 xss.length, .int .i64 i, vs.getD i undef, .int .i64 (xss.getD i []).length, .int .i64 j]) (fun j H' => H = H' ∧ ∀ k, k < j → finF ((xss.getD i []).getD k 0) = true) rfl ⟨rfl, by intros; omega⟩ ?_ ?_
    · rintro _ ⟨rfl, hK⟩
      simp (disch := first | assumption | omega | rfl | (refine id ?_; simp only [gxD, ne_eq, reduceCtorEq, not_false_eq_true, Nat.reduceAdd, *]; done) | (refine id ?_; simp only [gxD]; omega)) only [↓gxPre, gxPost, ↓reduceIte, Nat.reduceEqDiff, reduceCtorEq, Nat.reduceAdd, Int.lt_irrefl]
      exact ⟨by simp, Nat.forall_lt_succ_right.2 ⟨hJ, all_getD.2 hK⟩⟩
    · rintro j _ hj ⟨rfl, hK⟩
      ((try simp (disch := first | assumption | omega | rfl | (refine id ?_; simp only [gxD, ne_eq, reduceCtorEq, not_false_eq_true, Nat.reduceAdd, *]; done) | (refine id ?_; simp only [gxD]; omega)) only [↓gxPre, gxPost, ↓reduceIte, Nat.reduceEqDiff, reduceCtorEq, Nat.reduceAdd, hj, hu.ia, hu.ld, *]); repeat' (first | (refine grdR_split (fun _ => ?_) (fun _ => ?_) <;> simp (disch := first | assumption | omega | rfl | (refine id ?_; simp only [gxD, ne_eq, reduceCtorEq, not_false_eq_true, Nat.reduceAdd, *]; done) | (refine id ?_; simp only [gxD]; omega)) only [↓gxPre, gxPost, ↓reduceIte, Nat.reduceEqDiff, reduceCtorEq, Nat.reduceAdd, hj, hu.ia, hu.ld, *]) | (refine condR_split (fun _ => ?_) (fun _ => ?_) <;> simp (disch := first | assumption | omega | rfl | (refine id ?_; simp only [gxD, ne_eq, reduceCtorEq, not_false_eq_true, Nat.reduceAdd, *]; done) | (refine id ?_; simp only [gxD]; omega)) only [↓gxPre, gxPost, ↓reduceIte, Nat.reduceEqDiff, reduceCtorEq, Nat.reduceAdd, hj, hu.ia, hu.ld, *]) | (refine callR_pure (i_IsFinite_ok) (by first | exact Or.inl rfl | (simp (disch := first | assumption | omega | rfl | (refine id ?_; simp only [gxD, ne_eq, reduceCtorEq, not_false_eq_true, Nat.reduceAdd, *]; done) | (refine id ?_; simp only [gxD]; omega)) only [↓gxPre, gxPost, ↓reduceIte, Nat.reduceEqDiff, reduceCtorEq, Nat.reduceAdd, hj, hu.ia, hu.ld, *]; done)) ?_; simp (disch := first | assumption | omega | rfl | (refine id ?_; simp only [gxD, ne_eq, reduceCtorEq, not_false_eq_true, Nat.reduceAdd, *]; done) | (refine id ?_; simp only [gxD]; omega)) only [↓gxPre, gxPost, ↓reduceIte, Nat.reduceEqDiff, reduceCtorEq, Nat.reduceAdd, hj, hu.ia, hu.ld, *])))
      · rename_i h; simp only [Bool.not_eq_true'] at h
        rw [allD_false [] hi (all_false hj h)]
      · rename_i h; simp only [Bool.not_eq_false'] at h
        exact ⟨by simp, Nat.forall_lt_succ_right.2 ⟨hK, h⟩⟩
theorem i_areFinite1_ok {H : Heap} {h : Nat} {own : Bool} {ty : TypeId} {v : Value} {xs : List Nat} (hb : H.blk h = some ⟨own, ty, [v]⟩) (hh : h < H.n) (hv : FS H v xs) (hn : xs.length ≤ 2 ^ 40) :
    ACalls Try.prog n_i_areFinite [.slice (some ⟨h, 0, none⟩) 1 1] H fun r H' => r = .bool (xs.all finF) ∧ H' = H := by
  refine (i_areFinite_ok (SS.one hb hh hv) (by simp) ?_).mono ?_
  · intro j hj
    have : j = 0 := by simpa using hj
    subst this; exact hn
  · rintro _ _ ⟨rfl, rfl⟩
    simp
theorem i_areFinite2_ok {H : Heap} {h : Nat} {own : Bool} {ty : TypeId} {v u : Value} {xs ys : List Nat} (hb : H.blk h = some ⟨own, ty, [v, u]⟩) (hh : h < H.n) (hv : FS H v xs) (hu : FS H u ys) (hn : xs.length ≤ 2 ^ 40) (hm : ys.length ≤ 2 ^ 40) :
    ACalls Try.prog n_i_areFinite [.slice (some ⟨h, 0, none⟩) 2 2] H fun r H' => r = .bool (xs.all finF && ys.all finF) ∧ H' = H := by
  refine (i_areFinite_ok (SS.two hb hh hv hu) (by simp) ?_).mono ?_
  · intro j hj
    have : j = 0 ∨ j = 1 := by have : j < 2 := by simpa using hj
                               omega
    rcases this with rfl | rfl
    · exact hn
    · exact hm
  · rintro _ _ ⟨rfl, rfl⟩
    simp
theorem i_size_ok {H : Heap} {x : Nat} : ACalls Try.prog n_i_size [.float .f32 x] H fun r H' => r = .float .f32 (sizeF x) ∧ H' = H := by
  refine k_i_size.run rfl ?_
  unfold c_i_size
  ((try simp (disch := first | assumption | omega | rfl | (refine id ?_; simp only [gxD, ne_eq, reduceCtorEq, not_false_eq_true, Nat.reduceAdd, *]; done) | (refine id ?_; simp only [gxD]; omega)) only [↓gxPre, gxPost, ↓reduceIte, Nat.reduceEqDiff, reduceCtorEq, Nat.reduceAdd, *]); repeat' (first | (refine grdR_split (fun _ => ?_) (fun _ => ?_) <;> simp (disch := first | assumption | omega | rfl | (refine id ?_; simp only [gxD, ne_eq, reduceCtorEq, not_false_eq_true, Nat.reduceAdd, *]; done) | (refine id ?_; simp only [gxD]; omega)) only [↓gxPre, gxPost, ↓reduceIte, Nat.reduceEqDiff, reduceCtorEq, Nat.reduceAdd, *]) | (refine condR_split (fun _ => ?_) (fun _ => ?_) <;> simp (disch := first | assumption | omega | rfl | (refine id ?_; simp only [gxD, ne_eq, reduceCtorEq, not_false_eq_true, Nat.reduceAdd, *]; done) | (refine id ?_; simp only [gxD]; omega)) only [↓gxPre, gxPost, ↓reduceIte, Nat.reduceEqDiff, reduceCtorEq, Nat.reduceAdd, *])))
  all_goals simp_all [sizeF]
end Go.Proofs.Ytkojmlpaamdhoad

namespace Go.Proofs.Ytkojmlpaamdhoad
open Go.Gx
set_option maxRecDepth 100000
set_option linter.unusedSimpArgs false
set_option linter.unusedVariables false

theorem s_l03Size_ok {H : Heap} {x : Nat} (hx : x < 2 ^ 32) : ACalls Try.prog n_s_l03Size [.float .f32 x] H fun r H' => r = .float .f32 (sizeF x) ∧ H' = H := by
  refine k_s_l03Size.run rfl ?_
  unfold c_s_l03Size
  rw [← size_same hx]
  ((try simp (disch := first | assumption | omega | rfl | (refine id ?_; simp only [gxD, ne_eq, reduceCtorEq, not_false_eq_true, Nat.reduceAdd, *]; done) | (refine id ?_; simp only [gxD]; omega)) only [↓gxPre, gxPost, ↓reduceIte, Nat.reduceEqDiff, reduceCtorEq, Nat.reduceAdd, *]); repeat' (first | (refine grdR_split (fun _ => ?_) (fun _ => ?_) <;> simp (disch := first | assumption | omega | rfl | (refine id ?_; simp only [gxD, ne_eq, reduceCtorEq, not_false_eq_true, Nat.reduceAdd, *]; done) | (refine id ?_; simp only [gxD]; omega)) only [↓gxPre, gxPost, ↓reduceIte, Nat.reduceEqDiff, reduceCtorEq, Nat.reduceAdd, *]) | (refine condR_split (fun _ => ?_) (fun _ => ?_) <;> simp (disch := first | assumption | omega | rfl | (refine id ?_; simp only [gxD, ne_eq, reduceCtorEq, not_false_eq_true, Nat.reduceAdd, *]; done) | (refine id ?_; simp only [gxD]; omega)) only [↓gxPre, gxPost, ↓reduceIte, Nat.reduceEqDiff, reduceCtorEq, Nat.reduceAdd, *])))
  all_goals simp_all [sizeS]
theorem s_l03Maxima_ok {H : Heap} {v : Value} {xs : List Nat} (hv : FS H v xs) (hn : xs.length ≤ 2 ^ 40) (hw : W32 xs) :
    ACalls Try.prog n_s_l03Maxima [v] H fun r H' => Ext H H' ∧ ∃ h, H.n ≤ h ∧ h < H'.n ∧ r = .slice (some ⟨h, 0, none⟩) (maximaL xs xs.length).length (maximaL xs xs.length).length ∧ H'.blk h = some ⟨true, t_int64, (maximaL xs xs.length).map iv⟩ := by
  refine k_s_l03Maxima.run rfl ?_
  unfold c_s_l03Maxima
  simp (disch := first | assumption | omega | rfl | (refine id ?_; simp only [gxD, ne_eq, reduceCtorEq, not_false_eq_true, Nat.reduceAdd, *]; done) | (refine id ?_; simp only [gxD]; omega)) only [↓gxPre, gxPost, ↓reduceIte, Nat.reduceEqDiff, reduceCtorEq, Nat.reduceAdd, hv.len]
  refine loop_forH xs.length (fun i => [v, .slice (some ⟨H.n, 0, none⟩) (maximaL xs i).length (maximaL xs i).length, .int .i64 xs.length, .int .i64 i]) (fun i H' => H.n + 1 ≤ H'.n ∧ H'.blk H.n = some ⟨true, t_int64, (maximaL xs i).map iv⟩ ∧ ∀ k, k < H.n → H'.blk k = H.blk k) rfl ⟨by simp only [new_n]; omega, by simp (disch := first | assumption | omega | rfl | (refine id ?_; simp only [gxD, ne_eq, reduceCtorEq, not_false_eq_true, Nat.reduceAdd, *]; done) | (refine id ?_; simp only [gxD]; omega)) only [↓gxPre, gxPost, ↓reduceIte, Nat.reduceEqDiff, reduceCtorEq, Nat.reduceAdd, maximaL_zero, List.map_nil], fun k hk => by simp (disch := first | assumption | omega | rfl | (refine id ?_; simp only [gxD, ne_eq, reduceCtorEq, not_false_eq_true, Nat.reduceAdd, *]; done) | (refine id ?_; simp only [gxD]; omega)) only [↓gxPre, gxPost, ↓reduceIte, Nat.reduceEqDiff, reduceCtorEq, Nat.reduceAdd]⟩ ?_ ?_
  · rintro G ⟨g1, g2, g3⟩
    simp (disch := first | assumption | omega | rfl | (refine id ?_; simp only [gxD, ne_eq, reduceCtorEq, not_false_eq_true, Nat.reduceAdd, *]; done) | (refine id ?_; simp only [gxD]; omega)) only [↓gxPre, gxPost, ↓reduceIte, Nat.reduceEqDiff, reduceCtorEq, Nat.reduceAdd, Int.lt_irrefl]
    exact ⟨⟨by omega, g3⟩, H.n, by omega, by omega, rfl, g2⟩
  · rintro i G hi ⟨g1, g2, g3⟩
    have hu : FS G v xs := hv.ext ⟨by omega, g3⟩
    have hlen := maximaL_len xs i
    have e0 : i = 0 ∨ 0 < i := by omega
    have e1 : (((i : Int) - 1).toNat) = i - 1 := by omega
    have e2 : (((i : Int) + 1).toNat) = i + 1 := by omega
    ((try simp (disch := first | assumption | omega | rfl | (refine id ?_; simp only [gxD, ne_eq, reduceCtorEq, not_false_eq_true, Nat.reduceAdd, *]; done) | (refine id ?_; simp only [gxD]; omega)) only [↓gxPre, gxPost, ↓reduceIte, Nat.reduceEqDiff, reduceCtorEq, Nat.reduceAdd, hi, hv.len, hu.len, hu.ia, hu.ld, *]); repeat' (first | (refine grdR_splitE (fun _ _ => ?_) (fun _ => ?_) <;> simp (disch := first | assumption | omega | rfl | (refine id ?_; simp only [gxD, ne_eq, reduceCtorEq, not_false_eq_true, Nat.reduceAdd, *]; done) | (refine id ?_; simp only [gxD]; omega)) only [↓gxPre, gxPost, ↓reduceIte, Nat.reduceEqDiff, reduceCtorEq, Nat.reduceAdd, hi, hv.len, hu.len, hu.ia, hu.ld, *]) | (refine condR_splitE (fun _ _ => ?_) (fun _ => ?_) <;> simp (disch := first | assumption | omega | rfl | (refine id ?_; simp only [gxD, ne_eq, reduceCtorEq, not_false_eq_true, Nat.reduceAdd, *]; done) | (refine id ?_; simp only [gxD]; omega)) only [↓gxPre, gxPost, ↓reduceIte, Nat.reduceEqDiff, reduceCtorEq, Nat.reduceAdd, hi, hv.len, hu.len, hu.ia, hu.ld, *]) | (refine grdR_splitD (fun _ => ?_) (fun _ => ?_) <;> simp (disch := first | assumption | omega | rfl | (refine id ?_; simp only [gxD, ne_eq, reduceCtorEq, not_false_eq_true, Nat.reduceAdd, *]; done) | (refine id ?_; simp only [gxD]; omega)) only [↓gxPre, gxPost, ↓reduceIte, Nat.reduceEqDiff, reduceCtorEq, Nat.reduceAdd, hi, hv.len, hu.len, hu.ia, hu.ld, *]) | (refine condR_splitD (fun _ => ?_) (fun _ => ?_) <;> simp (disch := first | assumption | omega | rfl | (refine id ?_; simp only [gxD, ne_eq, reduceCtorEq, not_false_eq_true, Nat.reduceAdd, *]; done) | (refine id ?_; simp only [gxD]; omega)) only [↓gxPre, gxPost, ↓reduceIte, Nat.reduceEqDiff, reduceCtorEq, Nat.reduceAdd, hi, hv.len, hu.len, hu.ia, hu.ld, *]) | (refine grdR_split (fun _ => ?_) (fun _ => ?_) <;> simp (disch := first | assumption | omega | rfl | (refine id ?_; simp only [gxD, ne_eq, reduceCtorEq, not_false_eq_true, Nat.reduceAdd, *]; done) | (refine id ?_; simp only [gxD]; omega)) only [↓gxPre, gxPost, ↓reduceIte, Nat.reduceEqDiff, reduceCtorEq, Nat.reduceAdd, hi, hv.len, hu.len, hu.ia, hu.ld, *]) | (refine condR_split (fun _ => ?_) (fun _ => ?_) <;> simp (disch := first | assumption | omega | rfl | (refine id ?_; simp only [gxD, ne_eq, reduceCtorEq, not_false_eq_true, Nat.reduceAdd, *]; done) | (refine id ?_; simp only [gxD]; omega)) only [↓gxPre, gxPost, ↓reduceIte, Nat.reduceEqDiff, reduceCtorEq, Nat.reduceAdd, hi, hv.len, hu.len, hu.ia, hu.ld, *]) | (refine callR_pure (s_l03Size_ok (hw.get _)) (by first | exact Or.inl rfl | (simp (disch := first | assumption | omega | rfl | (refine id ?_; simp only [gxD, ne_eq, reduceCtorEq, not_false_eq_true, Nat.reduceAdd, *]; done) | (refine id ?_; simp only [gxD]; omega)) only [↓gxPre, gxPost, ↓reduceIte, Nat.reduceEqDiff, reduceCtorEq, Nat.reduceAdd, hi, hv.len, hu.len, hu.ia, hu.ld, *]; done)) ?_; simp (disch := first | assumption | omega | rfl | (refine id ?_; simp only [gxD, ne_eq, reduceCtorEq, not_false_eq_true, Nat.reduceAdd, *]; done) | (refine id ?_; simp only [gxD]; omega)) only [↓gxPre, gxPost, ↓reduceIte, Nat.reduceEqDiff, reduceCtorEq, Nat.reduceAdd, hi, hv.len, hu.len, hu.ia, hu.ld, *])))
    all_goals first
      | (have hm : maxAt xs i = true := by
           unfold maxAt
           simp only [*, Bool.true_and, Bool.and_eq_true, Bool.or_eq_true, decide_eq_true_eq, and_true, true_and, or_true, true_or, and_self]
           first | done | exact ⟨Or.inl (by omega), Or.inl (by omega)⟩ | exact Or.inl (by omega) | (refine ⟨?_, ?_⟩ <;> first | trivial | exact Or.inl (by omega) | assumption)
         rw [maximaL_yes hm]
         refine ⟨by simp, by omega, by simp [iv], fun k hk => ?_⟩
         simp (disch := first | assumption | omega | rfl | (refine id ?_; simp only [gxD, ne_eq, reduceCtorEq, not_false_eq_true, Nat.reduceAdd, *]; done) | (refine id ?_; simp only [gxD]; omega)) only [↓gxPre, gxPost, ↓reduceIte, Nat.reduceEqDiff, reduceCtorEq, Nat.reduceAdd, *])
      | (have hm : maxAt xs i = false := by
           unfold maxAt
           have z0 : ¬ (i : Int) = 0 → decide (i = 0) = false := fun h => decide_eq_false (by omega)
           have z1 : ¬ (i : Int) + 1 = xs.length → decide (i + 1 = xs.length) = false := fun h => decide_eq_false (by omega)
           simp only [*, not_false_eq_true, forall_const, Bool.false_and, Bool.and_false, Bool.true_and, Bool.false_or, Bool.or_false]
         rw [maximaL_no hm]
         exact ⟨by simp, rfl, g3⟩)
theorem i_maximaOf_ok {H : Heap} {v : Value} {xs : List Nat} (hv : FS H v xs) (hn : xs.length ≤ 2 ^ 40) (hw : W32 xs) :
    ACalls Try.prog n_i_maximaOf [v] H fun r H' => Ext H H' ∧ ∃ h, H.n ≤ h ∧ h < H'.n ∧ r = .slice (some ⟨h, 0, none⟩) (maximaL xs xs.length).length (maximaL xs xs.length).length ∧ H'.blk h = some ⟨true, t_int64, (maximaL xs xs.length).map iv⟩ := by
  refine k_i_maximaOf.run rfl ?_
  unfold c_i_maximaOf
  simp (disch := first | assumption | omega | rfl | (refine id ?_; simp only [gxD, ne_eq, reduceCtorEq, not_false_eq_true, Nat.reduceAdd, *]; done) | (refine id ?_; simp only [gxD]; omega)) only [↓gxPre, gxPost, ↓reduceIte, Nat.reduceEqDiff, reduceCtorEq, Nat.reduceAdd, hv.len]
  refine loop_forH xs.length (fun i => [v, .slice (some ⟨H.n, 0, none⟩) (maximaL xs i).length (maximaL xs i).length, v, .int .i64 xs.length, .int .i64 i]) (fun i H' => H.n + 1 ≤ H'.n ∧ H'.blk H.n = some ⟨true, t_int64, (maximaL xs i).map iv⟩ ∧ ∀ k, k < H.n → H'.blk k = H.blk k) rfl ⟨by simp only [new_n]; omega, by simp (disch := first | assumption | omega | rfl | (refine id ?_; simp only [gxD, ne_eq, reduceCtorEq, not_false_eq_true, Nat.reduceAdd, *]; done) | (refine id ?_; simp only [gxD]; omega)) only [↓gxPre, gxPost, ↓reduceIte, Nat.reduceEqDiff, reduceCtorEq, Nat.reduceAdd, maximaL_zero, List.map_nil], fun k hk => by simp (disch := first | assumption | omega | rfl | (refine id ?_; simp only [gxD, ne_eq, reduceCtorEq, not_false_eq_true, Nat.reduceAdd, *]; done) | (refine id ?_; simp only [gxD]; omega)) only [↓gxPre, gxPost, ↓reduceIte, Nat.reduceEqDiff, reduceCtorEq, Nat.reduceAdd]⟩ ?_ ?_
  · rintro G ⟨g1, g2, g3⟩
    simp (disch := first | assumption | omega | rfl | (refine id ?_; simp only [gxD, ne_eq, reduceCtorEq, not_false_eq_true, Nat.reduceAdd, *]; done) | (refine id ?_; simp only [gxD]; omega)) only [↓gxPre, gxPost, ↓reduceIte, Nat.reduceEqDiff, reduceCtorEq, Nat.reduceAdd, Int.lt_irrefl]
    exact ⟨⟨by omega, g3⟩, H.n, by omega, by omega, rfl, g2⟩
  · rintro i G hi ⟨g1, g2, g3⟩
    have hu : FS G v xs := hv.ext ⟨by omega, g3⟩
    have hlen := maximaL_len xs i
    have e0 : i = 0 ∨ 0 < i := by omega
    have e1 : (((i : Int) - 1).toNat) = i - 1 := by omega
    have e2 : (((i : Int) + 1).toNat) = i + 1 := by omega
    ((try simp (disch := first | assumption | omega | rfl | (refine id ?_; simp only [gxD, ne_eq, reduceCtorEq, not_false_eq_true, Nat.reduceAdd, *]; done) | (refine id ?_; simp only [gxD]; omega)) only [↓gxPre, gxPost, ↓reduceIte, Nat.reduceEqDiff, reduceCtorEq, Nat.reduceAdd, hi, hv.len, hu.len, hu.ia, hu.ld, *]); repeat' (first | (refine grdR_splitE (fun _ _ => ?_) (fun _ => ?_) <;> simp (disch := first | assumption | omega | rfl | (refine id ?_; simp only [gxD, ne_eq, reduceCtorEq, not_false_eq_true, Nat.reduceAdd, *]; done) | (refine id ?_; simp only [gxD]; omega)) only [↓gxPre, gxPost, ↓reduceIte, Nat.reduceEqDiff, reduceCtorEq, Nat.reduceAdd, hi, hv.len, hu.len, hu.ia, hu.ld, *]) | (refine condR_splitE (fun _ _ => ?_) (fun _ => ?_) <;> simp (disch := first | assumption | omega | rfl | (refine id ?_; simp only [gxD, ne_eq, reduceCtorEq, not_false_eq_true, Nat.reduceAdd, *]; done) | (refine id ?_; simp only [gxD]; omega)) only [↓gxPre, gxPost, ↓reduceIte, Nat.reduceEqDiff, reduceCtorEq, Nat.reduceAdd, hi, hv.len, hu.len, hu.ia, hu.ld, *]) | (refine grdR_splitD (fun _ => ?_) (fun _ => ?_) <;> simp (disch := first | assumption | omega | rfl | (refine id ?_; simp only [gxD, ne_eq, reduceCtorEq, not_false_eq_true, Nat.reduceAdd, *]; done) | (refine id ?_; simp only [gxD]; omega)) only [↓gxPre, gxPost, ↓reduceIte, Nat.reduceEqDiff, reduceCtorEq, Nat.reduceAdd, hi, hv.len, hu.len, hu.ia, hu.ld, *]) | (refine condR_splitD (fun _ => ?_) (fun _ => ?_) <;> simp (disch := first | assumption | omega | rfl | (refine id ?_; simp only [gxD, ne_eq, reduceCtorEq, not_false_eq_true, Nat.reduceAdd, *]; done) | (refine id ?_; simp only [gxD]; omega)) only [↓gxPre, gxPost, ↓reduceIte, Nat.reduceEqDiff, reduceCtorEq, Nat.reduceAdd, hi, hv.len, hu.len, hu.ia, hu.ld, *]) | (refine grdR_split (fun _ => ?_) (fun _ => ?_) <;> simp (disch := first | assumption | omega | rfl | (refine id ?_; simp only [gxD, ne_eq, reduceCtorEq, not_false_eq_true, Nat.reduceAdd, *]; done) | (refine id ?_; simp only [gxD]; omega)) only [↓gxPre, gxPost, ↓reduceIte, Nat.reduceEqDiff, reduceCtorEq, Nat.reduceAdd, hi, hv.len, hu.len, hu.ia, hu.ld, *]) | (refine condR_split (fun _ => ?_) (fun _ => ?_) <;> simp (disch := first | assumption | omega | rfl | (refine id ?_; simp only [gxD, ne_eq, reduceCtorEq, not_false_eq_true, Nat.reduceAdd, *]; done) | (refine id ?_; simp only [gxD]; omega)) only [↓gxPre, gxPost, ↓reduceIte, Nat.reduceEqDiff, reduceCtorEq, Nat.reduceAdd, hi, hv.len, hu.len, hu.ia, hu.ld, *]) | (refine callR_pure (i_size_ok) (by first | exact Or.inl rfl | (simp (disch := first | assumption | omega | rfl | (refine id ?_; simp only [gxD, ne_eq, reduceCtorEq, not_false_eq_true, Nat.reduceAdd, *]; done) | (refine id ?_; simp only [gxD]; omega)) only [↓gxPre, gxPost, ↓reduceIte, Nat.reduceEqDiff, reduceCtorEq, Nat.reduceAdd, hi, hv.len, hu.len, hu.ia, hu.ld, *]; done)) ?_; simp (disch := first | assumption | omega | rfl | (refine id ?_; simp only [gxD, ne_eq, reduceCtorEq, not_false_eq_true, Nat.reduceAdd, *]; done) | (refine id ?_; simp only [gxD]; omega)) only [↓gxPre, gxPost, ↓reduceIte, Nat.reduceEqDiff, reduceCtorEq, Nat.reduceAdd, hi, hv.len, hu.len, hu.ia, hu.ld, *])))
    all_goals first
      | (have hm : maxAt xs i = true := by
           unfold maxAt
           simp only [*, Bool.true_and, Bool.and_eq_true, Bool.or_eq_true, decide_eq_true_eq, and_true, true_and, or_true, true_or, and_self]
           first | done | exact ⟨Or.inl (by omega), Or.inl (by omega)⟩ | exact Or.inl (by omega) | (refine ⟨?_, ?_⟩ <;> first | trivial | exact Or.inl (by omega) | assumption)
         rw [maximaL_yes hm]
         refine ⟨by simp, by omega, by simp [iv], fun k hk => ?_⟩
         simp (disch := first | assumption | omega | rfl | (refine id ?_; simp only [gxD, ne_eq, reduceCtorEq, not_false_eq_true, Nat.reduceAdd, *]; done) | (refine id ?_; simp only [gxD]; omega)) only [↓gxPre, gxPost, ↓reduceIte, Nat.reduceEqDiff, reduceCtorEq, Nat.reduceAdd, *])
      | (have hm : maxAt xs i = false := by
           unfold maxAt
           have z0 : ¬ (i : Int) = 0 → decide (i = 0) = false := fun h => decide_eq_false (by omega)
           have z1 : ¬ (i : Int) + 1 = xs.length → decide (i + 1 = xs.length) = false := fun h => decide_eq_false (by omega)
           simp only [*, not_false_eq_true, forall_const, Bool.false_and, Bool.and_false, Bool.true_and, Bool.false_or, Bool.or_false]
         rw [maximaL_no hm]
         exact ⟨by simp, rfl, g3⟩)
end Go.Proofs.Ytkojmlpaamdhoad

namespace Go.Proofs.Ytkojmlpaamdhoad
open Go.Gx
set_option maxRecDepth 100000
set_option linter.unusedSimpArgs false
set_option linter.unusedVariables false

theorem s_l03Long_ok {H : Heap} {v : Value} {xs : List Nat} (hv : FS H v xs) (hn : xs.length ≤ 2 ^ 40) : ACalls Try.prog n_s_l03Long [v] H fun r H' => r = .bool (isLongF xs) ∧ H' = H := by
  refine k_s_l03Long.run rfl ?_
  unfold c_s_l03Long
  ((try simp (disch := first | assumption | omega | rfl | (refine id ?_; simp only [gxD, ne_eq, reduceCtorEq, not_false_eq_true, Nat.reduceAdd, *]; done) | (refine id ?_; simp only [gxD]; omega)) only [↓gxPre, gxPost, ↓reduceIte, Nat.reduceEqDiff, reduceCtorEq, Nat.reduceAdd, hv.len, *]); repeat' (first | (refine grdR_split (fun _ => ?_) (fun _ => ?_) <;> simp (disch := first | assumption | omega | rfl | (refine id ?_; simp only [gxD, ne_eq, reduceCtorEq, not_false_eq_true, Nat.reduceAdd, *]; done) | (refine id ?_; simp only [gxD]; omega)) only [↓gxPre, gxPost, ↓reduceIte, Nat.reduceEqDiff, reduceCtorEq, Nat.reduceAdd, hv.len, *]) | (refine condR_split (fun _ => ?_) (fun _ => ?_) <;> simp (disch := first | assumption | omega | rfl | (refine id ?_; simp only [gxD, ne_eq, reduceCtorEq, not_false_eq_true, Nat.reduceAdd, *]; done) | (refine id ?_; simp only [gxD]; omega)) only [↓gxPre, gxPost, ↓reduceIte, Nat.reduceEqDiff, reduceCtorEq, Nat.reduceAdd, hv.len, *]) | (refine callR_pure (s_l02Finite_ok hv hn) (by first | exact Or.inl rfl | (simp (disch := first | assumption | omega | rfl | (refine id ?_; simp only [gxD, ne_eq, reduceCtorEq, not_false_eq_true, Nat.reduceAdd, *]; done) | (refine id ?_; simp only [gxD]; omega)) only [↓gxPre, gxPost, ↓reduceIte, Nat.reduceEqDiff, reduceCtorEq, Nat.reduceAdd, hv.len, *]; done)) ?_; simp (disch := first | assumption | omega | rfl | (refine id ?_; simp only [gxD, ne_eq, reduceCtorEq, not_false_eq_true, Nat.reduceAdd, *]; done) | (refine id ?_; simp only [gxD]; omega)) only [↓gxPre, gxPost, ↓reduceIte, Nat.reduceEqDiff, reduceCtorEq, Nat.reduceAdd, hv.len, *])))
  all_goals (simp_all [isLongF, within]; try omega)
end Go.Proofs.Ytkojmlpaamdhoad

namespace Go.Proofs.Ytkojmlpaamdhoad
open Go.Gx
set_option maxRecDepth 100000
set_option linter.unusedSimpArgs false
set_option linter.unusedVariables false

theorem acalls_ext {P : Program} {f : FuncId} {args : List Value} {H : Heap} {v : Value} (h : ACalls P f args H fun r H' => r = v ∧ H' = H) : ACalls P f args H fun r H' => r = v ∧ Ext H H' :=
  h.mono (by rintro _ _ ⟨rfl, rfl⟩; exact ⟨rfl, .refl _⟩)
theorem w_markFloat32S_ow {lo hi : Nat} {H : Heap} {ty : TypeId} {v : Value} {l : List Value} {k : Int} (o : OwL lo hi H ty v l) (h0 : 0 ≤ k) (h1 : k ≤ 2 ^ 61) (hn : l.length ≤ 2 ^ 61) :
    ACalls Try.prog n_w_markFloat32S [v, .int .i64 k] H fun r H' => r = .int .i64 (k + l.length) ∧ OwL lo hi H' ty v ((List.range l.length).map (markF k)) ∧ Fr v H H' := by
  rcases o with ⟨rfl, rfl⟩ | ⟨h, rfl, g1, g2, g3, hb⟩
  · refine w_markFloat32S_nil.mono ?_
    rintro _ _ ⟨rfl, rfl⟩
    exact ⟨by simp, .nil, .refl _ _⟩
  · refine (w_markFloat32S_ok hb rfl h0 h1 hn).mono ?_
    rintro _ _ ⟨rfl, rfl⟩
    exact ⟨rfl, .mk (hput_self _ _ _) (by simp) g1 g2 (by rw [put_n]; exact g3), ⟨rfl, fun i hi => hput_other _ _ _ _ fun e => hi (by rw [e]; rfl)⟩⟩
theorem w_markInt64S_ow {lo hi : Nat} {H : Heap} {ty : TypeId} {v : Value} {l : List Value} {k : Int} (o : OwL lo hi H ty v l) (h0 : 0 ≤ k) (h1 : k ≤ 2 ^ 61) (hn : l.length ≤ 2 ^ 61) :
    ACalls Try.prog n_w_markInt64S [v, .int .i64 k] H fun r H' => r = .int .i64 (k + l.length) ∧ OwL lo hi H' ty v ((List.range l.length).map (markI k)) ∧ Fr v H H' := by
  rcases o with ⟨rfl, rfl⟩ | ⟨h, rfl, g1, g2, g3, hb⟩
  · refine w_markInt64S_nil.mono ?_
    rintro _ _ ⟨rfl, rfl⟩
    exact ⟨by simp, .nil, .refl _ _⟩
  · refine (w_markInt64S_ok hb rfl h0 h1 hn).mono ?_
    rintro _ _ ⟨rfl, rfl⟩
    exact ⟨rfl, .mk (hput_self _ _ _) (by simp) g1 g2 (by rw [put_n]; exact g3), ⟨rfl, fun i hi => hput_other _ _ _ _ fun e => hi (by rw [e]; rfl)⟩⟩
theorem w_heldInt64S_ow {lo hi n : Nat} {H : Heap} {ty : TypeId} {v : Value} {k : Int} (o : OwL lo hi H ty v ((List.range n).map (markI k))) (h0 : 0 ≤ k) (h1 : k ≤ 2 ^ 61) (hn : n ≤ 2 ^ 61) :
    ACalls Try.prog n_w_heldInt64S [v, .int .i64 k] H fun r H' => r = .int .i64 (k + n) ∧ Ext H H' := by
  rcases o with ⟨rfl, e⟩ | ⟨h, rfl, g1, g2, g3, hb⟩
  · have : n = 0 := by simpa using e
    subst this
    refine (acalls_ext w_heldInt64S_nil).mono ?_
    rintro _ _ ⟨rfl, e⟩
    exact ⟨by simp, e⟩
  · have := acalls_ext (w_heldInt64S_ok (n := n) hb h0 h1 hn)
    simpa using this
theorem w_toFloat32S_ow {H : Heap} {v : Value} {xs : List Nat} (hv : FS H v xs) (hn : xs.length ≤ 2 ^ 40) :
    ACalls Try.prog n_w_toFloat32S [v] H fun r H' => Ext H H' ∧ OwL H.n H'.n H' t_float32 r (xs.map fv) := by
  refine (w_toFloat32S_ok hv hn).mono ?_
  rintro _ _ ⟨rfl, rfl⟩
  exact ⟨.new _ _, .mk (new_self _ _) (by simp) (Nat.le_refl _) (by simp [new_n]) (by simp [new_n])⟩
theorem w_eqFloat32S_ow {H : Heap} {v u : Value} {xs : List Nat} (hv : FS H v xs) (hu : FS H u xs) (hn : xs.length ≤ 2 ^ 40) :
    ACalls Try.prog n_w_eqFloat32S [v, u] H fun r H' => r = .bool true ∧ Ext H H' := acalls_ext (w_eqFloat32S_ok hv hu hn)
theorem w_eqInt64S_ow {H : Heap} {v u : Value} {xs : List Int} (hv : IS H v xs) (hu : IS H u xs) (hn : xs.length ≤ 2 ^ 40) :
    ACalls Try.prog n_w_eqInt64S [v, u] H fun r H' => r = .bool true ∧ Ext H H' := acalls_ext (w_eqInt64S_ok hv hu hn)
end Go.Proofs.Ytkojmlpaamdhoad

namespace Go.Proofs.Ytkojmlpaamdhoad
open Go.Gx
set_option maxRecDepth 100000
set_option linter.unusedSimpArgs false
set_option linter.unusedVariables false

theorem w_eqFloat32SS_ow {H : Heap} {v u : Value} {xss : List (List Nat)} (hv : SS H v xss) (hu : SS H u xss) (hn : totL xss ≤ 2 ^ 40) :
    ACalls Try.prog n_w_eqFloat32SS [v, u] H fun r H' => r = .bool true ∧ Ext H H' := by
  refine acalls_ext ?_
  obtain ⟨vs, hv, hvl, hvs⟩ := hv
  obtain ⟨us, hu, hul, hus⟩ := hu
  have hx : xss.length ≤ 2 ^ 40 := by unfold totL at hn; omega
  refine k_w_eqFloat32SS.run rfl ?_
  unfold c_w_eqFloat32SS
  ((try simp (disch := first | assumption | omega | rfl | (refine id ?_; simp only [gxD, ne_eq, reduceCtorEq, not_false_eq_true, Nat.reduceAdd, *]; done) | (refine id ?_; simp only [gxD]; omega)) only [↓gxPre, gxPost, ↓reduceIte, Nat.reduceEqDiff, reduceCtorEq, Nat.reduceAdd, hv.len, hu.len, hvl, hul, ne_eq, not_true, not_false_eq_true, *]); repeat' (first | (refine grdR_split (fun _ => ?_) (fun _ => ?_) <;> simp (disch := first | assumption | omega | rfl | (refine id ?_; simp only [gxD, ne_eq, reduceCtorEq, not_false_eq_true, Nat.reduceAdd, *]; done) | (refine id ?_; simp only [gxD]; omega)) only [↓gxPre, gxPost, ↓reduceIte, Nat.reduceEqDiff, reduceCtorEq, Nat.reduceAdd, hv.len, hu.len, hvl, hul, ne_eq, not_true, not_false_eq_true, *]) | (refine condR_split (fun _ => ?_) (fun _ => ?_) <;> simp (disch := first | assumption | omega | rfl | (refine id ?_; simp only [gxD, ne_eq, reduceCtorEq, not_false_eq_true, Nat.reduceAdd, *]; done) | (refine id ?_; simp only [gxD]; omega)) only [↓gxPre, gxPost, ↓reduceIte, Nat.reduceEqDiff, reduceCtorEq, Nat.reduceAdd, hv.len, hu.len, hvl, hul, ne_eq, not_true, not_false_eq_true, *])))
  refine loop_for xss.length (fun i => [v, u, .int .i64 i]) rfl ?_ ?_
  · ((try simp (disch := first | assumption | omega | rfl | (refine id ?_; simp only [gxD, ne_eq, reduceCtorEq, not_false_eq_true, Nat.reduceAdd, *]; done) | (refine id ?_; simp only [gxD]; omega)) only [↓gxPre, gxPost, ↓reduceIte, Nat.reduceEqDiff, reduceCtorEq, Nat.reduceAdd, hv.len, hu.len, hvl, hul, Int.lt_irrefl, *]); repeat' (first | (refine grdR_split (fun _ => ?_) (fun _ => ?_) <;> simp (disch := first | assumption | omega | rfl | (refine id ?_; simp only [gxD, ne_eq, reduceCtorEq, not_false_eq_true, Nat.reduceAdd, *]; done) | (refine id ?_; simp only [gxD]; omega)) only [↓gxPre, gxPost, ↓reduceIte, Nat.reduceEqDiff, reduceCtorEq, Nat.reduceAdd, hv.len, hu.len, hvl, hul, Int.lt_irrefl, *]) | (refine condR_split (fun _ => ?_) (fun _ => ?_) <;> simp (disch := first | assumption | omega | rfl | (refine id ?_; simp only [gxD, ne_eq, reduceCtorEq, not_false_eq_true, Nat.reduceAdd, *]; done) | (refine id ?_; simp only [gxD]; omega)) only [↓gxPre, gxPost, ↓reduceIte, Nat.reduceEqDiff, reduceCtorEq, Nat.reduceAdd, hv.len, hu.len, hvl, hul, Int.lt_irrefl, *])))
  · intro i hi
    ((try simp (disch := first | assumption | omega | rfl | (refine id ?_; simp only [gxD, ne_eq, reduceCtorEq, not_false_eq_true, Nat.reduceAdd, *]; done) | (refine id ?_; simp only [gxD]; omega)) only [↓gxPre, gxPost, ↓reduceIte, Nat.reduceEqDiff, reduceCtorEq, Nat.reduceAdd, hv.len, hu.len, hvl, hul, hv.ia, hu.ia, hv.ldD, hu.ldD, *]); repeat' (first | (refine grdR_split (fun _ => ?_) (fun _ => ?_) <;> simp (disch := first | assumption | omega | rfl | (refine id ?_; simp only [gxD, ne_eq, reduceCtorEq, not_false_eq_true, Nat.reduceAdd, *]; done) | (refine id ?_; simp only [gxD]; omega)) only [↓gxPre, gxPost, ↓reduceIte, Nat.reduceEqDiff, reduceCtorEq, Nat.reduceAdd, hv.len, hu.len, hvl, hul, hv.ia, hu.ia, hv.ldD, hu.ldD, *]) | (refine condR_split (fun _ => ?_) (fun _ => ?_) <;> simp (disch := first | assumption | omega | rfl | (refine id ?_; simp only [gxD, ne_eq, reduceCtorEq, not_false_eq_true, Nat.reduceAdd, *]; done) | (refine id ?_; simp only [gxD]; omega)) only [↓gxPre, gxPost, ↓reduceIte, Nat.reduceEqDiff, reduceCtorEq, Nat.reduceAdd, hv.len, hu.len, hvl, hul, hv.ia, hu.ia, hv.ldD, hu.ldD, *]) | (refine callR_pure (w_eqFloat32S_ok (hvs i hi) (hus i hi) (totL_row hn i)) (by first | exact Or.inl rfl | (simp (disch := first | assumption | omega | rfl | (refine id ?_; simp only [gxD, ne_eq, reduceCtorEq, not_false_eq_true, Nat.reduceAdd, *]; done) | (refine id ?_; simp only [gxD]; omega)) only [↓gxPre, gxPost, ↓reduceIte, Nat.reduceEqDiff, reduceCtorEq, Nat.reduceAdd, hv.len, hu.len, hvl, hul, hv.ia, hu.ia, hv.ldD, hu.ldD, *]; done)) ?_; simp (disch := first | assumption | omega | rfl | (refine id ?_; simp only [gxD, ne_eq, reduceCtorEq, not_false_eq_true, Nat.reduceAdd, *]; done) | (refine id ?_; simp only [gxD]; omega)) only [↓gxPre, gxPost, ↓reduceIte, Nat.reduceEqDiff, reduceCtorEq, Nat.reduceAdd, hv.len, hu.len, hvl, hul, hv.ia, hu.ia, hv.ldD, hu.ldD, *])))
    all_goals simp
theorem w_szFloat32SS_ow {H : Heap} {v : Value} {xss : List (List Nat)} {n : Int} (hv : SS H v xss) (h0 : 0 ≤ n) (h1 : n ≤ 1048576) (hl : xss.length ≤ 9223372036854775807) (hr : ∀ j, (xss.getD j []).length ≤ 9223372036854775807) :
    ACalls Try.prog n_w_szFloat32SS [v, .int .i64 n] H fun r H' => r = .int .i64 (if n < (totL xss : Nat) then -1 else n - (totL xss : Nat)) ∧ Ext H H' := by
  refine acalls_ext ?_
  obtain ⟨vs, hv, hvl, hvs⟩ := hv
  refine k_w_szFloat32SS.run rfl ?_
  unfold c_w_szFloat32SS
  by_cases hlt : n < xss.length
  · have : n < (totL xss : Nat) := by unfold totL; omega
    simp (disch := first | assumption | omega | rfl | (refine id ?_; simp only [gxD, ne_eq, reduceCtorEq, not_false_eq_true, Nat.reduceAdd, *]; done) | (refine id ?_; simp only [gxD]; omega)) only [↓gxPre, gxPost, ↓reduceIte, Nat.reduceEqDiff, reduceCtorEq, Nat.reduceAdd, hv.len, hvl, if_pos this]
  simp (disch := first | assumption | omega | rfl | (refine id ?_; simp only [gxD, ne_eq, reduceCtorEq, not_false_eq_true, Nat.reduceAdd, *]; done) | (refine id ?_; simp only [gxD]; omega)) only [↓gxPre, gxPost, ↓reduceIte, Nat.reduceEqDiff, reduceCtorEq, Nat.reduceAdd, hv.len, hvl]
  refine loop_forH xss.length (fun i => [v, .int .i64 (n - xss.length - (offN xss i : Nat)), .int .i64 i]) (fun i H' => H' = H ∧ (offN xss i : Int) ≤ n - xss.length) (by simp [offN_zero]) ⟨rfl, by rw [offN_zero]; omega⟩ ?_ ?_
  · rintro _ ⟨rfl, hJ⟩
    have : ¬ n < (totL xss : Nat) := by unfold totL; omega
    simp (disch := first | assumption | omega | rfl | (refine id ?_; simp only [gxD, ne_eq, reduceCtorEq, not_false_eq_true, Nat.reduceAdd, *]; done) | (refine id ?_; simp only [gxD]; omega)) only [↓gxPre, gxPost, ↓reduceIte, Nat.reduceEqDiff, reduceCtorEq, Nat.reduceAdd, hv.len, hvl, Int.lt_irrefl, if_neg this]
    simp only [totL]
    congr 1
    omega
  · rintro i _ hi ⟨rfl, hJ⟩
    have hsx := offN_succ (ls := xss) hi
    have hrow := offN_row (ls := xss) hi
    simp (disch := first | assumption | omega | rfl | (refine id ?_; simp only [gxD, ne_eq, reduceCtorEq, not_false_eq_true, Nat.reduceAdd, *]; done) | (refine id ?_; simp only [gxD]; omega)) only [↓gxPre, gxPost, ↓reduceIte, Nat.reduceEqDiff, reduceCtorEq, Nat.reduceAdd, hv.len, hvl, hv.ia, hv.ldD]
    refine callR_pure (w_szFloat32S_ok (hvs i hi) (by omega) (by omega) (hr i)) (.inl rfl) ?_
    by_cases hlt' : n - xss.length - (offN xss i : Nat) < (xss.getD i []).length
    · have : n < (totL xss : Nat) := by unfold totL; omega
      simp (disch := first | assumption | omega | rfl | (refine id ?_; simp only [gxD, ne_eq, reduceCtorEq, not_false_eq_true, Nat.reduceAdd, *]; done) | (refine id ?_; simp only [gxD]; omega)) only [↓gxPre, gxPost, ↓reduceIte, Nat.reduceEqDiff, reduceCtorEq, Nat.reduceAdd, if_pos hlt', if_pos this, Int.reduceLT]
    · have h3 : ¬ (n - xss.length - (offN xss i : Nat) - (xss.getD i []).length < 0) := by omega
      have e3 : n - xss.length - (offN xss i : Nat) - (xss.getD i []).length = n - xss.length - (offN xss (i + 1) : Nat) := by rw [hsx]; omega
      simp (disch := first | assumption | omega | rfl | (refine id ?_; simp only [gxD, ne_eq, reduceCtorEq, not_false_eq_true, Nat.reduceAdd, *]; done) | (refine id ?_; simp only [gxD]; omega)) only [↓gxPre, gxPost, ↓reduceIte, Nat.reduceEqDiff, reduceCtorEq, Nat.reduceAdd, if_neg hlt', h3]
      refine ⟨?_, by omega⟩
      rw [e3]
      simp
theorem w_toFloat32SS_ow {H : Heap} {v : Value} {xss : List (List Nat)} (hv : SS H v xss) (hn : totL xss ≤ 2 ^ 40) :
    ACalls Try.prog n_w_toFloat32SS [v] H fun r H' => Ext H H' ∧ OwS H.n H'.n H' t_sfloat32 t_float32 r (xss.map (List.map fv)) := by
  obtain ⟨vs, hv, hvl, hvs⟩ := hv
  have hx : xss.length ≤ 2 ^ 40 := by unfold totL at hn; omega
  refine k_w_toFloat32SS.run rfl ?_
  unfold c_w_toFloat32SS
  simp (disch := first | assumption | omega | rfl | (refine id ?_; simp only [gxD, ne_eq, reduceCtorEq, not_false_eq_true, Nat.reduceAdd, *]; done) | (refine id ?_; simp only [gxD]; omega)) only [↓gxPre, gxPost, ↓reduceIte, Nat.reduceEqDiff, reduceCtorEq, Nat.reduceAdd, hv.len, hvl, eMks_i]
  refine loop_forH xss.length (fun i => [v, .slice (some ⟨H.n, 0, none⟩) xss.length xss.length, .int .i64 i])
    (fun i H' => Ext H H' ∧ H.n + 1 ≤ H'.n ∧ ∃ us, H'.blk H.n = some ⟨true, t_sfloat32, us ++ List.replicate (xss.length - i) (.slice none 0 0)⟩ ∧ us.length = i ∧ OwN (H.n + 1) H'.n H' t_float32 us ((xss.take i).map (List.map fv)))
    rfl ⟨.new _ _, by simp [new_n], [], by simp [new_self], rfl, by simpa using OwN.nil⟩ ?_ ?_
  · rintro G ⟨hE, hG, us, hb, hul, ho⟩
    simp (disch := first | assumption | omega | rfl | (refine id ?_; simp only [gxD, ne_eq, reduceCtorEq, not_false_eq_true, Nat.reduceAdd, *]; done) | (refine id ?_; simp only [gxD]; omega)) only [↓gxPre, gxPost, ↓reduceIte, Nat.reduceEqDiff, reduceCtorEq, Nat.reduceAdd, hv.len, hvl, Int.lt_irrefl]
    refine ⟨hE, us, ?_, ?_⟩
    · rw [← hul]
      exact .mk (by simpa [hul] using hb) rfl (Nat.le_refl _) (by omega) (by omega)
    · rw [List.take_of_length_le (Nat.le_refl _)] at ho
      exact ho.wide (by omega) (Nat.le_refl _)
  · rintro i G hi ⟨hE, hG, us, hb, hul, ho⟩
    have hvG := hv.ext hE
    simp (disch := first | assumption | omega | rfl | (refine id ?_; simp only [gxD, ne_eq, reduceCtorEq, not_false_eq_true, Nat.reduceAdd, *]; done) | (refine id ?_; simp only [gxD]; omega)) only [↓gxPre, gxPost, ↓reduceIte, Nat.reduceEqDiff, reduceCtorEq, Nat.reduceAdd, hv.len, hvl, hvG.ia, hvG.ldD]
    refine callR_of (w_toFloat32S_ow ((hvs i hi).ext hE) (totL_row hn i)) ?_
    rintro r G' ⟨e, o⟩
    have hb' : G'.blk H.n = some ⟨true, t_sfloat32, us ++ List.replicate (xss.length - i) (.slice none 0 0)⟩ := by rw [e.blk _ (by omega)]; exact hb
    have n' := e.n
    have o1 := o.one
    have hlen : (us ++ List.replicate (xss.length - i) (Value.slice none 0 0)).length = xss.length := by simp [hul]; omega
    simp (disch := first | assumption | omega | rfl | (refine id ?_; simp only [gxD, ne_eq, reduceCtorEq, not_false_eq_true, Nat.reduceAdd, *]; done) | (refine id ?_; simp only [gxD]; omega)) only [↓gxPre, gxPost, ↓reduceIte, Nat.reduceEqDiff, reduceCtorEq, Nat.reduceAdd, hb', hlen]
    have hset : (us ++ List.replicate (xss.length - i) (Value.slice none 0 0)).set i r = (us ++ [r]) ++ List.replicate (xss.length - (i + 1)) (.slice none 0 0) := by
      rw [List.set_append_right _ _ (by omega), hul, Nat.sub_self, show xss.length - i = (xss.length - (i + 1)) + 1 by omega, List.replicate_succ]
      simp
    refine ⟨by simp, (hE.trans e).put (by omega) _, by omega, us ++ [r], by first | rw [hset] | rw [hput_self, hset], by simp [hul], ?_⟩
    have ho' : OwN (H.n + 1) G'.n G' t_float32 (us ++ [r]) ((xss.take (i + 1)).map (List.map fv)) := by
      have ht : (xss.take (i + 1)).map (List.map fv) = (xss.take i).map (List.map fv) ++ [(xss.getD i []).map fv] := by
        rw [List.take_add_one, List.map_append, List.getElem?_eq_getElem hi, List.getD_eq_getElem?_getD, List.getElem?_eq_getElem hi]
        rfl
      rw [ht]
      refine ((ho.ext e).wide (Nat.le_refl _) n').snoc (o.wide (by omega) (Nat.le_refl _)) fun j h hj hh hk => ?_
      have h1 := ho.lt hj hh
      have h2 := (o.hdl hk).1
      omega
    refine ho'.keep (Nat.le_refl _) fun j h hj hh => hput_other _ _ _ _ ?_
    have := (ho'.lt hj hh).1
    omega
theorem w_markFloat32SS_fam {lo hi : Nat} {H : Heap} {v : Value} {vs : List Value} {ls : List (List Value)} {k : Int} (ov : OwL lo hi H t_sfloat32 v vs) (on : OwN lo hi H t_float32 vs ls) (h0 : 0 ≤ k) (h1 : k ≤ 2 ^ 60) (hn : totL ls ≤ 2 ^ 41) :
    ACalls Try.prog n_w_markFloat32SS [v, .int .i64 k] H fun r H' => r = .int .i64 (k + (offN ls ls.length : Nat)) ∧ OwL lo hi H' t_sfloat32 v vs ∧ OwN lo hi H' t_float32 vs (marked markF k ls ls.length) ∧ Off lo hi H H' ∧ H'.n = H.n ∧
      ∀ h, (∀ i, i < ls.length → hdl (vs.getD i undef) ≠ some h) → H'.blk h = H.blk h := by
  have hvl : vs.length = ls.length := on.1
  refine k_w_markFloat32SS.run rfl ?_
  unfold c_w_markFloat32SS
  have hx : ls.length ≤ 2 ^ 41 := by unfold totL at hn; omega
  simp (disch := first | assumption | omega | rfl | (refine id ?_; simp only [gxD, ne_eq, reduceCtorEq, not_false_eq_true, Nat.reduceAdd, *]; done) | (refine id ?_; simp only [gxD]; omega)) only [↓gxPre, gxPost, ↓reduceIte, Nat.reduceEqDiff, reduceCtorEq, Nat.reduceAdd]
  refine loop_forH ls.length (fun i => [v, .int .i64 (k + (offN ls i : Nat)), .int .i64 i])
    (fun i H' => Off lo hi H H' ∧ OwL lo hi H' t_sfloat32 v vs ∧ OwN lo hi H' t_float32 vs (marked markF k ls i) ∧ H'.n = H.n ∧ ∀ h, (∀ i, i < ls.length → hdl (vs.getD i undef) ≠ some h) → H'.blk h = H.blk h)
    (by simp [offN_zero]) ⟨.refl _ _ _, ov, by rw [marked_zero]; exact on, rfl, fun _ _ => rfl⟩ ?_ ?_
  · rintro G ⟨hF, ov, on, hN, hB⟩
    simp (disch := first | assumption | omega | rfl | (refine id ?_; simp only [gxD, ne_eq, reduceCtorEq, not_false_eq_true, Nat.reduceAdd, *]; done) | (refine id ?_; simp only [gxD]; omega)) only [↓gxPre, gxPost, ↓reduceIte, Nat.reduceEqDiff, reduceCtorEq, Nat.reduceAdd, ov.sl.len, hvl, Int.lt_irrefl]
    exact ⟨ov, on, hF, hN, hB⟩
  · rintro i G hlt ⟨hF, ov, on, hN, hB⟩
    have hrow := offN_row (ls := ls) hlt
    have hri := totL_row hn i
    have hto : offN ls ls.length ≤ 2 ^ 41 := by unfold totL at hn; omega
    simp (disch := first | assumption | omega | rfl | (refine id ?_; simp only [gxD, ne_eq, reduceCtorEq, not_false_eq_true, Nat.reduceAdd, *]; done) | (refine id ?_; simp only [gxD]; omega)) only [↓gxPre, gxPost, ↓reduceIte, Nat.reduceEqDiff, reduceCtorEq, Nat.reduceAdd, ov.sl.len, hvl, ov.sl.ia, ov.sl.ldD]
    have hi' : i < (marked markF k ls i).length := by rw [marked_length]; exact hlt
    have oi : OwL lo hi G t_float32 (vs.getD i undef) (ls.getD i []) := by
      have := on.2.1 i hi'
      rwa [marked_getD hlt, if_neg (Nat.lt_irrefl i)] at this
    refine callR_of (w_markFloat32S_ow oi (by omega) (by omega) (by omega)) ?_
    rintro _ G' ⟨rfl, p, f⟩
    simp (disch := first | assumption | omega | rfl | (refine id ?_; simp only [gxD, ne_eq, reduceCtorEq, not_false_eq_true, Nat.reduceAdd, *]; done) | (refine id ?_; simp only [gxD]; omega)) only [↓gxPre, gxPost, ↓reduceIte, Nat.reduceEqDiff, reduceCtorEq, Nat.reduceAdd]
    refine ⟨?_, hF.trans (f.off oi), on.outer ov (by decide) hi' f, ?_, f.n.trans hN, fun h hh => (f.blk h (hh i hlt)).trans (hB h hh)⟩
    · rw [offN_succ hlt]
      simp; omega
    · have := on.set hi' f p
      rwa [marked_set hlt] at this
theorem w_markFloat32SS_ow {lo hi : Nat} {H : Heap} {v : Value} {ls : List (List Value)} {k : Int} (o : OwS lo hi H t_sfloat32 t_float32 v ls) (h0 : 0 ≤ k) (h1 : k ≤ 2 ^ 60) (hn : totL ls ≤ 2 ^ 41) :
    ACalls Try.prog n_w_markFloat32SS [v, .int .i64 k] H fun r H' => r = .int .i64 (k + (offN ls ls.length : Nat)) ∧ OwS lo hi H' t_sfloat32 t_float32 v (marked markF k ls ls.length) ∧ Off lo hi H H' := by
  obtain ⟨vs, ov, on⟩ := o
  refine (w_markFloat32SS_fam ov on h0 h1 hn).mono ?_
  rintro _ H' ⟨rfl, a, b, c, _⟩
  exact ⟨rfl, ⟨vs, a, b⟩, c⟩
end Go.Proofs.Ytkojmlpaamdhoad

namespace Go.Proofs.Ytkojmlpaamdhoad
open Go.Gx
set_option maxRecDepth 100000
set_option linter.unusedSimpArgs false
set_option linter.unusedVariables false

theorem i_areRows_ok {H : Heap} {v : Value} {xss : List (List Nat)} {most : Int} (hu0 : SS H v xss) (hm : totL xss ≤ 2 ^ 40) :
    ACalls Try.prog n_i_areRows [v, .int .i64 most] H fun r H' => r = .bool (rowsF xss most) ∧ H' = H := by
  obtain ⟨us, hu, hul, hus⟩ := hu0
  have hu0 : SS H v xss := ⟨us, hu, hul, hus⟩
  have hny : xss.length ≤ 2 ^ 40 := by unfold totL at hm; omega
  refine k_i_areRows.run rfl ?_
  unfold c_i_areRows
  simp (disch := first | assumption | omega | rfl | (refine id ?_; simp only [gxD, ne_eq, reduceCtorEq, not_false_eq_true, Nat.reduceAdd, *]; done) | (refine id ?_; simp only [gxD]; omega)) only [↓gxPre, gxPost, ↓reduceIte, Nat.reduceEqDiff, reduceCtorEq, Nat.reduceAdd, hu.len, hul]
  refine callR_pure (i_within_ok) (by first | exact Or.inl rfl | (simp (disch := first | assumption | omega | rfl | (refine id ?_; simp only [gxD, ne_eq, reduceCtorEq, not_false_eq_true, Nat.reduceAdd, *]; done) | (refine id ?_; simp only [gxD]; omega)) only [↓gxPre, gxPost, ↓reduceIte, Nat.reduceEqDiff, reduceCtorEq, Nat.reduceAdd, *]; done)) ?_
  simp (disch := first | assumption | omega | rfl | (refine id ?_; simp only [gxD, ne_eq, reduceCtorEq, not_false_eq_true, Nat.reduceAdd, *]; done) | (refine id ?_; simp only [gxD]; omega)) only [↓gxPre, gxPost, ↓reduceIte, Nat.reduceEqDiff, reduceCtorEq, Nat.reduceAdd, *]
  cases h1 : within xss.length 1 most
  · simp (disch := first | assumption | omega | rfl | (refine id ?_; simp only [gxD, ne_eq, reduceCtorEq, not_false_eq_true, Nat.reduceAdd, *]; done) | (refine id ?_; simp only [gxD]; omega)) only [↓gxPre, gxPost, ↓reduceIte, Nat.reduceEqDiff, reduceCtorEq, Nat.reduceAdd]
    simp only [rowsF, h1, Bool.false_and]
  have h1' := within_true.1 h1
  simp (disch := first | assumption | omega | rfl | (refine id ?_; simp only [gxD, ne_eq, reduceCtorEq, not_false_eq_true, Nat.reduceAdd, *]; done) | (refine id ?_; simp only [gxD]; omega)) only [↓gxPre, gxPost, ↓reduceIte, Nat.reduceEqDiff, reduceCtorEq, Nat.reduceAdd]
  refine callR_pure (i_areFinite_ok hu0 hny fun j _ => totL_row hm j) (.inl rfl) ?_
  cases h3 : (xss.all fun ys => ys.all finF)
  · simp (disch := first | assumption | omega | rfl | (refine id ?_; simp only [gxD, ne_eq, reduceCtorEq, not_false_eq_true, Nat.reduceAdd, *]; done) | (refine id ?_; simp only [gxD]; omega)) only [↓gxPre, gxPost, ↓reduceIte, Nat.reduceEqDiff, reduceCtorEq, Nat.reduceAdd]
    have : ∃ j, j < xss.length ∧ (xss.getD j []).all finF = false := by
      apply Classical.byContradiction
      intro hno
      rw [(allD []).2 fun j hj => by
        cases hf : (xss.getD j []).all finF
        · exact absurd ⟨j, hj, hf⟩ hno
        · rfl] at h3
      cases h3
    obtain ⟨j, hj, hf⟩ := this
    rw [rows_no hj (by simp only [isLongF, hf, Bool.and_false, Bool.false_and])]
  simp (disch := first | assumption | omega | rfl | (refine id ?_; simp only [gxD, ne_eq, reduceCtorEq, not_false_eq_true, Nat.reduceAdd, *]; done) | (refine id ?_; simp only [gxD]; omega)) only [↓gxPre, gxPost, ↓reduceIte, Nat.reduceEqDiff, reduceCtorEq, Nat.reduceAdd, hu.len, hul]
  refine loop_forH xss.length (fun i => [v, v, .int .i64 xss.length, .int .i64 i]) (fun i G' => H = G' ∧ ∀ j, j < i → (isLongF (xss.getD j []) && decide ((xss.getD j []).length = (xss.getD 0 []).length)) = true) rfl ⟨rfl, by intros; omega⟩ ?_ ?_
  · rintro _ ⟨rfl, hJ⟩
    simp (disch := first | assumption | omega | rfl | (refine id ?_; simp only [gxD, ne_eq, reduceCtorEq, not_false_eq_true, Nat.reduceAdd, *]; done) | (refine id ?_; simp only [gxD]; omega)) only [↓gxPre, gxPost, ↓reduceIte, Nat.reduceEqDiff, reduceCtorEq, Nat.reduceAdd, Int.lt_irrefl]
    simp only [rowsF, h1, allR.2 hJ, Bool.and_true]
  · rintro i _ hi ⟨rfl, hJ⟩
    have hfi : (xss.getD i []).all finF = true := (allD []).1 h3 i hi
    by_cases c1 : (xss.getD i []).length = (xss.getD 0 []).length
    · have c1' : ((xss.getD i []).length : Int) = (xss.getD 0 []).length := by omega
      simp (disch := first | assumption | omega | rfl | (refine id ?_; simp only [gxD, ne_eq, reduceCtorEq, not_false_eq_true, Nat.reduceAdd, *]; done) | (refine id ?_; simp only [gxD]; omega)) only [↓gxPre, gxPost, ↓reduceIte, Nat.reduceEqDiff, reduceCtorEq, Nat.reduceAdd, hu.ia, hu.ldD, hul, (hus i hi).len, (hus 0 (by omega)).len, c1', ne_eq, not_true, Int.reduceToNat]
      refine callR_pure (i_within_ok) (by first | exact Or.inl rfl | (simp (disch := first | assumption | omega | rfl | (refine id ?_; simp only [gxD, ne_eq, reduceCtorEq, not_false_eq_true, Nat.reduceAdd, *]; done) | (refine id ?_; simp only [gxD]; omega)) only [↓gxPre, gxPost, ↓reduceIte, Nat.reduceEqDiff, reduceCtorEq, Nat.reduceAdd, *]; done)) ?_
      simp (disch := first | assumption | omega | rfl | (refine id ?_; simp only [gxD, ne_eq, reduceCtorEq, not_false_eq_true, Nat.reduceAdd, *]; done) | (refine id ?_; simp only [gxD]; omega)) only [↓gxPre, gxPost, ↓reduceIte, Nat.reduceEqDiff, reduceCtorEq, Nat.reduceAdd, *]
      cases h4 : within ((xss.getD 0 []).length) 1 128
      · simp (disch := first | assumption | omega | rfl | (refine id ?_; simp only [gxD, ne_eq, reduceCtorEq, not_false_eq_true, Nat.reduceAdd, *]; done) | (refine id ?_; simp only [gxD]; omega)) only [↓gxPre, gxPost, ↓reduceIte, Nat.reduceEqDiff, reduceCtorEq, Nat.reduceAdd]
        rw [rows_no hi (by simp only [isLongF, c1, h4, Bool.false_and])]
      · simp (disch := first | assumption | omega | rfl | (refine id ?_; simp only [gxD, ne_eq, reduceCtorEq, not_false_eq_true, Nat.reduceAdd, *]; done) | (refine id ?_; simp only [gxD]; omega)) only [↓gxPre, gxPost, ↓reduceIte, Nat.reduceEqDiff, reduceCtorEq, Nat.reduceAdd]
        refine ⟨by simp, Nat.forall_lt_succ_right.2 ⟨hJ, ?_⟩⟩
        simp only [isLongF, c1, h4, hfi, decide_true, Bool.and_true]
    · have c1' : ¬ ((xss.getD i []).length : Int) = (xss.getD 0 []).length := by omega
      simp (disch := first | assumption | omega | rfl | (refine id ?_; simp only [gxD, ne_eq, reduceCtorEq, not_false_eq_true, Nat.reduceAdd, *]; done) | (refine id ?_; simp only [gxD]; omega)) only [↓gxPre, gxPost, ↓reduceIte, Nat.reduceEqDiff, reduceCtorEq, Nat.reduceAdd, hu.ia, hu.ldD, hul, (hus i hi).len, (hus 0 (by omega)).len, c1', ne_eq, not_false_eq_true, Int.reduceToNat]
      rw [rows_no hi (by simp only [decide_eq_false c1, Bool.and_false])]
theorem s_l03Rows_ok {H : Heap} {v : Value} {xss : List (List Nat)} {most : Int} (hu0 : SS H v xss) (hm : totL xss ≤ 2 ^ 40) :
    ACalls Try.prog n_s_l03Rows [v, .int .i64 most] H fun r H' => r = .bool (rowsF xss most) ∧ H' = H := by
  obtain ⟨us, hu, hul, hus⟩ := hu0
  have hny : xss.length ≤ 2 ^ 40 := by unfold totL at hm; omega
  refine k_s_l03Rows.run rfl ?_
  unfold c_s_l03Rows
  by_cases h0 : (xss.length : Int) < 1
  · simp (disch := first | assumption | omega | rfl | (refine id ?_; simp only [gxD, ne_eq, reduceCtorEq, not_false_eq_true, Nat.reduceAdd, *]; done) | (refine id ?_; simp only [gxD]; omega)) only [↓gxPre, gxPost, ↓reduceIte, Nat.reduceEqDiff, reduceCtorEq, Nat.reduceAdd, hu.len, hul]
    have : within xss.length 1 most = false := by simp [within]; omega
    simp only [rowsF, this, Bool.false_and]
  by_cases h6 : most < xss.length
  · simp (disch := first | assumption | omega | rfl | (refine id ?_; simp only [gxD, ne_eq, reduceCtorEq, not_false_eq_true, Nat.reduceAdd, *]; done) | (refine id ?_; simp only [gxD]; omega)) only [↓gxPre, gxPost, ↓reduceIte, Nat.reduceEqDiff, reduceCtorEq, Nat.reduceAdd, hu.len, hul]
    have : within xss.length 1 most = false := by simp [within]; omega
    simp only [rowsF, this, Bool.false_and]
  have h1 : within xss.length 1 most = true := within_true.2 ⟨by omega, by omega⟩
  simp (disch := first | assumption | omega | rfl | (refine id ?_; simp only [gxD, ne_eq, reduceCtorEq, not_false_eq_true, Nat.reduceAdd, *]; done) | (refine id ?_; simp only [gxD]; omega)) only [↓gxPre, gxPost, ↓reduceIte, Nat.reduceEqDiff, reduceCtorEq, Nat.reduceAdd, hu.len, hul]
  refine loop_forH xss.length (fun i => [v, .int .i64 xss.length, .int .i64 i]) (fun i G' => H = G' ∧ ∀ j, j < i → (isLongF (xss.getD j []) && decide ((xss.getD j []).length = (xss.getD 0 []).length)) = true) rfl ⟨rfl, by intros; omega⟩ ?_ ?_
  · rintro _ ⟨rfl, hJ⟩
    simp (disch := first | assumption | omega | rfl | (refine id ?_; simp only [gxD, ne_eq, reduceCtorEq, not_false_eq_true, Nat.reduceAdd, *]; done) | (refine id ?_; simp only [gxD]; omega)) only [↓gxPre, gxPost, ↓reduceIte, Nat.reduceEqDiff, reduceCtorEq, Nat.reduceAdd, Int.lt_irrefl]
    simp only [rowsF, h1, allR.2 hJ, Bool.and_true]
  · rintro i _ hi ⟨rfl, hJ⟩
    simp (disch := first | assumption | omega | rfl | (refine id ?_; simp only [gxD, ne_eq, reduceCtorEq, not_false_eq_true, Nat.reduceAdd, *]; done) | (refine id ?_; simp only [gxD]; omega)) only [↓gxPre, gxPost, ↓reduceIte, Nat.reduceEqDiff, reduceCtorEq, Nat.reduceAdd, hu.ia, hu.ldD, hul]
    refine callR_pure (s_l03Long_ok (hus i hi) (totL_row hm i)) (.inl rfl) ?_
    cases h4 : isLongF (xss.getD i [])
    · simp (disch := first | assumption | omega | rfl | (refine id ?_; simp only [gxD, ne_eq, reduceCtorEq, not_false_eq_true, Nat.reduceAdd, *]; done) | (refine id ?_; simp only [gxD]; omega)) only [↓gxPre, gxPost, ↓reduceIte, Nat.reduceEqDiff, reduceCtorEq, Nat.reduceAdd]
      rw [rows_no hi (by simp only [h4, Bool.false_and])]
    by_cases c1 : (xss.getD i []).length = (xss.getD 0 []).length
    · have c1' : ((xss.getD i []).length : Int) = (xss.getD 0 []).length := by omega
      simp (disch := first | assumption | omega | rfl | (refine id ?_; simp only [gxD, ne_eq, reduceCtorEq, not_false_eq_true, Nat.reduceAdd, *]; done) | (refine id ?_; simp only [gxD]; omega)) only [↓gxPre, gxPost, ↓reduceIte, Nat.reduceEqDiff, reduceCtorEq, Nat.reduceAdd, hu.ia, hu.ldD, hul, (hus i hi).len, (hus 0 (by omega)).len, c1', ne_eq, not_true, Int.reduceToNat]
      refine ⟨by simp, Nat.forall_lt_succ_right.2 ⟨hJ, ?_⟩⟩
      simp only [h4, c1, decide_true, Bool.and_true]
    · have c1' : ¬ ((xss.getD i []).length : Int) = (xss.getD 0 []).length := by omega
      simp (disch := first | assumption | omega | rfl | (refine id ?_; simp only [gxD, ne_eq, reduceCtorEq, not_false_eq_true, Nat.reduceAdd, *]; done) | (refine id ?_; simp only [gxD]; omega)) only [↓gxPre, gxPost, ↓reduceIte, Nat.reduceEqDiff, reduceCtorEq, Nat.reduceAdd, hu.ia, hu.ldD, hul, (hus i hi).len, (hus 0 (by omega)).len, c1', ne_eq, not_false_eq_true, Int.reduceToNat]
      rw [rows_no hi (by simp only [decide_eq_false c1, Bool.and_false])]
end Go.Proofs.Ytkojmlpaamdhoad

namespace Go.Proofs.Ytkojmlpaamdhoad
open Go.Gx
set_option maxRecDepth 100000
set_option linter.unusedSimpArgs false
set_option linter.unusedVariables false

def sizeL (xss : List (List Nat)) (i : Nat) : List Nat := (List.range i).map fun j => (xss.getD j []).length
theorem sizeL_length (xss : List (List Nat)) (i : Nat) : (sizeL xss i).length = i := by simp [sizeL]
theorem sizeL_succ (xss : List (List Nat)) (i : Nat) : sizeL xss (i + 1) = sizeL xss i ++ [(xss.getD i []).length] := by simp [sizeL, List.range_succ]
theorem sizeL_all (xss : List (List Nat)) : sizeL xss xss.length = xss.map List.length := by
  refine list_ext_getD 0 (by simp [sizeL]) fun j hj => ?_
  have hj' : j < xss.length := by simpa [sizeL] using hj
  rw [sizeL, getD_range_map hj']
  simp [List.getD_eq_getElem?_getD, hj']
theorem flat_len (xss : List (List Nat)) : ∀ t, t ≤ xss.length → (flatF xss t).length + offN xss (xss.length - t) = offN xss xss.length
  | 0, _ => by simp [flatF, foldI_zero]
  | t + 1, h => by
    have ih := flat_len xss t (by omega)
    have e : xss.length - t = (xss.length - (t + 1)) + 1 := by omega
    rw [e, offN_succ (by omega)] at ih
    have e2 : xss.length - 1 - t = xss.length - (t + 1) := by omega
    simp only [flatF, foldI_succ, List.length_append, e2] at ih ⊢
    omega
theorem flatF_succ (xss : List (List Nat)) (t : Nat) : flatF xss (t + 1) = flatF xss t ++ xss.getD (xss.length - 1 - t) [] := rfl
theorem size_fit {sz : List Nat} {k : Nat} (hk : k < sz.length) (h1 : 1 ≤ sufS sz (k + 1)) : (decide (1 ≤ sz.getD k 0) && fitF (sufS sz (k + 1)) (sz.getD k 0)) = sizeAt sz k := by
  have hs := sufS_succ hk
  rw [Bool.eq_iff_iff]
  simp only [sizeAt, fitF, Bool.and_eq_true, Bool.or_eq_true, decide_eq_true_eq]
  omega
theorem sizes_le {xss : List (List Nat)} (hm : totL xss ≤ 2 ^ 40) (j : Nat) : (xss.map List.length).getD j 0 ≤ 2 ^ 40 := by
  by_cases hj : j < xss.length
  · have := totL_row hm j
    simpa [List.getD_eq_getElem?_getD, hj] using this
  · simp [List.getD_eq_getElem?_getD, List.getElem?_eq_none (Nat.le_of_not_lt hj)]
theorem sizes_sum (xss : List (List Nat)) (hm : totL xss ≤ 2 ^ 40) : sufS (xss.map List.length) 0 ≤ 2 ^ 40 := by
  have : sufS (xss.map List.length) 0 = offN xss xss.length := by simp [sufS, offN]
  rw [this]
  unfold totL at hm
  omega
end Go.Proofs.Ytkojmlpaamdhoad

namespace Go.Proofs.Ytkojmlpaamdhoad
open Go.Gx
set_option maxRecDepth 100000
set_option linter.unusedSimpArgs false
set_option linter.unusedVariables false

theorem rows_yes {xss : List (List Nat)} {most : Int} (h : rowsF xss most = true) : (1 ≤ (xss.length : Int) ∧ (xss.length : Int) ≤ most) ∧ ∀ j, j < xss.length → isLongF (xss.getD j []) = true ∧ (xss.getD j []).length = (xss.getD 0 []).length := by
  unfold rowsF at h
  simp only [Bool.and_eq_true] at h
  refine ⟨within_true.1 h.1, fun j hj => ?_⟩
  have := allR.1 h.2 j hj
  simpa using this
theorem long_len {xs : List Nat} (h : isLongF xs = true) : (1 ≤ xs.length ∧ xs.length ≤ 128) ∧ xs.all finF = true := by
  unfold isLongF at h
  simp only [Bool.and_eq_true] at h
  have := within_true.1 h.1
  exact ⟨by omega, h.2⟩
theorem tab_set {m i a : Nat} {f g : Nat → Nat} (h1 : g i = a) (h2 : ∀ j, j < m → j ≠ i → g j = f j) : (tabL m f).set i a = tabL m g := by
  refine list_ext_getD 0 (by simp [tabL]) fun j hj => ?_
  have hj' : j < m := by simpa [tabL] using hj
  rw [tabL_getD hj']
  by_cases hji : j = i
  · subst hji
    rw [getD_set_self (by rw [tabL_length]; exact hj'), h1]
  · rw [Go.Gx.getD_set_ne (Ne.symm hji), tabL_getD hj', h2 j hj' hji]
theorem rep_tab (m : Nat) : List.replicate m (Value.float .f32 0) = (tabL m fun _ => 0).map fv := by
  simp [tabL, fv, List.map_const']
theorem tab_at {m i : Nat} {f : Nat → Nat} (h : i < m) : ((tabL m f).map fv)[i]? = some (.float .f32 (f i)) := by
  simp [tabL, h, fv]
def frameAt (xss : List (List Nat)) (t i j : Nat) : Nat := if j < i then frameSum xss j (t + 1) else frameSum xss j t
theorem frameAt_zero (xss : List (List Nat)) (t : Nat) : frameAt xss t 0 = fun j => frameSum xss j t := by funext j; simp [frameAt]
theorem frameAt_next (xss : List (List Nat)) (t m : Nat) : tabL m (frameAt xss t m) = tabL m (frameAt xss (t + 1) 0) := tabL_congr fun j hj => by simp [frameAt, hj]
theorem frameAt_set {xss : List (List Nat)} {t i m : Nat} : (tabL m (frameAt xss t i)).set i (fbin .add .f32 (frameAt xss t i i) ((xss.getD (xss.length - 1 - t) []).getD i 0)) = tabL m (frameAt xss t (i + 1)) := by
  refine tab_set ?_ fun j _ hne => ?_
  · simp [frameAt, frameSum, foldI_succ]
  · unfold frameAt
    by_cases h : j < i
    · rw [if_pos h, if_pos (by omega)]
    · rw [if_neg h, if_neg (by omega)]
def frameL (xss : List (List Nat)) : List Nat := tabL (xss.getD 0 []).length (frameAt xss xss.length 0)
theorem bestF_lt {xss : List (List Nat)} {i : Nat} (h : 0 < xss.length) : ∀ k, k ≤ xss.length → bestF xss i k < xss.length
  | 0, _ => h
  | k + 1, hk => by
    have ih := bestF_lt (i := i) h k (by omega)
    simp only [bestF, foldI_succ] at ih ⊢
    split
    · omega
    · exact ih
def ridgeL (xss : List (List Nat)) (i : Nat) : List Int := (List.range i).map fun j => ((bestF xss j xss.length : Nat) : Int)
theorem ridgeL_length (xss : List (List Nat)) (i : Nat) : (ridgeL xss i).length = i := by simp [ridgeL]
theorem ridgeL_snoc (xss : List (List Nat)) (i : Nat) : (ridgeL xss i).map iv ++ [.int .i64 ((bestF xss i xss.length : Nat) : Int)] = (ridgeL xss (i + 1)).map iv := by simp [ridgeL, List.range_succ, iv]
end Go.Proofs.Ytkojmlpaamdhoad

namespace Go.Proofs.Ytkojmlpaamdhoad
open Go.Gx
set_option maxRecDepth 100000
set_option linter.unusedSimpArgs false
set_option linter.unusedVariables false

theorem wr_range (n : Int) : -9223372036854775808 ≤ wr n ∧ wr n ≤ 9223372036854775807 := by
  unfold wr
  rw [IntKind.wrap_i64]
  omega
def updL (g : Nat → Int) (xs : List Int) (i : Nat) : List Int := (List.range xs.length).map fun k => if k < i then g k else xs.getD k 0
theorem updL_length (g : Nat → Int) (xs : List Int) (i : Nat) : (updL g xs i).length = xs.length := by simp [updL]
theorem updL_zero (g : Nat → Int) (xs : List Int) : updL g xs 0 = xs := by
  refine list_ext_getD 0 (updL_length _ _ _) fun j hj => ?_
  rw [updL_length] at hj
  rw [updL, getD_range_map hj]
  simp
theorem updL_all (g : Nat → Int) (xs : List Int) : updL g xs xs.length = (List.range xs.length).map g := by
  refine list_ext_getD 0 (by simp [updL]) fun j hj => ?_
  rw [updL_length] at hj
  rw [updL, getD_range_map hj, getD_range_map hj, if_pos hj]
theorem updL_at {g : Nat → Int} {xs : List Int} {i : Nat} (h : i < xs.length) : ((updL g xs i).map iv)[i]? = some (.int .i64 (xs.getD i 0)) := by
  simp [updL, h, iv]
theorem updL_set {g : Nat → Int} {xs : List Int} {i : Nat} : (updL g xs i).set i (g i) = updL g xs (i + 1) := by
  refine list_ext_getD 0 (by simp [updL]) fun j hj => ?_
  have hj' : j < xs.length := by simpa [updL] using hj
  by_cases hji : j = i
  · subst hji
    rw [getD_set_self (by rw [updL_length]; exact hj'), updL, getD_range_map hj', if_pos (by omega)]
  · rw [Go.Gx.getD_set_ne (Ne.symm hji), updL, updL, getD_range_map hj', getD_range_map hj']
    by_cases h : j < i
    · rw [if_pos h, if_pos (by omega)]
    · rw [if_neg h, if_neg (by omega)]
theorem i64_range (n : Nat) (f : Nat → Int) (h : ∀ j, -9223372036854775808 ≤ f j ∧ f j ≤ 9223372036854775807) : I64 ((List.range n).map f) := fun j => by
  by_cases hj : j < n
  · rw [getD_range_map hj]; exact h j
  · simp [List.getD_eq_getElem?_getD, List.getElem?_eq_none (l := List.range n) (i := j) (by simp; omega)]
theorem i64_ev {xs : List Int} (h : I64 xs) (n : Nat) : I64 (evL 0 xs n) := i64_range _ _ fun j => h _
theorem i64_od {xs : List Int} (h : I64 xs) (n : Nat) : I64 (odL 0 xs n) := i64_range _ _ fun j => h _
theorem liftO_length (kind : Int) (xs : List Int) : (liftO kind xs).length = xs.length / 2 := by simp [liftO, lowerO, odL_length]
theorem liftE_length (kind : Int) (xs : List Int) : (liftE kind xs).length = (xs.length + 1) / 2 := by simp [liftE, raiseE, evL_length]
theorem i64_liftO (kind : Int) (xs : List Int) : I64 (liftO kind xs) := i64_range _ _ fun j => wr_range _
theorem i64_liftE (kind : Int) (xs : List Int) : I64 (liftE kind xs) := i64_range _ _ fun j => wr_range _
end Go.Proofs.Ytkojmlpaamdhoad

namespace Go.Proofs.Ytkojmlpaamdhoad
open Go.Gx
set_option maxRecDepth 100000
set_option linter.unusedSimpArgs false
set_option linter.unusedVariables false

theorem OwN_init {lo hi : Nat} {H : Heap} {ty : TypeId} {vs : List Value} {ls : List (List Value)} {v : Value} {l : List Value} (o : OwN lo hi H ty (vs ++ [v]) (ls ++ [l])) : OwN lo hi H ty vs ls := by
  obtain ⟨h1, h2, h3⟩ := o
  have hl : vs.length = ls.length := by simpa using h1
  have ea : ∀ i, i < ls.length → (vs ++ [v]).getD i undef = vs.getD i undef := fun i hi' => getD_app_lt (by omega)
  refine ⟨hl, fun i hi' => ?_, fun i j h hi' hj hh hk => h3 i j h (by simp; omega) (by simp; omega) (by rw [ea i hi']; exact hh) (by rw [ea j hj]; exact hk)⟩
  have := h2 i (by simp; omega)
  rwa [ea i hi', getD_app_lt hi'] at this
theorem OwN_last {lo hi : Nat} {H : Heap} {ty : TypeId} {vs : List Value} {ls : List (List Value)} {v : Value} {l : List Value} (o : OwN lo hi H ty (vs ++ [v]) (ls ++ [l])) : OwL lo hi H ty v l := by
  obtain ⟨h1, h2, h3⟩ := o
  have hl : vs.length = ls.length := by simpa using h1
  have := h2 ls.length (by simp)
  rw [getD_app_at] at this
  rwa [← hl, getD_app_at] at this
theorem OwN_put {lo hi h : Nat} {H : Heap} {ty sty : TypeId} {vs : List Value} {ls : List (List Value)} {cs : List Value} {own : Bool} {b : Blk} (o : OwN lo hi H ty vs ls) (hb : H.blk h = some ⟨own, sty, cs⟩) (hne : sty ≠ ty) : OwN lo hi (H.put h b) ty vs ls :=
  o.keep (Nat.le_refl _) fun i k hi' hk => hput_other _ _ _ _ fun e => (o.2.1 i hi').ne hb hne (by rw [hk, e])
theorem OwL_put {lo hi h : Nat} {H : Heap} {ty sty : TypeId} {v : Value} {l cs : List Value} {own : Bool} {b : Blk} (o : OwL lo hi H ty v l) (hb : H.blk h = some ⟨own, sty, cs⟩) (hne : sty ≠ ty) : OwL lo hi (H.put h b) ty v l :=
  o.keep (Nat.le_refl _) fun k hk => hput_other _ _ _ _ fun e => o.ne hb hne (by rw [hk, e])
/-- Two lists made later. -/
theorem OwN_two {lo : Nat} {G G' : Heap} {ty : TypeId} {vs : List Value} {ls : List (List Value)} {a b : Value} {la lb : List Value} (o : OwN lo G.n G ty vs ls) (e : Ext G G') (hlo : lo ≤ G.n) (p : OwN G.n G'.n G' ty [a, b] [la, lb]) : OwN lo G'.n G' ty (vs ++ [b] ++ [a]) (ls ++ [lb] ++ [la]) := by
  have o1 := (o.ext e).wide (Nat.le_refl _) e.n
  have pa := p.fst
  have pb := p.snd
  have hab : ∀ h, hdl b = some h → hdl a ≠ some h := fun h h1 h2 => by
    have := p.2.2 0 1 h (by simp) (by simp) h2 h1
    omega
  have o2 := o1.snoc (pb.wide hlo (Nat.le_refl _)) fun i h hi' hh hk => by
    have h1 := (o.lt hi' hh).2.1
    have h2 := (pb.hdl hk).1
    omega
  refine o2.snoc (pa.wide hlo (Nat.le_refl _)) fun i h hi' hh hk => ?_
  by_cases hlt : i < ls.length
  · rw [getD_app_lt (by rw [o.1]; exact hlt)] at hh
    have h1 := (o.lt hlt hh).2.1
    have h2 := (pa.hdl hk).1
    omega
  · have hi2 : i = ls.length := by simp at hi'; omega
    rw [hi2, ← o.1, getD_app_at] at hh
    exact hab h hh hk
def nowI (kind : Int) (xs : List Int) : Nat → List Int := foldI (fun _ l => liftE kind l) xs
def outI (kind : Int) (xs : List Int) (t : Nat) : List (List Int) := (List.range t).map fun k => liftO kind (nowI kind xs k)
theorem outI_succ (kind : Int) (xs : List Int) (t : Nat) : outI kind xs (t + 1) = outI kind xs t ++ [liftO kind (nowI kind xs t)] := by simp [outI, List.range_succ]
theorem nowI_succ (kind : Int) (xs : List Int) (t : Nat) : nowI kind xs (t + 1) = liftE kind (nowI kind xs t) := rfl
theorem nowI_le (kind : Int) (xs : List Int) : ∀ t, (nowI kind xs t).length ≤ xs.length + 1
  | 0 => by simp [nowI, foldI_zero]
  | t + 1 => by have := nowI_le kind xs t; rw [nowI_succ, liftE_length]; omega
def stopN (p : Nat → Bool) : Nat → Nat
  | 0 => 0
  | n + 1 => if stopN p n = n ∧ p n = true then n + 1 else stopN p n
theorem stopN_le (p : Nat → Bool) : ∀ n, stopN p n ≤ n
  | 0 => Nat.le_refl _
  | n + 1 => by
    have := stopN_le p n
    unfold stopN
    split <;> omega
theorem stopN_full {p : Nat → Bool} : ∀ t, (∀ s, s < t → p s = true) → stopN p t = t
  | 0, _ => rfl
  | t + 1, h => by
    unfold stopN
    rw [if_pos ⟨stopN_full t fun s hs => h s (by omega), h t (by omega)⟩]
theorem stopN_eq {p : Nat → Bool} {t : Nat} (h : ∀ s, s < t → p s = true) : ∀ n, t ≤ n → (t < n → p t = false) → stopN p n = t
  | 0, hn, _ => by have : t = 0 := by omega
                   subst this; rfl
  | n + 1, hn, hp => by
    by_cases h1 : t = n + 1
    · subst h1; exact stopN_full _ h
    · have ih := stopN_eq h n (by omega) fun _ => hp (by omega)
      unfold stopN
      rw [ih]
      by_cases h2 : t = n
      · subst h2
        rw [hp (by omega)]
        simp
      · rw [if_neg (fun h => h2 h.1)]
def moreI (kind : Int) (xs : List Int) (t : Nat) : Bool := decide (1 < (nowI kind xs t).length)
def levelsI (kind : Int) (xs : List Int) (n : Nat) : List (List Int) := outI kind xs (stopN (moreI kind xs) n) ++ [nowI kind xs (stopN (moreI kind xs) n)]
theorem outI_len (kind : Int) (xs : List Int) (t : Nat) : (outI kind xs t).length = t := by simp [outI]
theorem outI_sum (kind : Int) (xs : List Int) (hx : xs.length ≤ 128) : ∀ t, offN (outI kind xs t) t ≤ 129 * t
  | 0 => by simp [offN_zero]
  | t + 1 => by
    have ih := outI_sum kind xs hx t
    have h1 := nowI_le kind xs t
    have h2 := liftO_length kind (nowI kind xs t)
    rw [outI_succ, offN_succ (by simp [outI_len])]
    have e1 : offN (outI kind xs t ++ [liftO kind (nowI kind xs t)]) t = offN (outI kind xs t) t := by
      unfold offN
      rw [List.take_append_of_le_length (by rw [outI_len]; exact Nat.le_refl _)]
    have e2 : (outI kind xs t ++ [liftO kind (nowI kind xs t)]).getD t [] = liftO kind (nowI kind xs t) := by
      have := @getD_app_at _ (outI kind xs t) (liftO kind (nowI kind xs t)) []
      rwa [outI_len] at this
    rw [e1, e2]
    omega
theorem levelsI_tot (kind : Int) (xs : List Int) (hx : xs.length ≤ 128) (n : Nat) (hn : n ≤ 6) : totL (levelsI kind xs n) ≤ 2 ^ 40 := by
  have hs := stopN_le (moreI kind xs) n
  obtain ⟨t, ht⟩ : ∃ t, t = stopN (moreI kind xs) n := ⟨_, rfl⟩
  unfold levelsI
  rw [← ht] at hs ⊢
  have h1 := outI_sum kind xs hx t
  have h2 := nowI_le kind xs t
  have hl : (outI kind xs t ++ [nowI kind xs t]).length = t + 1 := by simp [outI_len]
  unfold totL
  rw [hl, offN_succ (by rw [hl]; omega)]
  have e1 : offN (outI kind xs t ++ [nowI kind xs t]) t = offN (outI kind xs t) t := by
    unfold offN
    rw [List.take_append_of_le_length (by rw [outI_len]; exact Nat.le_refl _)]
  have e2 : (outI kind xs t ++ [nowI kind xs t]).getD t [] = nowI kind xs t := by
    have := @getD_app_at _ (outI kind xs t) (nowI kind xs t) []
    rwa [outI_len] at this
  rw [e1, e2]
  omega
theorem integers_len {xs : List Int} (h : integersF xs = true) : 1 ≤ xs.length ∧ xs.length ≤ 128 := by
  simp only [integersF, Bool.and_eq_true] at h
  have := within_true.1 h.1
  omega
theorem i64_nowI {kind : Int} {xs : List Int} (h : I64 xs) : ∀ t, I64 (nowI kind xs t)
  | 0 => h
  | t + 1 => i64_liftE _ _
end Go.Proofs.Ytkojmlpaamdhoad

namespace Go.Proofs.Ytkojmlpaamdhoad
open Go.Gx
set_option maxRecDepth 100000
set_option linter.unusedSimpArgs false
set_option linter.unusedVariables false

theorem rd1_at {H : Heap} {k : Nat} {ty : TypeId} {v : Value} (h : k = H.n) : readSl (H.new ⟨true, ty, [v]⟩) (.slice (some ⟨k, 0, none⟩) 1 1) = some [v] := by subst h; exact rd1_new
theorem tdiv2 (n : Nat) : ((n : Int)).tdiv 2 = ((n / 2 : Nat) : Int) := tdivN n 2
theorem ring_ix (n j k : Nat) : (2 * (j : Int) + (k : Int)).tmod (n : Int) = (((2 * j + k) % n : Nat) : Int) := by
  have : 2 * (j : Int) + (k : Int) = ((2 * j + k : Nat) : Int) := by omega
  rw [this, tmodN]
def tapF (xs ps : List Nat) (j : Nat) : Nat → Nat := foldI (fun k a => fbin .add .f32 a (fbin .mul .f32 (ps.getD k 0) (xs.getD ((2 * j + k) % xs.length) 0))) 0
theorem tapF_succ (xs ps : List Nat) (j k : Nat) : tapF xs ps j (k + 1) = fbin .add .f32 (tapF xs ps j k) (fbin .mul .f32 (ps.getD k 0) (xs.getD ((2 * j + k) % xs.length) 0)) := rfl
def tapL (xs ps : List Nat) : List Nat := tabL (xs.length / 2) fun j => tapF xs ps j ps.length
def splitOk (xs ps : List Nat) : Bool := isLongF xs && decide (xs.length % 2 = 0) && validPairF ps && ((tapL xs ps).all finF && (tapL xs (highL ps)).all finF)
def joinK (lo hi ps hp out : List Nat) (j k : Nat) : List Nat := out.set ((2 * j + k) % (2 * lo.length)) (fbin .add .f32 (out.getD ((2 * j + k) % (2 * lo.length)) 0) (fbin .add .f32 (fbin .mul .f32 (ps.getD k 0) (lo.getD j 0)) (fbin .mul .f32 (hp.getD k 0) (hi.getD j 0))))
def joinJ (lo hi ps hp out : List Nat) (j : Nat) : Nat → List Nat := foldI (fun k o => joinK lo hi ps hp o j k) out
def joinN (lo hi ps hp : List Nat) : Nat → List Nat := foldI (fun j o => joinJ lo hi ps hp o j ps.length) (List.replicate (2 * lo.length) 0)
theorem joinJ_len (lo hi ps hp out : List Nat) (j : Nat) : ∀ k, (joinJ lo hi ps hp out j k).length = out.length
  | 0 => rfl
  | k + 1 => by
    have := joinJ_len lo hi ps hp out j k
    simp only [joinJ, foldI_succ, joinK, List.length_set] at this ⊢
    exact this
theorem joinN_len (lo hi ps hp : List Nat) : ∀ j, (joinN lo hi ps hp j).length = 2 * lo.length
  | 0 => by simp [joinN, foldI_zero]
  | j + 1 => by
    have := joinN_len lo hi ps hp j
    simp only [joinN, foldI_succ] at this ⊢
    rw [joinJ_len]; exact this
theorem joinJ_succ (lo hi ps hp out : List Nat) (j k : Nat) : joinJ lo hi ps hp out j (k + 1) = joinK lo hi ps hp (joinJ lo hi ps hp out j k) j k := rfl
theorem joinN_succ (lo hi ps hp : List Nat) (j : Nat) : joinN lo hi ps hp (j + 1) = joinJ lo hi ps hp (joinN lo hi ps hp j) j ps.length := rfl
def joinL (lo hi ps : List Nat) : List Nat := joinN lo hi ps (highL ps) lo.length
def joinOk (lo hi ps : List Nat) : Bool := within lo.length 1 64 && decide (hi.length = lo.length) && (lo.all finF && hi.all finF) && validPairF ps && (joinL lo hi ps).all finF
theorem fv_at {xs : List Nat} {i : Nat} (h : i < xs.length) : (xs.map fv)[i]? = some (.float .f32 (xs.getD i 0)) := by simp [List.getD_eq_getElem?_getD, h, fv]
theorem rep_fv (n : Nat) : List.replicate n (Value.float .f32 0) = (List.replicate n 0).map fv := by simp [fv]
end Go.Proofs.Ytkojmlpaamdhoad

namespace Go.Proofs.Ytkojmlpaamdhoad
open Go.Gx
set_option maxRecDepth 100000
set_option linter.unusedSimpArgs false
set_option linter.unusedVariables false

structure AG (H : Heap) (v : Value) (xs : List Nat) : Prop where
  rd : FS H v xs
  le : xs.length ≤ 2 ^ 40
theorem AF_g {H : Heap} {v : Value} {xs : List Nat} (a : AF H v xs) : AG H v xs := ⟨a.rd, a.le⟩
end Go.Proofs.Ytkojmlpaamdhoad

namespace Go.Proofs.Ytkojmlpaamdhoad
open Go.Gx
set_option maxRecDepth 100000
set_option linter.unusedSimpArgs false
set_option linter.unusedVariables false

def nowJ (xs : List Nat) (yss : List (List Nat)) (ps : List Nat) : Nat → List Nat := foldI (fun t l => joinL l (yss.getD (yss.length - 1 - t) []) ps) xs
theorem nowJ_succ (xs : List Nat) (yss : List (List Nat)) (ps : List Nat) (t : Nat) : nowJ xs yss ps (t + 1) = joinL (nowJ xs yss ps t) (yss.getD (yss.length - 1 - t) []) ps := rfl
theorem nowJ_len_succ (xs : List Nat) (yss : List (List Nat)) (ps : List Nat) (t : Nat) : (nowJ xs yss ps (t + 1)).length = 2 * (nowJ xs yss ps t).length := joinN_len _ _ _ _ _
theorem det_le {xs : List Nat} {yss : List (List Nat)} (h : validBandsF xs yss = true) : ∀ i, i < yss.length → 1 ≤ (yss.getD i []).length ∧ (yss.getD i []).length ≤ (yss.getD 0 []).length
  | 0, hi => by
    have := (vb_yes h).2.2.2.2.1 0 hi
    simp only [detAt, Bool.and_eq_true, decide_eq_true_eq] at this
    exact ⟨this.1, Nat.le_refl _⟩
  | i + 1, hi => by
    have ih := det_le h i (by omega)
    have := (vb_yes h).2.2.2.2.1 (i + 1) hi
    simp only [detAt, Bool.and_eq_true, Bool.or_eq_true, decide_eq_true_eq] at this
    have h2 := this.2
    simp only [Nat.add_sub_cancel] at h2
    omega
theorem nowJ_len {xs : List Nat} {yss : List (List Nat)} {ps : List Nat} (h : validBandsF xs yss = true) : ∀ t, t < yss.length → (nowJ xs yss ps t).length = (yss.getD (yss.length - 1 - t) []).length
  | 0, ht => by
    have := (vb_yes h).2.2.2.2.2
    simpa [nowJ, foldI_zero] using this
  | t + 1, ht => by
    have ih := nowJ_len (ps := ps) h t (by omega)
    have := (vb_yes h).2.2.2.2.1 (yss.length - 1 - t) (by omega)
    simp only [detAt, Bool.and_eq_true, Bool.or_eq_true, decide_eq_true_eq] at this
    rw [nowJ_len_succ, ih, show yss.length - 1 - (t + 1) = yss.length - 1 - t - 1 by omega]
    omega
def allJ (xs : List Nat) (yss : List (List Nat)) (ps : List Nat) : Bool := (List.range yss.length).all fun t => (nowJ xs yss ps (t + 1)).all finF
def joinLevOk (xs : List Nat) (yss : List (List Nat)) (ps : List Nat) : Bool := validBandsF xs yss && validPairF ps && allJ xs yss ps
end Go.Proofs.Ytkojmlpaamdhoad
