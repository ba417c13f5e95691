/- What the functions of the program do: contracts that are proved. -/
import Derived.Test.YtkojmlpaamdhoaeBandAloneCode
import Derived.Test.YtkojmlpaamdhoaeGxBands
namespace Go.Proofs.Ytkojmlpaamdhoae
open Go.Gx
set_option maxRecDepth 100000
set_option linter.unusedSimpArgs false
set_option linter.unusedVariables false

theorem w_sameFloat_ok {H : Heap} {x : Nat} : ACalls Try.prog n_w_sameFloat [.float .f64 x, .float .f64 x] H fun r H' => r = .bool true ∧ H' = H := by
  refine k_w_sameFloat.run rfl ?_
  unfold c_w_sameFloat
  ((try simp (disch := first | assumption | omega | rfl | (refine id ?_; simp only [gxD, ne_eq, reduceCtorEq, not_false_eq_true, Nat.reduceAdd, *]; done) | (refine id ?_; simp only [gxD]; omega)) only [↓gxPre, gxPost, ↓reduceIte, Nat.reduceEqDiff, reduceCtorEq, Nat.reduceAdd, *]); repeat' (first | (refine grdR_split (fun _ => ?_) (fun _ => ?_) <;> simp (disch := first | assumption | omega | rfl | (refine id ?_; simp only [gxD, ne_eq, reduceCtorEq, not_false_eq_true, Nat.reduceAdd, *]; done) | (refine id ?_; simp only [gxD]; omega)) only [↓gxPre, gxPost, ↓reduceIte, Nat.reduceEqDiff, reduceCtorEq, Nat.reduceAdd, *]) | (refine condR_split (fun _ => ?_) (fun _ => ?_) <;> simp (disch := first | assumption | omega | rfl | (refine id ?_; simp only [gxD, ne_eq, reduceCtorEq, not_false_eq_true, Nat.reduceAdd, *]; done) | (refine id ?_; simp only [gxD]; omega)) only [↓gxPre, gxPost, ↓reduceIte, Nat.reduceEqDiff, reduceCtorEq, Nat.reduceAdd, *])))
  all_goals first | rfl | (simp_all [fcB, fcmp]; done)
theorem w_eqFloat32S_ok {H : Heap} {v u : Value} {xs : List Nat} (hv : FS H v xs) (hu : FS H u xs) (hn : xs.length ≤ 2 ^ 40) :
    ACalls Try.prog n_w_eqFloat32S [v, u] H fun r H' => r = .bool true ∧ H' = H := by
  refine k_w_eqFloat32S.run rfl ?_
  unfold c_w_eqFloat32S
  ((try simp (disch := first | assumption | omega | rfl | (refine id ?_; simp only [gxD, ne_eq, reduceCtorEq, not_false_eq_true, Nat.reduceAdd, *]; done) | (refine id ?_; simp only [gxD]; omega)) only [↓gxPre, gxPost, ↓reduceIte, Nat.reduceEqDiff, reduceCtorEq, Nat.reduceAdd, hv.len, hu.len, ne_eq, not_true, not_false_eq_true, *]); repeat' (first | (refine grdR_split (fun _ => ?_) (fun _ => ?_) <;> simp (disch := first | assumption | omega | rfl | (refine id ?_; simp only [gxD, ne_eq, reduceCtorEq, not_false_eq_true, Nat.reduceAdd, *]; done) | (refine id ?_; simp only [gxD]; omega)) only [↓gxPre, gxPost, ↓reduceIte, Nat.reduceEqDiff, reduceCtorEq, Nat.reduceAdd, hv.len, hu.len, ne_eq, not_true, not_false_eq_true, *]) | (refine condR_split (fun _ => ?_) (fun _ => ?_) <;> simp (disch := first | assumption | omega | rfl | (refine id ?_; simp only [gxD, ne_eq, reduceCtorEq, not_false_eq_true, Nat.reduceAdd, *]; done) | (refine id ?_; simp only [gxD]; omega)) only [↓gxPre, gxPost, ↓reduceIte, Nat.reduceEqDiff, reduceCtorEq, Nat.reduceAdd, hv.len, hu.len, ne_eq, not_true, not_false_eq_true, *])))
  refine loop_for xs.length (fun i => [v, u, .int .i64 i]) rfl ?_ ?_
  · ((try simp (disch := first | assumption | omega | rfl | (refine id ?_; simp only [gxD, ne_eq, reduceCtorEq, not_false_eq_true, Nat.reduceAdd, *]; done) | (refine id ?_; simp only [gxD]; omega)) only [↓gxPre, gxPost, ↓reduceIte, Nat.reduceEqDiff, reduceCtorEq, Nat.reduceAdd, hv.len, hu.len, Int.lt_irrefl, *]); repeat' (first | (refine grdR_split (fun _ => ?_) (fun _ => ?_) <;> simp (disch := first | assumption | omega | rfl | (refine id ?_; simp only [gxD, ne_eq, reduceCtorEq, not_false_eq_true, Nat.reduceAdd, *]; done) | (refine id ?_; simp only [gxD]; omega)) only [↓gxPre, gxPost, ↓reduceIte, Nat.reduceEqDiff, reduceCtorEq, Nat.reduceAdd, hv.len, hu.len, Int.lt_irrefl, *]) | (refine condR_split (fun _ => ?_) (fun _ => ?_) <;> simp (disch := first | assumption | omega | rfl | (refine id ?_; simp only [gxD, ne_eq, reduceCtorEq, not_false_eq_true, Nat.reduceAdd, *]; done) | (refine id ?_; simp only [gxD]; omega)) only [↓gxPre, gxPost, ↓reduceIte, Nat.reduceEqDiff, reduceCtorEq, Nat.reduceAdd, hv.len, hu.len, Int.lt_irrefl, *])))
  · intro i hi
    ((try simp (disch := first | assumption | omega | rfl | (refine id ?_; simp only [gxD, ne_eq, reduceCtorEq, not_false_eq_true, Nat.reduceAdd, *]; done) | (refine id ?_; simp only [gxD]; omega)) only [↓gxPre, gxPost, ↓reduceIte, Nat.reduceEqDiff, reduceCtorEq, Nat.reduceAdd, hv.len, hu.len, hv.ia, hu.ia, hv.ld, hu.ld, *]); repeat' (first | (refine grdR_split (fun _ => ?_) (fun _ => ?_) <;> simp (disch := first | assumption | omega | rfl | (refine id ?_; simp only [gxD, ne_eq, reduceCtorEq, not_false_eq_true, Nat.reduceAdd, *]; done) | (refine id ?_; simp only [gxD]; omega)) only [↓gxPre, gxPost, ↓reduceIte, Nat.reduceEqDiff, reduceCtorEq, Nat.reduceAdd, hv.len, hu.len, hv.ia, hu.ia, hv.ld, hu.ld, *]) | (refine condR_split (fun _ => ?_) (fun _ => ?_) <;> simp (disch := first | assumption | omega | rfl | (refine id ?_; simp only [gxD, ne_eq, reduceCtorEq, not_false_eq_true, Nat.reduceAdd, *]; done) | (refine id ?_; simp only [gxD]; omega)) only [↓gxPre, gxPost, ↓reduceIte, Nat.reduceEqDiff, reduceCtorEq, Nat.reduceAdd, hv.len, hu.len, hv.ia, hu.ia, hv.ld, hu.ld, *]) | (refine callR_pure (w_sameFloat_ok) (by first | exact Or.inl rfl | (simp (disch := first | assumption | omega | rfl | (refine id ?_; simp only [gxD, ne_eq, reduceCtorEq, not_false_eq_true, Nat.reduceAdd, *]; done) | (refine id ?_; simp only [gxD]; omega)) only [↓gxPre, gxPost, ↓reduceIte, Nat.reduceEqDiff, reduceCtorEq, Nat.reduceAdd, hv.len, hu.len, hv.ia, hu.ia, hv.ld, hu.ld, *]; done)) ?_; simp (disch := first | assumption | omega | rfl | (refine id ?_; simp only [gxD, ne_eq, reduceCtorEq, not_false_eq_true, Nat.reduceAdd, *]; done) | (refine id ?_; simp only [gxD]; omega)) only [↓gxPre, gxPost, ↓reduceIte, Nat.reduceEqDiff, reduceCtorEq, Nat.reduceAdd, hv.len, hu.len, hv.ia, hu.ia, hv.ld, hu.ld, *])))
    all_goals simp
theorem w_toFloat32S_ok {H : Heap} {v : Value} {xs : List Nat} (hv : FS H v xs) (hn : xs.length ≤ 2 ^ 40) :
    ACalls Try.prog n_w_toFloat32S [v] H fun r H' => r = .slice (some ⟨H.n, 0, none⟩) xs.length xs.length ∧ H' = H.new ⟨true, t_float32, xs.map fv⟩ := by
  refine k_w_toFloat32S.run rfl ?_
  unfold c_w_toFloat32S
  simp (disch := first | assumption | omega | rfl | (refine id ?_; simp only [gxD, ne_eq, reduceCtorEq, not_false_eq_true, Nat.reduceAdd, *]; done) | (refine id ?_; simp only [gxD]; omega)) only [↓gxPre, gxPost, ↓reduceIte, Nat.reduceEqDiff, reduceCtorEq, Nat.reduceAdd, hv.len, eMks_i]
  refine loop_forH xs.length (fun i => [v, .slice (some ⟨H.n, 0, none⟩) xs.length xs.length, .int .i64 i]) (fun i H' => H' = H.new ⟨true, t_float32, overL (fun i => fv (xs.getD i 0)) i (List.replicate xs.length (.float .f32 0))⟩) rfl (by simp [overL_zero]) ?_ ?_
  · rintro _ rfl
    ((try simp (disch := first | assumption | omega | rfl | (refine id ?_; simp only [gxD, ne_eq, reduceCtorEq, not_false_eq_true, Nat.reduceAdd, *]; done) | (refine id ?_; simp only [gxD]; omega)) only [↓gxPre, gxPost, ↓reduceIte, Nat.reduceEqDiff, reduceCtorEq, Nat.reduceAdd, hv.len, Int.lt_irrefl, *]); repeat' (first | (refine grdR_split (fun _ => ?_) (fun _ => ?_) <;> simp (disch := first | assumption | omega | rfl | (refine id ?_; simp only [gxD, ne_eq, reduceCtorEq, not_false_eq_true, Nat.reduceAdd, *]; done) | (refine id ?_; simp only [gxD]; omega)) only [↓gxPre, gxPost, ↓reduceIte, Nat.reduceEqDiff, reduceCtorEq, Nat.reduceAdd, hv.len, Int.lt_irrefl, *]) | (refine condR_split (fun _ => ?_) (fun _ => ?_) <;> simp (disch := first | assumption | omega | rfl | (refine id ?_; simp only [gxD, ne_eq, reduceCtorEq, not_false_eq_true, Nat.reduceAdd, *]; done) | (refine id ?_; simp only [gxD]; omega)) only [↓gxPre, gxPost, ↓reduceIte, Nat.reduceEqDiff, reduceCtorEq, Nat.reduceAdd, hv.len, Int.lt_irrefl, *])))
    rw [overL_all _ _ _ (by simp), map_range_getD]
  · rintro i _ hi rfl
    have hv' := hv.ext (Ext.new H ⟨true, t_float32, overL (fun i => fv (xs.getD i 0)) i (List.replicate xs.length (.float .f32 0))⟩)
    have hl := overL_length (fun i => fv (xs.getD i 0)) i (List.replicate xs.length (.float .f32 0)) (by simp; omega)
    simp only [List.length_replicate] at hl
    ((try simp (disch := first | assumption | omega | rfl | (refine id ?_; simp only [gxD, ne_eq, reduceCtorEq, not_false_eq_true, Nat.reduceAdd, *]; done) | (refine id ?_; simp only [gxD]; omega)) only [↓gxPre, gxPost, ↓reduceIte, Nat.reduceEqDiff, reduceCtorEq, Nat.reduceAdd, hv.len, hv'.ia, hv'.ld, hl, *]); repeat' (first | (refine grdR_split (fun _ => ?_) (fun _ => ?_) <;> simp (disch := first | assumption | omega | rfl | (refine id ?_; simp only [gxD, ne_eq, reduceCtorEq, not_false_eq_true, Nat.reduceAdd, *]; done) | (refine id ?_; simp only [gxD]; omega)) only [↓gxPre, gxPost, ↓reduceIte, Nat.reduceEqDiff, reduceCtorEq, Nat.reduceAdd, hv.len, hv'.ia, hv'.ld, hl, *]) | (refine condR_split (fun _ => ?_) (fun _ => ?_) <;> simp (disch := first | assumption | omega | rfl | (refine id ?_; simp only [gxD, ne_eq, reduceCtorEq, not_false_eq_true, Nat.reduceAdd, *]; done) | (refine id ?_; simp only [gxD]; omega)) only [↓gxPre, gxPost, ↓reduceIte, Nat.reduceEqDiff, reduceCtorEq, Nat.reduceAdd, hv.len, hv'.ia, hv'.ld, hl, *])))
    have := overL_set (fun i => fv (xs.getD i 0)) i (List.replicate xs.length (.float .f32 0)) (by simpa using hi)
    simp only [fv] at this ⊢
    rw [this]
    simp
theorem w_szFloat32S_ok {H : Heap} {v : Value} {xs : List Nat} {n : Int} (hv : FS H v xs) (h0 : 0 ≤ n) (h1 : n ≤ 1048576) (hx : xs.length ≤ 9223372036854775807) :
    ACalls Try.prog n_w_szFloat32S [v, .int .i64 n] H fun r H' => r = .int .i64 (if n < xs.length then -1 else n - xs.length) ∧ H' = H := by
  refine k_w_szFloat32S.run rfl ?_
  unfold c_w_szFloat32S
  ((try simp (disch := first | assumption | omega | rfl | (refine id ?_; simp only [gxD, ne_eq, reduceCtorEq, not_false_eq_true, Nat.reduceAdd, *]; done) | (refine id ?_; simp only [gxD]; omega)) only [↓gxPre, gxPost, ↓reduceIte, Nat.reduceEqDiff, reduceCtorEq, Nat.reduceAdd, hv.len, *]); repeat' (first | (refine grdR_split (fun _ => ?_) (fun _ => ?_) <;> simp (disch := first | assumption | omega | rfl | (refine id ?_; simp only [gxD, ne_eq, reduceCtorEq, not_false_eq_true, Nat.reduceAdd, *]; done) | (refine id ?_; simp only [gxD]; omega)) only [↓gxPre, gxPost, ↓reduceIte, Nat.reduceEqDiff, reduceCtorEq, Nat.reduceAdd, hv.len, *]) | (refine condR_split (fun _ => ?_) (fun _ => ?_) <;> simp (disch := first | assumption | omega | rfl | (refine id ?_; simp only [gxD, ne_eq, reduceCtorEq, not_false_eq_true, Nat.reduceAdd, *]; done) | (refine id ?_; simp only [gxD]; omega)) only [↓gxPre, gxPost, ↓reduceIte, Nat.reduceEqDiff, reduceCtorEq, Nat.reduceAdd, hv.len, *])))
  all_goals simp_all
  all_goals omega
theorem w_markFloat32S_ok {H : Heap} {h n : Nat} {ty : TypeId} {l : List Value} {k : Int} (hb : H.blk h = some ⟨true, ty, l⟩) (hl : l.length = n) (h0 : 0 ≤ k) (h1 : k ≤ 2 ^ 61) (hn : n ≤ 2 ^ 61) :
    ACalls Try.prog n_w_markFloat32S [.slice (some ⟨h, 0, none⟩) n n, .int .i64 k] H fun r H' => r = .int .i64 (k + n) ∧ H' = H.put h ⟨true, ty, (List.range n).map (markF k)⟩ := by
  refine k_w_markFloat32S.run rfl ?_
  unfold c_w_markFloat32S
  simp (disch := first | assumption | omega | rfl | (refine id ?_; simp only [gxD, ne_eq, reduceCtorEq, not_false_eq_true, Nat.reduceAdd, *]; done) | (refine id ?_; simp only [gxD]; omega)) only [↓gxPre, gxPost, ↓reduceIte, Nat.reduceEqDiff, reduceCtorEq, Nat.reduceAdd]
  refine loop_forH n (fun i => [.slice (some ⟨h, 0, none⟩) n n, .int .i64 (k + i), .int .i64 i]) (fun i H' => H' = H.put h ⟨true, ty, overL (markF k) i l⟩) (by simp) (by simp [overL_zero, put_id hb]) ?_ ?_
  · rintro _ rfl
    ((try simp (disch := first | assumption | omega | rfl | (refine id ?_; simp only [gxD, ne_eq, reduceCtorEq, not_false_eq_true, Nat.reduceAdd, *]; done) | (refine id ?_; simp only [gxD]; omega)) only [↓gxPre, gxPost, ↓reduceIte, Nat.reduceEqDiff, reduceCtorEq, Nat.reduceAdd, Int.lt_irrefl, *]); repeat' (first | (refine grdR_split (fun _ => ?_) (fun _ => ?_) <;> simp (disch := first | assumption | omega | rfl | (refine id ?_; simp only [gxD, ne_eq, reduceCtorEq, not_false_eq_true, Nat.reduceAdd, *]; done) | (refine id ?_; simp only [gxD]; omega)) only [↓gxPre, gxPost, ↓reduceIte, Nat.reduceEqDiff, reduceCtorEq, Nat.reduceAdd, Int.lt_irrefl, *]) | (refine condR_split (fun _ => ?_) (fun _ => ?_) <;> simp (disch := first | assumption | omega | rfl | (refine id ?_; simp only [gxD, ne_eq, reduceCtorEq, not_false_eq_true, Nat.reduceAdd, *]; done) | (refine id ?_; simp only [gxD]; omega)) only [↓gxPre, gxPost, ↓reduceIte, Nat.reduceEqDiff, reduceCtorEq, Nat.reduceAdd, Int.lt_irrefl, *])))
    rw [overL_all _ _ _ hl]
  · rintro i _ hi rfl
    have hl' := overL_length (markF k) i l (by omega)
    rw [hl] at hl'
    have := overL_set (markF k) i l (by omega)
    ((try simp (disch := first | assumption | omega | rfl | (refine id ?_; simp only [gxD, ne_eq, reduceCtorEq, not_false_eq_true, Nat.reduceAdd, *]; done) | (refine id ?_; simp only [gxD]; omega)) only [↓gxPre, gxPost, ↓reduceIte, Nat.reduceEqDiff, reduceCtorEq, Nat.reduceAdd, hl', *]); repeat' (first | (refine grdR_split (fun _ => ?_) (fun _ => ?_) <;> simp (disch := first | assumption | omega | rfl | (refine id ?_; simp only [gxD, ne_eq, reduceCtorEq, not_false_eq_true, Nat.reduceAdd, *]; done) | (refine id ?_; simp only [gxD]; omega)) only [↓gxPre, gxPost, ↓reduceIte, Nat.reduceEqDiff, reduceCtorEq, Nat.reduceAdd, hl', *]) | (refine condR_split (fun _ => ?_) (fun _ => ?_) <;> simp (disch := first | assumption | omega | rfl | (refine id ?_; simp only [gxD, ne_eq, reduceCtorEq, not_false_eq_true, Nat.reduceAdd, *]; done) | (refine id ?_; simp only [gxD]; omega)) only [↓gxPre, gxPost, ↓reduceIte, Nat.reduceEqDiff, reduceCtorEq, Nat.reduceAdd, hl', *])))
    simp only [markF, fv] at this ⊢
    rw [this]
    simp [Int.add_assoc]
theorem w_heldFloat32S_ok {H : Heap} {h n : Nat} {ty : TypeId} {k : Int} (hb : H.blk h = some ⟨true, ty, (List.range n).map (markF k)⟩) (h0 : 0 ≤ k) (h1 : k ≤ 2 ^ 61) (hn : n ≤ 2 ^ 61) :
    ACalls Try.prog n_w_heldFloat32S [.slice (some ⟨h, 0, none⟩) n n, .int .i64 k] H fun r H' => r = .int .i64 (k + n) ∧ H' = H := by
  refine k_w_heldFloat32S.run rfl ?_
  unfold c_w_heldFloat32S
  simp (disch := first | assumption | omega | rfl | (refine id ?_; simp only [gxD, ne_eq, reduceCtorEq, not_false_eq_true, Nat.reduceAdd, *]; done) | (refine id ?_; simp only [gxD]; omega)) only [↓gxPre, gxPost, ↓reduceIte, Nat.reduceEqDiff, reduceCtorEq, Nat.reduceAdd]
  refine loop_for n (fun i => [.slice (some ⟨h, 0, none⟩) n n, .int .i64 (k + i), .int .i64 i]) (by simp) ?_ ?_
  · ((try simp (disch := first | assumption | omega | rfl | (refine id ?_; simp only [gxD, ne_eq, reduceCtorEq, not_false_eq_true, Nat.reduceAdd, *]; done) | (refine id ?_; simp only [gxD]; omega)) only [↓gxPre, gxPost, ↓reduceIte, Nat.reduceEqDiff, reduceCtorEq, Nat.reduceAdd, Int.lt_irrefl, *]); repeat' (first | (refine grdR_split (fun _ => ?_) (fun _ => ?_) <;> simp (disch := first | assumption | omega | rfl | (refine id ?_; simp only [gxD, ne_eq, reduceCtorEq, not_false_eq_true, Nat.reduceAdd, *]; done) | (refine id ?_; simp only [gxD]; omega)) only [↓gxPre, gxPost, ↓reduceIte, Nat.reduceEqDiff, reduceCtorEq, Nat.reduceAdd, Int.lt_irrefl, *]) | (refine condR_split (fun _ => ?_) (fun _ => ?_) <;> simp (disch := first | assumption | omega | rfl | (refine id ?_; simp only [gxD, ne_eq, reduceCtorEq, not_false_eq_true, Nat.reduceAdd, *]; done) | (refine id ?_; simp only [gxD]; omega)) only [↓gxPre, gxPost, ↓reduceIte, Nat.reduceEqDiff, reduceCtorEq, Nat.reduceAdd, Int.lt_irrefl, *])))
  · intro i hi
    have hr : (List.map (markF k) (List.range n))[i]? = some (.float .f32 (i2f .f32 (k + i))) := by simp [hi, markF, fv]
    ((try simp (disch := first | assumption | omega | rfl | (refine id ?_; simp only [gxD, ne_eq, reduceCtorEq, not_false_eq_true, Nat.reduceAdd, *]; done) | (refine id ?_; simp only [gxD]; omega)) only [↓gxPre, gxPost, ↓reduceIte, Nat.reduceEqDiff, reduceCtorEq, Nat.reduceAdd, hr, fneq_i2f, *]); repeat' (first | (refine grdR_split (fun _ => ?_) (fun _ => ?_) <;> simp (disch := first | assumption | omega | rfl | (refine id ?_; simp only [gxD, ne_eq, reduceCtorEq, not_false_eq_true, Nat.reduceAdd, *]; done) | (refine id ?_; simp only [gxD]; omega)) only [↓gxPre, gxPost, ↓reduceIte, Nat.reduceEqDiff, reduceCtorEq, Nat.reduceAdd, hr, fneq_i2f, *]) | (refine condR_split (fun _ => ?_) (fun _ => ?_) <;> simp (disch := first | assumption | omega | rfl | (refine id ?_; simp only [gxD, ne_eq, reduceCtorEq, not_false_eq_true, Nat.reduceAdd, *]; done) | (refine id ?_; simp only [gxD]; omega)) only [↓gxPre, gxPost, ↓reduceIte, Nat.reduceEqDiff, reduceCtorEq, Nat.reduceAdd, hr, fneq_i2f, *])))
    simp [Int.add_assoc]
theorem w_markFloat32S_nil {H : Heap} {k : Int} : ACalls Try.prog n_w_markFloat32S [.slice none 0 0, .int .i64 k] H fun r H' => r = .int .i64 k ∧ H' = H := by
  refine k_w_markFloat32S.run rfl ?_
  unfold c_w_markFloat32S
  simp (disch := first | assumption | omega | rfl | (refine id ?_; simp only [gxD, ne_eq, reduceCtorEq, not_false_eq_true, Nat.reduceAdd, *]; done) | (refine id ?_; simp only [gxD]; omega)) only [↓gxPre, gxPost, ↓reduceIte, Nat.reduceEqDiff, reduceCtorEq, Nat.reduceAdd]
  refine loop_for 0 (fun i => [.slice none 0 0, .int .i64 k, .int .i64 i]) rfl ?_ ?_
  · simp (disch := first | assumption | omega | rfl | (refine id ?_; simp only [gxD, ne_eq, reduceCtorEq, not_false_eq_true, Nat.reduceAdd, *]; done) | (refine id ?_; simp only [gxD]; omega)) only [↓gxPre, gxPost, ↓reduceIte, Nat.reduceEqDiff, reduceCtorEq, Nat.reduceAdd]
  · intro i hi; omega
theorem w_heldFloat32S_nil {H : Heap} {k : Int} : ACalls Try.prog n_w_heldFloat32S [.slice none 0 0, .int .i64 k] H fun r H' => r = .int .i64 k ∧ H' = H := by
  refine k_w_heldFloat32S.run rfl ?_
  unfold c_w_heldFloat32S
  simp (disch := first | assumption | omega | rfl | (refine id ?_; simp only [gxD, ne_eq, reduceCtorEq, not_false_eq_true, Nat.reduceAdd, *]; done) | (refine id ?_; simp only [gxD]; omega)) only [↓gxPre, gxPost, ↓reduceIte, Nat.reduceEqDiff, reduceCtorEq, Nat.reduceAdd]
  refine loop_for 0 (fun i => [.slice none 0 0, .int .i64 k, .int .i64 i]) rfl ?_ ?_
  · simp (disch := first | assumption | omega | rfl | (refine id ?_; simp only [gxD, ne_eq, reduceCtorEq, not_false_eq_true, Nat.reduceAdd, *]; done) | (refine id ?_; simp only [gxD]; omega)) only [↓gxPre, gxPost, ↓reduceIte, Nat.reduceEqDiff, reduceCtorEq, Nat.reduceAdd]
  · intro i hi; omega
end Go.Proofs.Ytkojmlpaamdhoae

namespace Go.Proofs.Ytkojmlpaamdhoae
open Go.Gx
set_option maxRecDepth 100000
set_option linter.unusedSimpArgs false
set_option linter.unusedVariables false

theorem i_within_ok {H : Heap} {a b c : Int} :
    ACalls Try.prog n_i_within [.int .i64 a, .int .i64 b, .int .i64 c] H fun r H' => r = .bool (within a b c) ∧ H' = H := by
  refine k_i_within.run rfl ?_
  unfold c_i_within
  ((try simp (disch := first | assumption | omega | rfl | (refine id ?_; simp only [gxD, ne_eq, reduceCtorEq, not_false_eq_true, Nat.reduceAdd, *]; done) | (refine id ?_; simp only [gxD]; omega)) only [↓gxPre, gxPost, ↓reduceIte, Nat.reduceEqDiff, reduceCtorEq, Nat.reduceAdd, *]); repeat' (first | (refine grdR_split (fun _ => ?_) (fun _ => ?_) <;> simp (disch := first | assumption | omega | rfl | (refine id ?_; simp only [gxD, ne_eq, reduceCtorEq, not_false_eq_true, Nat.reduceAdd, *]; done) | (refine id ?_; simp only [gxD]; omega)) only [↓gxPre, gxPost, ↓reduceIte, Nat.reduceEqDiff, reduceCtorEq, Nat.reduceAdd, *]) | (refine condR_split (fun _ => ?_) (fun _ => ?_) <;> simp (disch := first | assumption | omega | rfl | (refine id ?_; simp only [gxD, ne_eq, reduceCtorEq, not_false_eq_true, Nat.reduceAdd, *]; done) | (refine id ?_; simp only [gxD]; omega)) only [↓gxPre, gxPost, ↓reduceIte, Nat.reduceEqDiff, reduceCtorEq, Nat.reduceAdd, *])))
  all_goals (simp_all [within]; try omega)
theorem s_l00In_ok {H : Heap} {a b c : Int} :
    ACalls Try.prog n_s_l00In [.int .i64 a, .int .i64 b, .int .i64 c] H fun r H' => r = .bool (within a b c) ∧ H' = H := by
  refine k_s_l00In.run rfl ?_
  unfold c_s_l00In
  ((try simp (disch := first | assumption | omega | rfl | (refine id ?_; simp only [gxD, ne_eq, reduceCtorEq, not_false_eq_true, Nat.reduceAdd, *]; done) | (refine id ?_; simp only [gxD]; omega)) only [↓gxPre, gxPost, ↓reduceIte, Nat.reduceEqDiff, reduceCtorEq, Nat.reduceAdd, *]); repeat' (first | (refine grdR_split (fun _ => ?_) (fun _ => ?_) <;> simp (disch := first | assumption | omega | rfl | (refine id ?_; simp only [gxD, ne_eq, reduceCtorEq, not_false_eq_true, Nat.reduceAdd, *]; done) | (refine id ?_; simp only [gxD]; omega)) only [↓gxPre, gxPost, ↓reduceIte, Nat.reduceEqDiff, reduceCtorEq, Nat.reduceAdd, *]) | (refine condR_split (fun _ => ?_) (fun _ => ?_) <;> simp (disch := first | assumption | omega | rfl | (refine id ?_; simp only [gxD, ne_eq, reduceCtorEq, not_false_eq_true, Nat.reduceAdd, *]; done) | (refine id ?_; simp only [gxD]; omega)) only [↓gxPre, gxPost, ↓reduceIte, Nat.reduceEqDiff, reduceCtorEq, Nat.reduceAdd, *])))
  all_goals (simp_all [within]; try omega)
theorem i_IsFinite_ok {H : Heap} {x : Nat} : ACalls Try.prog n_i_IsFinite [.float .f32 x] H fun r H' => r = .bool (finF x) ∧ H' = H := by
  refine k_i_IsFinite.run rfl ?_
  unfold c_i_IsFinite
  ((try simp (disch := first | assumption | omega | rfl | (refine id ?_; simp only [gxD, ne_eq, reduceCtorEq, not_false_eq_true, Nat.reduceAdd, *]; done) | (refine id ?_; simp only [gxD]; omega)) only [↓gxPre, gxPost, ↓reduceIte, Nat.reduceEqDiff, reduceCtorEq, Nat.reduceAdd, finF, *]); repeat' (first | (refine grdR_split (fun _ => ?_) (fun _ => ?_) <;> simp (disch := first | assumption | omega | rfl | (refine id ?_; simp only [gxD, ne_eq, reduceCtorEq, not_false_eq_true, Nat.reduceAdd, *]; done) | (refine id ?_; simp only [gxD]; omega)) only [↓gxPre, gxPost, ↓reduceIte, Nat.reduceEqDiff, reduceCtorEq, Nat.reduceAdd, finF, *]) | (refine condR_split (fun _ => ?_) (fun _ => ?_) <;> simp (disch := first | assumption | omega | rfl | (refine id ?_; simp only [gxD, ne_eq, reduceCtorEq, not_false_eq_true, Nat.reduceAdd, *]; done) | (refine id ?_; simp only [gxD]; omega)) only [↓gxPre, gxPost, ↓reduceIte, Nat.reduceEqDiff, reduceCtorEq, Nat.reduceAdd, finF, *])))
theorem s_l01Finite_ok {H : Heap} {x : Nat} : ACalls Try.prog n_s_l01Finite [.float .f32 x] H fun r H' => r = .bool (finF x) ∧ H' = H := by
  refine k_s_l01Finite.run rfl ?_
  unfold c_s_l01Finite
  ((try simp (disch := first | assumption | omega | rfl | (refine id ?_; simp only [gxD, ne_eq, reduceCtorEq, not_false_eq_true, Nat.reduceAdd, *]; done) | (refine id ?_; simp only [gxD]; omega)) only [↓gxPre, gxPost, ↓reduceIte, Nat.reduceEqDiff, reduceCtorEq, Nat.reduceAdd, finF, *]); repeat' (first | (refine grdR_split (fun _ => ?_) (fun _ => ?_) <;> simp (disch := first | assumption | omega | rfl | (refine id ?_; simp only [gxD, ne_eq, reduceCtorEq, not_false_eq_true, Nat.reduceAdd, *]; done) | (refine id ?_; simp only [gxD]; omega)) only [↓gxPre, gxPost, ↓reduceIte, Nat.reduceEqDiff, reduceCtorEq, Nat.reduceAdd, finF, *]) | (refine condR_split (fun _ => ?_) (fun _ => ?_) <;> simp (disch := first | assumption | omega | rfl | (refine id ?_; simp only [gxD, ne_eq, reduceCtorEq, not_false_eq_true, Nat.reduceAdd, *]; done) | (refine id ?_; simp only [gxD]; omega)) only [↓gxPre, gxPost, ↓reduceIte, Nat.reduceEqDiff, reduceCtorEq, Nat.reduceAdd, finF, *])))
theorem s_l02Finite_ok {H : Heap} {v : Value} {xs : List Nat} (hv : FS H v xs) (hn : xs.length ≤ 2 ^ 40) : ACalls Try.prog n_s_l02Finite [v] H fun r H' => r = .bool (xs.all finF) ∧ H' = H := by
  refine k_s_l02Finite.run rfl ?_
  unfold c_s_l02Finite
  simp (disch := first | assumption | omega | rfl | (refine id ?_; simp only [gxD, ne_eq, reduceCtorEq, not_false_eq_true, Nat.reduceAdd, *]; done) | (refine id ?_; simp only [gxD]; omega)) only [↓gxPre, gxPost, ↓reduceIte, Nat.reduceEqDiff, reduceCtorEq, Nat.reduceAdd, hv.len]
  refine loop_forH xs.length (fun i => [v, .int .i64 i]) (fun i H' => H = H' ∧ ∀ j, j < i → finF (xs.getD j 0) = true) rfl ⟨rfl, by intros; omega⟩ ?_ ?_
  · rintro _ ⟨rfl, hJ⟩
    ((try simp (disch := first | assumption | omega | rfl | (refine id ?_; simp only [gxD, ne_eq, reduceCtorEq, not_false_eq_true, Nat.reduceAdd, *]; done) | (refine id ?_; simp only [gxD]; omega)) only [↓gxPre, gxPost, ↓reduceIte, Nat.reduceEqDiff, reduceCtorEq, Nat.reduceAdd, hv.len, Int.lt_irrefl, *]); repeat' (first | (refine grdR_split (fun _ => ?_) (fun _ => ?_) <;> simp (disch := first | assumption | omega | rfl | (refine id ?_; simp only [gxD, ne_eq, reduceCtorEq, not_false_eq_true, Nat.reduceAdd, *]; done) | (refine id ?_; simp only [gxD]; omega)) only [↓gxPre, gxPost, ↓reduceIte, Nat.reduceEqDiff, reduceCtorEq, Nat.reduceAdd, hv.len, Int.lt_irrefl, *]) | (refine condR_split (fun _ => ?_) (fun _ => ?_) <;> simp (disch := first | assumption | omega | rfl | (refine id ?_; simp only [gxD, ne_eq, reduceCtorEq, not_false_eq_true, Nat.reduceAdd, *]; done) | (refine id ?_; simp only [gxD]; omega)) only [↓gxPre, gxPost, ↓reduceIte, Nat.reduceEqDiff, reduceCtorEq, Nat.reduceAdd, hv.len, Int.lt_irrefl, *])))
    rw [all_getD.2 hJ]
  · rintro i _ hi ⟨rfl, hJ⟩
    ((try simp (disch := first | assumption | omega | rfl | (refine id ?_; simp only [gxD, ne_eq, reduceCtorEq, not_false_eq_true, Nat.reduceAdd, *]; done) | (refine id ?_; simp only [gxD]; omega)) only [↓gxPre, gxPost, ↓reduceIte, Nat.reduceEqDiff, reduceCtorEq, Nat.reduceAdd, hv.len, hv.ia, hv.ld, *]); repeat' (first | (refine grdR_split (fun _ => ?_) (fun _ => ?_) <;> simp (disch := first | assumption | omega | rfl | (refine id ?_; simp only [gxD, ne_eq, reduceCtorEq, not_false_eq_true, Nat.reduceAdd, *]; done) | (refine id ?_; simp only [gxD]; omega)) only [↓gxPre, gxPost, ↓reduceIte, Nat.reduceEqDiff, reduceCtorEq, Nat.reduceAdd, hv.len, hv.ia, hv.ld, *]) | (refine condR_split (fun _ => ?_) (fun _ => ?_) <;> simp (disch := first | assumption | omega | rfl | (refine id ?_; simp only [gxD, ne_eq, reduceCtorEq, not_false_eq_true, Nat.reduceAdd, *]; done) | (refine id ?_; simp only [gxD]; omega)) only [↓gxPre, gxPost, ↓reduceIte, Nat.reduceEqDiff, reduceCtorEq, Nat.reduceAdd, hv.len, hv.ia, hv.ld, *]) | (refine callR_pure (s_l01Finite_ok) (by first | exact Or.inl rfl | (simp (disch := first | assumption | omega | rfl | (refine id ?_; simp only [gxD, ne_eq, reduceCtorEq, not_false_eq_true, Nat.reduceAdd, *]; done) | (refine id ?_; simp only [gxD]; omega)) only [↓gxPre, gxPost, ↓reduceIte, Nat.reduceEqDiff, reduceCtorEq, Nat.reduceAdd, hv.len, hv.ia, hv.ld, *]; done)) ?_; simp (disch := first | assumption | omega | rfl | (refine id ?_; simp only [gxD, ne_eq, reduceCtorEq, not_false_eq_true, Nat.reduceAdd, *]; done) | (refine id ?_; simp only [gxD]; omega)) only [↓gxPre, gxPost, ↓reduceIte, Nat.reduceEqDiff, reduceCtorEq, Nat.reduceAdd, hv.len, hv.ia, hv.ld, *])))
    · rename_i h; simp only [Bool.not_eq_true'] at h
      rw [all_false hi h]
    · rename_i h; simp only [Bool.not_eq_false'] at h
      exact ⟨by simp, Nat.forall_lt_succ_right.2 ⟨hJ, h⟩⟩
theorem i_areFinite_ok {H : Heap} {w : Value} {xss : List (List Nat)} (hw : SS H w xss) (hn : xss.length ≤ 2 ^ 40) (hx : ∀ j, j < xss.length → (xss.getD j []).length ≤ 2 ^ 40) :
    ACalls Try.prog n_i_areFinite [w] H fun r H' => r = .bool (xss.all fun xs => xs.all finF) ∧ H' = H := by
  obtain ⟨vs, hv, hl, hvs⟩ := hw
  refine k_i_areFinite.run rfl ?_
  unfold c_i_areFinite
  simp (disch := first | assumption | omega | rfl | (refine id ?_; simp only [gxD, ne_eq, reduceCtorEq, not_false_eq_true, Nat.reduceAdd, *]; done) | (refine id ?_; simp only [gxD]; omega)) only [↓gxPre, gxPost, ↓reduceIte, Nat.reduceEqDiff, reduceCtorEq, Nat.reduceAdd, hv.len, hl]
  refine loop_forH xss.length (fun i => [w, .int .i64 xss.length, .int .i64 i]) (fun i H' => H = H' ∧ ∀ j, j < i → (xss.getD j []).all finF = true) rfl ⟨rfl, by intros; omega⟩ ?_ ?_
  · rintro _ ⟨rfl, hJ⟩
    ((try simp (disch := first | assumption | omega | rfl | (refine id ?_; simp only [gxD, ne_eq, reduceCtorEq, not_false_eq_true, Nat.reduceAdd, *]; done) | (refine id ?_; simp only [gxD]; omega)) only [↓gxPre, gxPost, ↓reduceIte, Nat.reduceEqDiff, reduceCtorEq, Nat.reduceAdd, Int.lt_irrefl, *]); repeat' (first | (refine grdR_split (fun _ => ?_) (fun _ => ?_) <;> simp (disch := first | assumption | omega | rfl | (refine id ?_; simp only [gxD, ne_eq, reduceCtorEq, not_false_eq_true, Nat.reduceAdd, *]; done) | (refine id ?_; simp only [gxD]; omega)) only [↓gxPre, gxPost, ↓reduceIte, Nat.reduceEqDiff, reduceCtorEq, Nat.reduceAdd, Int.lt_irrefl, *]) | (refine condR_split (fun _ => ?_) (fun _ => ?_) <;> simp (disch := first | assumption | omega | rfl | (refine id ?_; simp only [gxD, ne_eq, reduceCtorEq, not_false_eq_true, Nat.reduceAdd, *]; done) | (refine id ?_; simp only [gxD]; omega)) only [↓gxPre, gxPost, ↓reduceIte, Nat.reduceEqDiff, reduceCtorEq, Nat.reduceAdd, Int.lt_irrefl, *])))
    rw [(allD []).2 hJ]
  · rintro i _ hi ⟨rfl, hJ⟩
    have hu := hvs i hi
    have hxi := hx i hi
    simp (disch := first | assumption | omega | rfl | (refine id ?_; simp only [gxD, ne_eq, reduceCtorEq, not_false_eq_true, Nat.reduceAdd, *]; done) | (refine id ?_; simp only [gxD]; omega)) only [↓gxPre, gxPost, ↓reduceIte, Nat.reduceEqDiff, reduceCtorEq, Nat.reduceAdd, hi, hv.ia, hv.ldD, hl, hu.len]
    refine loop_forH (xss.getD i []).length (fun j => [w, .int .i64 xss.length, .int .i64 i, vs.getD i undef, .int .i64 (xss.getD i []).length, .int .i64 j]) (fun j H' => H = H' ∧ ∀ k, k < j → finF ((xss.getD i []).getD k 0) = true) rfl ⟨rfl, by intros; omega⟩ ?_ ?_
    · rintro _ ⟨rfl, hK⟩
      simp (disch := first | assumption | omega | rfl | (refine id ?_; simp only [gxD, ne_eq, reduceCtorEq, not_false_eq_true, Nat.reduceAdd, *]; done) | (refine id ?_; simp only [gxD]; omega)) only [↓gxPre, gxPost, ↓reduceIte, Nat.reduceEqDiff, reduceCtorEq, Nat.reduceAdd, Int.lt_irrefl]
      exact ⟨by simp, Nat.forall_lt_succ_right.2 ⟨hJ, all_getD.2 hK⟩⟩
    · rintro j _ hj ⟨rfl, hK⟩
      ((try simp (disch := first | assumption | omega | rfl | (refine id ?_; simp only [gxD, ne_eq, reduceCtorEq, not_false_eq_true, Nat.reduceAdd, *]; done) | (refine id ?_; simp only [gxD]; omega)) only [↓gxPre, gxPost, ↓reduceIte, Nat.reduceEqDiff, reduceCtorEq, Nat.reduceAdd, hj, hu.ia, hu.ld, *]); repeat' (first | (refine grdR_split (fun _ => ?_) (fun _ => ?_) <;> simp (disch := first | assumption | omega | rfl | (refine id ?_; simp only [gxD, ne_eq, reduceCtorEq, not_false_eq_true, Nat.reduceAdd, *]; done) | (refine id ?_; simp only [gxD]; omega)) only [↓gxPre, gxPost, ↓reduceIte, Nat.reduceEqDiff, reduceCtorEq, Nat.reduceAdd, hj, hu.ia, hu.ld, *]) | (refine condR_split (fun _ => ?_) (fun _ => ?_) <;> simp (disch := first | assumption | omega | rfl | (refine id ?_; simp only [gxD, ne_eq, reduceCtorEq, not_false_eq_true, Nat.reduceAdd, *]; done) | (refine id ?_; simp only [gxD]; omega)) only [↓gxPre, gxPost, ↓reduceIte, Nat.reduceEqDiff, reduceCtorEq, Nat.reduceAdd, hj, hu.ia, hu.ld, *]) | (refine callR_pure (i_IsFinite_ok) (by first | exact Or.inl rfl | (simp (disch := first | assumption | omega | rfl | (refine id ?_; simp only [gxD, ne_eq, reduceCtorEq, not_false_eq_true, Nat.reduceAdd, *]; done) | (refine id ?_; simp only [gxD]; omega)) only [↓gxPre, gxPost, ↓reduceIte, Nat.reduceEqDiff, reduceCtorEq, Nat.reduceAdd, hj, hu.ia, hu.ld, *]; done)) ?_; simp (disch := first | assumption | omega | rfl | (refine id ?_; simp only [gxD, ne_eq, reduceCtorEq, not_false_eq_true, Nat.reduceAdd, *]; done) | (refine id ?_; simp only [gxD]; omega)) only [↓gxPre, gxPost, ↓reduceIte, Nat.reduceEqDiff, reduceCtorEq, Nat.reduceAdd, hj, hu.ia, hu.ld, *])))
      · rename_i h; simp only [Bool.not_eq_true'] at h
        rw [allD_false [] hi (all_false hj h)]
      · rename_i h; simp only [Bool.not_eq_false'] at h
        exact ⟨by simp, Nat.forall_lt_succ_right.2 ⟨hK, h⟩⟩
theorem i_areFinite1_ok {H : Heap} {h : Nat} {own : Bool} {ty : TypeId} {v : Value} {xs : List Nat} (hb : H.blk h = some ⟨own, ty, [v]⟩) (hh : h < H.n) (hv : FS H v xs) (hn : xs.length ≤ 2 ^ 40) :
    ACalls Try.prog n_i_areFinite [.slice (some ⟨h, 0, none⟩) 1 1] H fun r H' => r = .bool (xs.all finF) ∧ H' = H := by
  refine (i_areFinite_ok (SS.one hb hh hv) (by simp) ?_).mono ?_
  · intro j hj
    have : j = 0 := by simpa using hj
    subst this; exact hn
  · rintro _ _ ⟨rfl, rfl⟩
    simp
theorem i_areFinite2_ok {H : Heap} {h : Nat} {own : Bool} {ty : TypeId} {v u : Value} {xs ys : List Nat} (hb : H.blk h = some ⟨own, ty, [v, u]⟩) (hh : h < H.n) (hv : FS H v xs) (hu : FS H u ys) (hn : xs.length ≤ 2 ^ 40) (hm : ys.length ≤ 2 ^ 40) :
    ACalls Try.prog n_i_areFinite [.slice (some ⟨h, 0, none⟩) 2 2] H fun r H' => r = .bool (xs.all finF && ys.all finF) ∧ H' = H := by
  refine (i_areFinite_ok (SS.two hb hh hv hu) (by simp) ?_).mono ?_
  · intro j hj
    have : j = 0 ∨ j = 1 := by have : j < 2 := by simpa using hj
                               omega
    rcases this with rfl | rfl
    · exact hn
    · exact hm
  · rintro _ _ ⟨rfl, rfl⟩
    simp
theorem i_squares_ok {H : Heap} {v : Value} {xs : List Nat} (hv : FS H v xs) (hn : xs.length ≤ 2 ^ 40) :
    ACalls Try.prog n_i_squares [v] H fun r H' => r = .float .f32 (squaresF xs) ∧ H' = H := by
  refine k_i_squares.run rfl ?_
  unfold c_i_squares
  simp (disch := first | assumption | omega | rfl | (refine id ?_; simp only [gxD, ne_eq, reduceCtorEq, not_false_eq_true, Nat.reduceAdd, *]; done) | (refine id ?_; simp only [gxD]; omega)) only [↓gxPre, gxPost, ↓reduceIte, Nat.reduceEqDiff, reduceCtorEq, Nat.reduceAdd, hv.len]
  refine loop_for xs.length (fun i => [.float .f32 (foldI (fun i s => fbin .add .f32 s (fbin .mul .f32 (xs.getD i 0) (xs.getD i 0))) 0 i), v, .int .i64 xs.length, .int .i64 i]) rfl ?_ ?_
  · simp (disch := first | assumption | omega | rfl | (refine id ?_; simp only [gxD, ne_eq, reduceCtorEq, not_false_eq_true, Nat.reduceAdd, *]; done) | (refine id ?_; simp only [gxD]; omega)) only [↓gxPre, gxPost, ↓reduceIte, Nat.reduceEqDiff, reduceCtorEq, Nat.reduceAdd, Int.lt_irrefl]
    rfl
  · intro i hi
    simp (disch := first | assumption | omega | rfl | (refine id ?_; simp only [gxD, ne_eq, reduceCtorEq, not_false_eq_true, Nat.reduceAdd, *]; done) | (refine id ?_; simp only [gxD]; omega)) only [↓gxPre, gxPost, ↓reduceIte, Nat.reduceEqDiff, reduceCtorEq, Nat.reduceAdd, hv.ia, hv.ld, hi]
    simp [foldI_succ]
theorem i_size_ok {H : Heap} {x : Nat} : ACalls Try.prog n_i_size [.float .f32 x] H fun r H' => r = .float .f32 (sizeF x) ∧ H' = H := by
  refine k_i_size.run rfl ?_
  unfold c_i_size
  ((try simp (disch := first | assumption | omega | rfl | (refine id ?_; simp only [gxD, ne_eq, reduceCtorEq, not_false_eq_true, Nat.reduceAdd, *]; done) | (refine id ?_; simp only [gxD]; omega)) only [↓gxPre, gxPost, ↓reduceIte, Nat.reduceEqDiff, reduceCtorEq, Nat.reduceAdd, *]); repeat' (first | (refine grdR_split (fun _ => ?_) (fun _ => ?_) <;> simp (disch := first | assumption | omega | rfl | (refine id ?_; simp only [gxD, ne_eq, reduceCtorEq, not_false_eq_true, Nat.reduceAdd, *]; done) | (refine id ?_; simp only [gxD]; omega)) only [↓gxPre, gxPost, ↓reduceIte, Nat.reduceEqDiff, reduceCtorEq, Nat.reduceAdd, *]) | (refine condR_split (fun _ => ?_) (fun _ => ?_) <;> simp (disch := first | assumption | omega | rfl | (refine id ?_; simp only [gxD, ne_eq, reduceCtorEq, not_false_eq_true, Nat.reduceAdd, *]; done) | (refine id ?_; simp only [gxD]; omega)) only [↓gxPre, gxPost, ↓reduceIte, Nat.reduceEqDiff, reduceCtorEq, Nat.reduceAdd, *])))
  all_goals simp_all [sizeF]
theorem w_eqPair_ok {H : Heap} {v u : Value} {xs : List Nat} (hv : FS H v xs) (hu : FS H u xs) (hn : xs.length ≤ 2 ^ 40) :
    ACalls Try.prog n_w_eqPair [.agg #[v], .agg #[u]] H fun r H' => r = .bool true ∧ Ext H H' := by
  refine k_w_eqPair.run rfl ?_
  unfold c_w_eqPair
  have hv1 := hv.one
  have hu1 := hu.one
  ((try simp (disch := first | assumption | omega | rfl | (refine id ?_; simp only [gxD, ne_eq, reduceCtorEq, not_false_eq_true, Nat.reduceAdd, *]; done) | (refine id ?_; simp only [gxD]; omega)) only [↓gxPre, gxPost, ↓reduceIte, Nat.reduceEqDiff, reduceCtorEq, Nat.reduceAdd, *]); repeat' (first | (refine grdR_split (fun _ => ?_) (fun _ => ?_) <;> simp (disch := first | assumption | omega | rfl | (refine id ?_; simp only [gxD, ne_eq, reduceCtorEq, not_false_eq_true, Nat.reduceAdd, *]; done) | (refine id ?_; simp only [gxD]; omega)) only [↓gxPre, gxPost, ↓reduceIte, Nat.reduceEqDiff, reduceCtorEq, Nat.reduceAdd, *]) | (refine condR_split (fun _ => ?_) (fun _ => ?_) <;> simp (disch := first | assumption | omega | rfl | (refine id ?_; simp only [gxD, ne_eq, reduceCtorEq, not_false_eq_true, Nat.reduceAdd, *]; done) | (refine id ?_; simp only [gxD]; omega)) only [↓gxPre, gxPost, ↓reduceIte, Nat.reduceEqDiff, reduceCtorEq, Nat.reduceAdd, *]) | (refine callR_pure (w_eqFloat32S_ok (hv.ext ⟨by first | omega | (simp only [new_n, put_n]; omega) | (simp only [new_n, put_n] at *; omega), fun i hi => by simp (disch := first | assumption | omega | rfl | (refine id ?_; simp only [gxD, ne_eq, reduceCtorEq, not_false_eq_true, Nat.reduceAdd, *]; done) | (refine id ?_; simp only [gxD]; omega)) only [↓gxPre, gxPost, ↓reduceIte, Nat.reduceEqDiff, reduceCtorEq, Nat.reduceAdd, *]⟩) (hu.ext ⟨by first | omega | (simp only [new_n, put_n]; omega) | (simp only [new_n, put_n] at *; omega), fun i hi => by simp (disch := first | assumption | omega | rfl | (refine id ?_; simp only [gxD, ne_eq, reduceCtorEq, not_false_eq_true, Nat.reduceAdd, *]; done) | (refine id ?_; simp only [gxD]; omega)) only [↓gxPre, gxPost, ↓reduceIte, Nat.reduceEqDiff, reduceCtorEq, Nat.reduceAdd, *]⟩) hn) (by first | exact Or.inl rfl | (simp (disch := first | assumption | omega | rfl | (refine id ?_; simp only [gxD, ne_eq, reduceCtorEq, not_false_eq_true, Nat.reduceAdd, *]; done) | (refine id ?_; simp only [gxD]; omega)) only [↓gxPre, gxPost, ↓reduceIte, Nat.reduceEqDiff, reduceCtorEq, Nat.reduceAdd, *]; done)) ?_; simp (disch := first | assumption | omega | rfl | (refine id ?_; simp only [gxD, ne_eq, reduceCtorEq, not_false_eq_true, Nat.reduceAdd, *]; done) | (refine id ?_; simp only [gxD]; omega)) only [↓gxPre, gxPost, ↓reduceIte, Nat.reduceEqDiff, reduceCtorEq, Nat.reduceAdd, *])))
  exact ⟨by first | omega | (simp only [new_n, put_n]; omega) | (simp only [new_n, put_n] at *; omega), fun i hi => by simp (disch := first | assumption | omega | rfl | (refine id ?_; simp only [gxD, ne_eq, reduceCtorEq, not_false_eq_true, Nat.reduceAdd, *]; done) | (refine id ?_; simp only [gxD]; omega)) only [↓gxPre, gxPost, ↓reduceIte, Nat.reduceEqDiff, reduceCtorEq, Nat.reduceAdd, *]⟩
theorem w_szPair_ok {H : Heap} {v : Value} {xs : List Nat} {n : Int} (hv : FS H v xs) (h0 : 0 ≤ n) (h1 : n ≤ 1048576) (hx : xs.length ≤ 9223372036854775807) :
    ACalls Try.prog n_w_szPair [.agg #[v], .int .i64 n] H fun r H' => r = .int .i64 (if n < xs.length then -1 else n - xs.length) ∧ Ext H H' := by
  refine k_w_szPair.run rfl ?_
  unfold c_w_szPair
  have hv1 := hv.one
  by_cases hlt : n < xs.length
  · ((try simp (disch := first | assumption | omega | rfl | (refine id ?_; simp only [gxD, ne_eq, reduceCtorEq, not_false_eq_true, Nat.reduceAdd, *]; done) | (refine id ?_; simp only [gxD]; omega)) only [↓gxPre, gxPost, ↓reduceIte, Nat.reduceEqDiff, reduceCtorEq, Nat.reduceAdd, hlt, if_pos, Int.reduceLT, *]); repeat' (first | (refine grdR_split (fun _ => ?_) (fun _ => ?_) <;> simp (disch := first | assumption | omega | rfl | (refine id ?_; simp only [gxD, ne_eq, reduceCtorEq, not_false_eq_true, Nat.reduceAdd, *]; done) | (refine id ?_; simp only [gxD]; omega)) only [↓gxPre, gxPost, ↓reduceIte, Nat.reduceEqDiff, reduceCtorEq, Nat.reduceAdd, hlt, if_pos, Int.reduceLT, *]) | (refine condR_split (fun _ => ?_) (fun _ => ?_) <;> simp (disch := first | assumption | omega | rfl | (refine id ?_; simp only [gxD, ne_eq, reduceCtorEq, not_false_eq_true, Nat.reduceAdd, *]; done) | (refine id ?_; simp only [gxD]; omega)) only [↓gxPre, gxPost, ↓reduceIte, Nat.reduceEqDiff, reduceCtorEq, Nat.reduceAdd, hlt, if_pos, Int.reduceLT, *]) | (refine callR_pure (w_szFloat32S_ok (hv.ext ⟨by first | omega | (simp only [new_n, put_n]; omega) | (simp only [new_n, put_n] at *; omega), fun i hi => by simp (disch := first | assumption | omega | rfl | (refine id ?_; simp only [gxD, ne_eq, reduceCtorEq, not_false_eq_true, Nat.reduceAdd, *]; done) | (refine id ?_; simp only [gxD]; omega)) only [↓gxPre, gxPost, ↓reduceIte, Nat.reduceEqDiff, reduceCtorEq, Nat.reduceAdd, *]⟩) h0 h1 hx) (by first | exact Or.inl rfl | (simp (disch := first | assumption | omega | rfl | (refine id ?_; simp only [gxD, ne_eq, reduceCtorEq, not_false_eq_true, Nat.reduceAdd, *]; done) | (refine id ?_; simp only [gxD]; omega)) only [↓gxPre, gxPost, ↓reduceIte, Nat.reduceEqDiff, reduceCtorEq, Nat.reduceAdd, hlt, if_pos, Int.reduceLT, *]; done)) ?_; simp (disch := first | assumption | omega | rfl | (refine id ?_; simp only [gxD, ne_eq, reduceCtorEq, not_false_eq_true, Nat.reduceAdd, *]; done) | (refine id ?_; simp only [gxD]; omega)) only [↓gxPre, gxPost, ↓reduceIte, Nat.reduceEqDiff, reduceCtorEq, Nat.reduceAdd, hlt, if_pos, Int.reduceLT, *])))
    exact ⟨by first | omega | (simp only [new_n, put_n]; omega) | (simp only [new_n, put_n] at *; omega), fun i hi => by simp (disch := first | assumption | omega | rfl | (refine id ?_; simp only [gxD, ne_eq, reduceCtorEq, not_false_eq_true, Nat.reduceAdd, *]; done) | (refine id ?_; simp only [gxD]; omega)) only [↓gxPre, gxPost, ↓reduceIte, Nat.reduceEqDiff, reduceCtorEq, Nat.reduceAdd, *]⟩
  · have : ¬ (n - xs.length < 0) := by omega
    ((try simp (disch := first | assumption | omega | rfl | (refine id ?_; simp only [gxD, ne_eq, reduceCtorEq, not_false_eq_true, Nat.reduceAdd, *]; done) | (refine id ?_; simp only [gxD]; omega)) only [↓gxPre, gxPost, ↓reduceIte, Nat.reduceEqDiff, reduceCtorEq, Nat.reduceAdd, hlt, this, if_neg, not_false_eq_true, *]); repeat' (first | (refine grdR_split (fun _ => ?_) (fun _ => ?_) <;> simp (disch := first | assumption | omega | rfl | (refine id ?_; simp only [gxD, ne_eq, reduceCtorEq, not_false_eq_true, Nat.reduceAdd, *]; done) | (refine id ?_; simp only [gxD]; omega)) only [↓gxPre, gxPost, ↓reduceIte, Nat.reduceEqDiff, reduceCtorEq, Nat.reduceAdd, hlt, this, if_neg, not_false_eq_true, *]) | (refine condR_split (fun _ => ?_) (fun _ => ?_) <;> simp (disch := first | assumption | omega | rfl | (refine id ?_; simp only [gxD, ne_eq, reduceCtorEq, not_false_eq_true, Nat.reduceAdd, *]; done) | (refine id ?_; simp only [gxD]; omega)) only [↓gxPre, gxPost, ↓reduceIte, Nat.reduceEqDiff, reduceCtorEq, Nat.reduceAdd, hlt, this, if_neg, not_false_eq_true, *]) | (refine callR_pure (w_szFloat32S_ok (hv.ext ⟨by first | omega | (simp only [new_n, put_n]; omega) | (simp only [new_n, put_n] at *; omega), fun i hi => by simp (disch := first | assumption | omega | rfl | (refine id ?_; simp only [gxD, ne_eq, reduceCtorEq, not_false_eq_true, Nat.reduceAdd, *]; done) | (refine id ?_; simp only [gxD]; omega)) only [↓gxPre, gxPost, ↓reduceIte, Nat.reduceEqDiff, reduceCtorEq, Nat.reduceAdd, *]⟩) h0 h1 hx) (by first | exact Or.inl rfl | (simp (disch := first | assumption | omega | rfl | (refine id ?_; simp only [gxD, ne_eq, reduceCtorEq, not_false_eq_true, Nat.reduceAdd, *]; done) | (refine id ?_; simp only [gxD]; omega)) only [↓gxPre, gxPost, ↓reduceIte, Nat.reduceEqDiff, reduceCtorEq, Nat.reduceAdd, hlt, this, if_neg, not_false_eq_true, *]; done)) ?_; simp (disch := first | assumption | omega | rfl | (refine id ?_; simp only [gxD, ne_eq, reduceCtorEq, not_false_eq_true, Nat.reduceAdd, *]; done) | (refine id ?_; simp only [gxD]; omega)) only [↓gxPre, gxPost, ↓reduceIte, Nat.reduceEqDiff, reduceCtorEq, Nat.reduceAdd, hlt, this, if_neg, not_false_eq_true, *])))
    exact ⟨by first | omega | (simp only [new_n, put_n]; omega) | (simp only [new_n, put_n] at *; omega), fun i hi => by simp (disch := first | assumption | omega | rfl | (refine id ?_; simp only [gxD, ne_eq, reduceCtorEq, not_false_eq_true, Nat.reduceAdd, *]; done) | (refine id ?_; simp only [gxD]; omega)) only [↓gxPre, gxPost, ↓reduceIte, Nat.reduceEqDiff, reduceCtorEq, Nat.reduceAdd, *]⟩
theorem w_toPair_ok {H : Heap} {v : Value} {xs : List Nat} (hv : FS H v xs) (hn : xs.length ≤ 2 ^ 40) :
    ACalls Try.prog n_w_toPair [.agg #[v]] H fun r H' => Ext H H' ∧ ∃ h, H.n ≤ h ∧ h < H'.n ∧ r = .agg #[.slice (some ⟨h, 0, none⟩) xs.length xs.length] ∧ H'.blk h = some ⟨true, t_float32, xs.map fv⟩ := by
  refine k_w_toPair.run rfl ?_
  unfold c_w_toPair
  have hv1 := hv.one
  ((try simp (disch := first | assumption | omega | rfl | (refine id ?_; simp only [gxD, ne_eq, reduceCtorEq, not_false_eq_true, Nat.reduceAdd, *]; done) | (refine id ?_; simp only [gxD]; omega)) only [↓gxPre, gxPost, ↓reduceIte, Nat.reduceEqDiff, reduceCtorEq, Nat.reduceAdd, *]); repeat' (first | (refine grdR_split (fun _ => ?_) (fun _ => ?_) <;> simp (disch := first | assumption | omega | rfl | (refine id ?_; simp only [gxD, ne_eq, reduceCtorEq, not_false_eq_true, Nat.reduceAdd, *]; done) | (refine id ?_; simp only [gxD]; omega)) only [↓gxPre, gxPost, ↓reduceIte, Nat.reduceEqDiff, reduceCtorEq, Nat.reduceAdd, *]) | (refine condR_split (fun _ => ?_) (fun _ => ?_) <;> simp (disch := first | assumption | omega | rfl | (refine id ?_; simp only [gxD, ne_eq, reduceCtorEq, not_false_eq_true, Nat.reduceAdd, *]; done) | (refine id ?_; simp only [gxD]; omega)) only [↓gxPre, gxPost, ↓reduceIte, Nat.reduceEqDiff, reduceCtorEq, Nat.reduceAdd, *])))
  refine callR_of (w_toFloat32S_ok (hv.ext ⟨by first | omega | (simp only [new_n, put_n]; omega) | (simp only [new_n, put_n] at *; omega), fun i hi => by simp (disch := first | assumption | omega | rfl | (refine id ?_; simp only [gxD, ne_eq, reduceCtorEq, not_false_eq_true, Nat.reduceAdd, *]; done) | (refine id ?_; simp only [gxD]; omega)) only [↓gxPre, gxPost, ↓reduceIte, Nat.reduceEqDiff, reduceCtorEq, Nat.reduceAdd, *]⟩) hn) ?_
  rintro _ _ ⟨rfl, rfl⟩
  simp (disch := first | assumption | omega | rfl | (refine id ?_; simp only [gxD, ne_eq, reduceCtorEq, not_false_eq_true, Nat.reduceAdd, *]; done) | (refine id ?_; simp only [gxD]; omega)) only [↓gxPre, gxPost, ↓reduceIte, Nat.reduceEqDiff, reduceCtorEq, Nat.reduceAdd]
  exact ⟨⟨by first | omega | (simp only [new_n, put_n]; omega) | (simp only [new_n, put_n] at *; omega), fun i hi => by simp (disch := first | assumption | omega | rfl | (refine id ?_; simp only [gxD, ne_eq, reduceCtorEq, not_false_eq_true, Nat.reduceAdd, *]; done) | (refine id ?_; simp only [gxD]; omega)) only [↓gxPre, gxPost, ↓reduceIte, Nat.reduceEqDiff, reduceCtorEq, Nat.reduceAdd, *]⟩, _, by omega, by omega, rfl, by simp (disch := first | assumption | omega | rfl | (refine id ?_; simp only [gxD, ne_eq, reduceCtorEq, not_false_eq_true, Nat.reduceAdd, *]; done) | (refine id ?_; simp only [gxD]; omega)) only [↓gxPre, gxPost, ↓reduceIte, Nat.reduceEqDiff, reduceCtorEq, Nat.reduceAdd, *]⟩
theorem w_markPair_ok {H : Heap} {h n : Nat} {ty : TypeId} {l : List Value} {k : Int} (hb : H.blk h = some ⟨true, ty, l⟩) (hh : h < H.n) (hl : l.length = n) (h0 : 0 ≤ k) (h1 : k ≤ 2 ^ 61) (hn : n ≤ 2 ^ 61) :
    ACalls Try.prog n_w_markPair [.agg #[.slice (some ⟨h, 0, none⟩) n n], .int .i64 k] H fun r H' => r = .int .i64 (k + n) ∧ H.n ≤ H'.n ∧ H'.blk h = some ⟨true, ty, (List.range n).map (markF k)⟩ ∧ ∀ i, i < H.n → i ≠ h → H'.blk i = H.blk i := by
  refine k_w_markPair.run rfl ?_
  unfold c_w_markPair
  ((try simp (disch := first | assumption | omega | rfl | (refine id ?_; simp only [gxD, ne_eq, reduceCtorEq, not_false_eq_true, Nat.reduceAdd, *]; done) | (refine id ?_; simp only [gxD]; omega)) only [↓gxPre, gxPost, ↓reduceIte, Nat.reduceEqDiff, reduceCtorEq, Nat.reduceAdd, *]); repeat' (first | (refine grdR_split (fun _ => ?_) (fun _ => ?_) <;> simp (disch := first | assumption | omega | rfl | (refine id ?_; simp only [gxD, ne_eq, reduceCtorEq, not_false_eq_true, Nat.reduceAdd, *]; done) | (refine id ?_; simp only [gxD]; omega)) only [↓gxPre, gxPost, ↓reduceIte, Nat.reduceEqDiff, reduceCtorEq, Nat.reduceAdd, *]) | (refine condR_split (fun _ => ?_) (fun _ => ?_) <;> simp (disch := first | assumption | omega | rfl | (refine id ?_; simp only [gxD, ne_eq, reduceCtorEq, not_false_eq_true, Nat.reduceAdd, *]; done) | (refine id ?_; simp only [gxD]; omega)) only [↓gxPre, gxPost, ↓reduceIte, Nat.reduceEqDiff, reduceCtorEq, Nat.reduceAdd, *])))
  refine callR_of (w_markFloat32S_ok (ty := ty) (l := l) (by simp (disch := first | assumption | omega | rfl | (refine id ?_; simp only [gxD, ne_eq, reduceCtorEq, not_false_eq_true, Nat.reduceAdd, *]; done) | (refine id ?_; simp only [gxD]; omega)) only [↓gxPre, gxPost, ↓reduceIte, Nat.reduceEqDiff, reduceCtorEq, Nat.reduceAdd, *]) hl h0 h1 hn) ?_
  rintro _ _ ⟨rfl, rfl⟩
  simp (disch := first | assumption | omega | rfl | (refine id ?_; simp only [gxD, ne_eq, reduceCtorEq, not_false_eq_true, Nat.reduceAdd, *]; done) | (refine id ?_; simp only [gxD]; omega)) only [↓gxPre, gxPost, ↓reduceIte, Nat.reduceEqDiff, reduceCtorEq, Nat.reduceAdd]
  refine ⟨by omega, fun i hi hne => ?_⟩
  simp (disch := first | assumption | omega | rfl | (refine id ?_; simp only [gxD, ne_eq, reduceCtorEq, not_false_eq_true, Nat.reduceAdd, *]; done) | (refine id ?_; simp only [gxD]; omega)) only [↓gxPre, gxPost, ↓reduceIte, Nat.reduceEqDiff, reduceCtorEq, Nat.reduceAdd, *]
end Go.Proofs.Ytkojmlpaamdhoae

namespace Go.Proofs.Ytkojmlpaamdhoae
open Go.Gx
set_option maxRecDepth 100000
set_option linter.unusedSimpArgs false
set_option linter.unusedVariables false

theorem s_l03Pair_ok {H : Heap} {h : Nat} {o : Bool} {ty : TypeId} {v : Value} {xs : List Nat} (hb : H.blk h = some ⟨o, ty, [v]⟩) (hv : FS H v xs) (hn : xs.length ≤ 2 ^ 40) :
    ACalls Try.prog n_s_l03Pair [.pointer (some ⟨h, 0, some 1⟩)] H fun r H' => r = .bool (validPairF xs) ∧ H' = H := by
  refine k_s_l03Pair.run rfl ?_
  unfold c_s_l03Pair
  by_cases h1 : 2 ≤ xs.length ∧ xs.length ≤ 8
  rotate_left
  · have h2 : within xs.length 2 8 = false := by
      simp only [within, Bool.and_eq_false_iff, decide_eq_false_iff_not]; omega
    by_cases h3 : (xs.length : Int) < 2
    · simp (disch := first | assumption | omega | rfl | (refine id ?_; simp only [gxD, ne_eq, reduceCtorEq, not_false_eq_true, Nat.reduceAdd, *]; done) | (refine id ?_; simp only [gxD]; omega)) only [↓gxPre, gxPost, ↓reduceIte, Nat.reduceEqDiff, reduceCtorEq, Nat.reduceAdd, *, hv.len]
      simp [validPairF, h2]
    · have h4 : (8 : Int) < xs.length := by omega
      simp (disch := first | assumption | omega | rfl | (refine id ?_; simp only [gxD, ne_eq, reduceCtorEq, not_false_eq_true, Nat.reduceAdd, *]; done) | (refine id ?_; simp only [gxD]; omega)) only [↓gxPre, gxPost, ↓reduceIte, Nat.reduceEqDiff, reduceCtorEq, Nat.reduceAdd, *, hv.len]
      simp [validPairF, h2]
  have h2 : within xs.length 2 8 = true := within_true.2 (by omega)
  by_cases h3 : xs.length % 2 = 0
  rotate_left
  · have h4 : ¬ ((xs.length % 2 : Nat) : Int) = 0 := by omega
    simp (disch := first | assumption | omega | rfl | (refine id ?_; simp only [gxD, ne_eq, reduceCtorEq, not_false_eq_true, Nat.reduceAdd, *]; done) | (refine id ?_; simp only [gxD]; omega)) only [↓gxPre, gxPost, ↓reduceIte, Nat.reduceEqDiff, reduceCtorEq, Nat.reduceAdd, *, hv.len, tmod2, ne_eq, not_false_eq_true]
    simp [validPairF, h3]
  have h4 : ((xs.length % 2 : Nat) : Int) = 0 := by omega
  simp (disch := first | assumption | omega | rfl | (refine id ?_; simp only [gxD, ne_eq, reduceCtorEq, not_false_eq_true, Nat.reduceAdd, *]; done) | (refine id ?_; simp only [gxD]; omega)) only [↓gxPre, gxPost, ↓reduceIte, Nat.reduceEqDiff, reduceCtorEq, Nat.reduceAdd, *, hv.len, tmod2, ne_eq, not_true]
  refine callR_pure (s_l02Finite_ok hv hn) (.inl rfl) ?_
  cases hf : xs.all finF
  · simp (disch := first | assumption | omega | rfl | (refine id ?_; simp only [gxD, ne_eq, reduceCtorEq, not_false_eq_true, Nat.reduceAdd, *]; done) | (refine id ?_; simp only [gxD]; omega)) only [↓gxPre, gxPost, ↓reduceIte, Nat.reduceEqDiff, reduceCtorEq, Nat.reduceAdd]
    simp [validPairF, hf]
  simp (disch := first | assumption | omega | rfl | (refine id ?_; simp only [gxD, ne_eq, reduceCtorEq, not_false_eq_true, Nat.reduceAdd, *]; done) | (refine id ?_; simp only [gxD]; omega)) only [↓gxPre, gxPost, ↓reduceIte, Nat.reduceEqDiff, reduceCtorEq, Nat.reduceAdd]
  refine loop_forH (xs.length / 2) (fun j => [.pointer (some ⟨h, 0, some 1⟩), .int .i64 xs.length, .int .i64 ((2 * j : Nat) : Int)]) (fun j H' => H = H' ∧ ∀ i, i < j → chkP xs i = true) (by simp) ⟨rfl, by intros; omega⟩ ?_ ?_
  · rintro _ ⟨rfl, hJ⟩
    have h5 : ¬ (((2 * (xs.length / 2) : Nat) : Int) < xs.length) := by omega
    simp (disch := first | assumption | omega | rfl | (refine id ?_; simp only [gxD, ne_eq, reduceCtorEq, not_false_eq_true, Nat.reduceAdd, *]; done) | (refine id ?_; simp only [gxD]; omega)) only [↓gxPre, gxPost, ↓reduceIte, Nat.reduceEqDiff, reduceCtorEq, Nat.reduceAdd, *]
    simp [validPairF, h2, h3, hf]
    exact hJ
  · rintro j _ hj ⟨rfl, hJ⟩
    have h5 : ((2 * j : Nat) : Int) < xs.length := by omega
    simp (disch := first | assumption | omega | rfl | (refine id ?_; simp only [gxD, ne_eq, reduceCtorEq, not_false_eq_true, Nat.reduceAdd, *]; done) | (refine id ?_; simp only [gxD]; omega)) only [↓gxPre, gxPost, ↓reduceIte, Nat.reduceEqDiff, reduceCtorEq, Nat.reduceAdd, *]
    refine loop_for (xs.length - 2 * j) (fun k => [.pointer (some ⟨h, 0, some 1⟩), .int .i64 xs.length, .int .i64 ((2 * j : Nat) : Int), .float .f32 (corrK xs (2 * j) k), .int .i64 k]) (by simp [corrK, foldI_zero]) ?_ ?_
    · have h6 : ¬ (((xs.length - 2 * j : Nat) : Int) + ((2 * j : Nat) : Int) < xs.length) := by omega
      by_cases h7 : j = 0
      · subst h7
        ((try simp (disch := first | assumption | omega | rfl | (refine id ?_; simp only [gxD, ne_eq, reduceCtorEq, not_false_eq_true, Nat.reduceAdd, *]; done) | (refine id ?_; simp only [gxD]; omega)) only [↓gxPre, gxPost, ↓reduceIte, Nat.reduceEqDiff, reduceCtorEq, Nat.reduceAdd, hv.len, *]); repeat' (first | (refine grdR_split (fun _ => ?_) (fun _ => ?_) <;> simp (disch := first | assumption | omega | rfl | (refine id ?_; simp only [gxD, ne_eq, reduceCtorEq, not_false_eq_true, Nat.reduceAdd, *]; done) | (refine id ?_; simp only [gxD]; omega)) only [↓gxPre, gxPost, ↓reduceIte, Nat.reduceEqDiff, reduceCtorEq, Nat.reduceAdd, hv.len, *]) | (refine condR_split (fun _ => ?_) (fun _ => ?_) <;> simp (disch := first | assumption | omega | rfl | (refine id ?_; simp only [gxD, ne_eq, reduceCtorEq, not_false_eq_true, Nat.reduceAdd, *]; done) | (refine id ?_; simp only [gxD]; omega)) only [↓gxPre, gxPost, ↓reduceIte, Nat.reduceEqDiff, reduceCtorEq, Nat.reduceAdd, hv.len, *])))
        · rw [vp_false hj (by simp_all [chkP, okSum])]
        · exact ⟨by simp, Nat.forall_lt_succ_right.2 ⟨hJ, by simp_all [chkP, okSum]⟩⟩
        · rw [vp_false hj (by simp_all [chkP, okSum])]
      · have h8 : ¬ (((2 * j : Nat) : Int) = 0) := by omega
        ((try simp (disch := first | assumption | omega | rfl | (refine id ?_; simp only [gxD, ne_eq, reduceCtorEq, not_false_eq_true, Nat.reduceAdd, *]; done) | (refine id ?_; simp only [gxD]; omega)) only [↓gxPre, gxPost, ↓reduceIte, Nat.reduceEqDiff, reduceCtorEq, Nat.reduceAdd, hv.len, *]); repeat' (first | (refine grdR_split (fun _ => ?_) (fun _ => ?_) <;> simp (disch := first | assumption | omega | rfl | (refine id ?_; simp only [gxD, ne_eq, reduceCtorEq, not_false_eq_true, Nat.reduceAdd, *]; done) | (refine id ?_; simp only [gxD]; omega)) only [↓gxPre, gxPost, ↓reduceIte, Nat.reduceEqDiff, reduceCtorEq, Nat.reduceAdd, hv.len, *]) | (refine condR_split (fun _ => ?_) (fun _ => ?_) <;> simp (disch := first | assumption | omega | rfl | (refine id ?_; simp only [gxD, ne_eq, reduceCtorEq, not_false_eq_true, Nat.reduceAdd, *]; done) | (refine id ?_; simp only [gxD]; omega)) only [↓gxPre, gxPost, ↓reduceIte, Nat.reduceEqDiff, reduceCtorEq, Nat.reduceAdd, hv.len, *])))
        · rw [vp_false hj (by simp_all [chkP, okSum])]
        · exact ⟨by simp; omega, Nat.forall_lt_succ_right.2 ⟨hJ, by simp_all [chkP, okSum]⟩⟩
        · rw [vp_false hj (by simp_all [chkP, okSum])]
    · intro k hk
      have h6 : ((k : Int) + ((2 * j : Nat) : Int) < xs.length) := by omega
      have h9 : (((k : Int) + ((2 * j : Nat) : Int)).toNat) = k + 2 * j := by omega
      simp (disch := first | assumption | omega | rfl | (refine id ?_; simp only [gxD, ne_eq, reduceCtorEq, not_false_eq_true, Nat.reduceAdd, *]; done) | (refine id ?_; simp only [gxD]; omega)) only [↓gxPre, gxPost, ↓reduceIte, Nat.reduceEqDiff, reduceCtorEq, Nat.reduceAdd, *, hv.ia, hv.ld]
      simp [corrK, foldI_succ]
theorem i_ValidPair_ok {H : Heap} {v : Value} {xs : List Nat} (hv : FS H v xs) (hn : xs.length ≤ 2 ^ 40) :
    ACalls Try.prog n_i_ValidPair [.agg #[v]] H fun r H' => r = .bool (validPairF xs) ∧ Ext H H' := by
  refine k_i_ValidPair.run rfl ?_
  unfold c_i_ValidPair
  have hv1 := hv.one
  cases h2 : within xs.length 2 8
  · simp (disch := first | assumption | omega | rfl | (refine id ?_; simp only [gxD, ne_eq, reduceCtorEq, not_false_eq_true, Nat.reduceAdd, *]; done) | (refine id ?_; simp only [gxD]; omega)) only [↓gxPre, gxPost, ↓reduceIte, Nat.reduceEqDiff, reduceCtorEq, Nat.reduceAdd, hv.len]
    refine callR_pure i_within_ok (.inl rfl) ?_
    simp (disch := first | assumption | omega | rfl | (refine id ?_; simp only [gxD, ne_eq, reduceCtorEq, not_false_eq_true, Nat.reduceAdd, *]; done) | (refine id ?_; simp only [gxD]; omega)) only [↓gxPre, gxPost, ↓reduceIte, Nat.reduceEqDiff, reduceCtorEq, Nat.reduceAdd, h2]
    exact ⟨by simp [validPairF, h2], ⟨by first | omega | (simp only [new_n, put_n]; omega) | (simp only [new_n, put_n] at *; omega), fun i hi => by simp (disch := first | assumption | omega | rfl | (refine id ?_; simp only [gxD, ne_eq, reduceCtorEq, not_false_eq_true, Nat.reduceAdd, *]; done) | (refine id ?_; simp only [gxD]; omega)) only [↓gxPre, gxPost, ↓reduceIte, Nat.reduceEqDiff, reduceCtorEq, Nat.reduceAdd, *]⟩⟩
  have h1 := within_true.1 h2
  by_cases h3 : xs.length % 2 = 0
  rotate_left
  · have h4 : ((xs.length % 2 : Nat) : Int) = 1 := by omega
    simp (disch := first | assumption | omega | rfl | (refine id ?_; simp only [gxD, ne_eq, reduceCtorEq, not_false_eq_true, Nat.reduceAdd, *]; done) | (refine id ?_; simp only [gxD]; omega)) only [↓gxPre, gxPost, ↓reduceIte, Nat.reduceEqDiff, reduceCtorEq, Nat.reduceAdd, hv.len]
    refine callR_pure i_within_ok (.inl rfl) ?_
    simp (disch := first | assumption | omega | rfl | (refine id ?_; simp only [gxD, ne_eq, reduceCtorEq, not_false_eq_true, Nat.reduceAdd, *]; done) | (refine id ?_; simp only [gxD]; omega)) only [↓gxPre, gxPost, ↓reduceIte, Nat.reduceEqDiff, reduceCtorEq, Nat.reduceAdd, h2, tmod2, h4]
    exact ⟨by simp [validPairF, h3], ⟨by first | omega | (simp only [new_n, put_n]; omega) | (simp only [new_n, put_n] at *; omega), fun i hi => by simp (disch := first | assumption | omega | rfl | (refine id ?_; simp only [gxD, ne_eq, reduceCtorEq, not_false_eq_true, Nat.reduceAdd, *]; done) | (refine id ?_; simp only [gxD]; omega)) only [↓gxPre, gxPost, ↓reduceIte, Nat.reduceEqDiff, reduceCtorEq, Nat.reduceAdd, *]⟩⟩
  have h4 : ((xs.length % 2 : Nat) : Int) = 0 := by omega
  simp (disch := first | assumption | omega | rfl | (refine id ?_; simp only [gxD, ne_eq, reduceCtorEq, not_false_eq_true, Nat.reduceAdd, *]; done) | (refine id ?_; simp only [gxD]; omega)) only [↓gxPre, gxPost, ↓reduceIte, Nat.reduceEqDiff, reduceCtorEq, Nat.reduceAdd, hv.len]
  refine callR_pure i_within_ok (.inl rfl) ?_
  simp (disch := first | assumption | omega | rfl | (refine id ?_; simp only [gxD, ne_eq, reduceCtorEq, not_false_eq_true, Nat.reduceAdd, *]; done) | (refine id ?_; simp only [gxD]; omega)) only [↓gxPre, gxPost, ↓reduceIte, Nat.reduceEqDiff, reduceCtorEq, Nat.reduceAdd, h2, tmod2, h4, hv.len]
  have e : Ext H ((H.new ⟨true, t_Pair, [v]⟩).new ⟨true, t_sfloat32, [v]⟩) := ⟨by first | omega | (simp only [new_n, put_n]; omega) | (simp only [new_n, put_n] at *; omega), fun i hi => by simp (disch := first | assumption | omega | rfl | (refine id ?_; simp only [gxD, ne_eq, reduceCtorEq, not_false_eq_true, Nat.reduceAdd, *]; done) | (refine id ?_; simp only [gxD]; omega)) only [↓gxPre, gxPost, ↓reduceIte, Nat.reduceEqDiff, reduceCtorEq, Nat.reduceAdd, *]⟩
  refine callR_pure (i_areFinite1_ok (by simp (disch := first | assumption | omega | rfl | (refine id ?_; simp only [gxD, ne_eq, reduceCtorEq, not_false_eq_true, Nat.reduceAdd, *]; done) | (refine id ?_; simp only [gxD]; omega)) only [↓gxPre, gxPost, ↓reduceIte, Nat.reduceEqDiff, reduceCtorEq, Nat.reduceAdd, *]; rfl) (by first | omega | (simp only [new_n, put_n]; omega)) (hv.ext ⟨by first | omega | (simp only [new_n, put_n]; omega) | (simp only [new_n, put_n] at *; omega), fun i hi => by simp (disch := first | assumption | omega | rfl | (refine id ?_; simp only [gxD, ne_eq, reduceCtorEq, not_false_eq_true, Nat.reduceAdd, *]; done) | (refine id ?_; simp only [gxD]; omega)) only [↓gxPre, gxPost, ↓reduceIte, Nat.reduceEqDiff, reduceCtorEq, Nat.reduceAdd, *]⟩) hn) (.inl rfl) ?_
  cases hf : xs.all finF
  · simp (disch := first | assumption | omega | rfl | (refine id ?_; simp only [gxD, ne_eq, reduceCtorEq, not_false_eq_true, Nat.reduceAdd, *]; done) | (refine id ?_; simp only [gxD]; omega)) only [↓gxPre, gxPost, ↓reduceIte, Nat.reduceEqDiff, reduceCtorEq, Nat.reduceAdd]
    exact ⟨by simp [validPairF, hf], ⟨by first | omega | (simp only [new_n, put_n]; omega) | (simp only [new_n, put_n] at *; omega), fun i hi => by simp (disch := first | assumption | omega | rfl | (refine id ?_; simp only [gxD, ne_eq, reduceCtorEq, not_false_eq_true, Nat.reduceAdd, *]; done) | (refine id ?_; simp only [gxD]; omega)) only [↓gxPre, gxPost, ↓reduceIte, Nat.reduceEqDiff, reduceCtorEq, Nat.reduceAdd, *]⟩⟩
  have hn0 : 0 < xs.length / 2 := by omega
  simp (disch := first | assumption | omega | rfl | (refine id ?_; simp only [gxD, ne_eq, reduceCtorEq, not_false_eq_true, Nat.reduceAdd, *]; done) | (refine id ?_; simp only [gxD]; omega)) only [↓gxPre, gxPost, ↓reduceIte, Nat.reduceEqDiff, reduceCtorEq, Nat.reduceAdd]
  refine callR_pure (i_squares_ok (hv.ext ⟨by first | omega | (simp only [new_n, put_n]; omega) | (simp only [new_n, put_n] at *; omega), fun i hi => by simp (disch := first | assumption | omega | rfl | (refine id ?_; simp only [gxD, ne_eq, reduceCtorEq, not_false_eq_true, Nat.reduceAdd, *]; done) | (refine id ?_; simp only [gxD]; omega)) only [↓gxPre, gxPost, ↓reduceIte, Nat.reduceEqDiff, reduceCtorEq, Nat.reduceAdd, *]⟩) hn) (.inl rfl) ?_
  simp (disch := first | assumption | omega | rfl | (refine id ?_; simp only [gxD, ne_eq, reduceCtorEq, not_false_eq_true, Nat.reduceAdd, *]; done) | (refine id ?_; simp only [gxD]; omega)) only [↓gxPre, gxPost, ↓reduceIte, Nat.reduceEqDiff, reduceCtorEq, Nat.reduceAdd]
  refine callR_pure i_size_ok (.inl rfl) ?_
  simp (disch := first | assumption | omega | rfl | (refine id ?_; simp only [gxD, ne_eq, reduceCtorEq, not_false_eq_true, Nat.reduceAdd, *]; done) | (refine id ?_; simp only [gxD]; omega)) only [↓gxPre, gxPost, ↓reduceIte, Nat.reduceEqDiff, reduceCtorEq, Nat.reduceAdd, size_le]
  cases h0 : chkP xs 0
  · have h0' : (fcB .leq .f32 (fbin .sub .f32 (squaresF xs) 1065353216) 981668463 && fcB .geq .f32 (fbin .sub .f32 (squaresF xs) 1065353216) 3129152111) = false := by simpa [chkP, okSum, corr_squares] using h0
    simp (disch := first | assumption | omega | rfl | (refine id ?_; simp only [gxD, ne_eq, reduceCtorEq, not_false_eq_true, Nat.reduceAdd, *]; done) | (refine id ?_; simp only [gxD]; omega)) only [↓gxPre, gxPost, ↓reduceIte, Nat.reduceEqDiff, reduceCtorEq, Nat.reduceAdd, h0']
    exact ⟨by rw [vp_false hn0 h0], ⟨by first | omega | (simp only [new_n, put_n]; omega) | (simp only [new_n, put_n] at *; omega), fun i hi => by simp (disch := first | assumption | omega | rfl | (refine id ?_; simp only [gxD, ne_eq, reduceCtorEq, not_false_eq_true, Nat.reduceAdd, *]; done) | (refine id ?_; simp only [gxD]; omega)) only [↓gxPre, gxPost, ↓reduceIte, Nat.reduceEqDiff, reduceCtorEq, Nat.reduceAdd, *]⟩⟩
  have h0' : (fcB .leq .f32 (fbin .sub .f32 (squaresF xs) 1065353216) 981668463 && fcB .geq .f32 (fbin .sub .f32 (squaresF xs) 1065353216) 3129152111) = true := by simpa [chkP, okSum, corr_squares] using h0
  simp (disch := first | assumption | omega | rfl | (refine id ?_; simp only [gxD, ne_eq, reduceCtorEq, not_false_eq_true, Nat.reduceAdd, *]; done) | (refine id ?_; simp only [gxD]; omega)) only [↓gxPre, gxPost, ↓reduceIte, Nat.reduceEqDiff, reduceCtorEq, Nat.reduceAdd, h0']
  have hb : ((H.new ⟨true, t_Pair, [v]⟩).new ⟨true, t_sfloat32, [v]⟩).blk H.n = some ⟨true, t_Pair, [v]⟩ := by simp (disch := first | assumption | omega | rfl | (refine id ?_; simp only [gxD, ne_eq, reduceCtorEq, not_false_eq_true, Nat.reduceAdd, *]; done) | (refine id ?_; simp only [gxD]; omega)) only [↓gxPre, gxPost, ↓reduceIte, Nat.reduceEqDiff, reduceCtorEq, Nat.reduceAdd]
  have hw := hv.ext e
  have hJ0 : ∀ i, i < 0 + 1 → chkP xs i = true := by
    intro i hi
    have : i = 0 := by omega
    subst this; exact h0
  generalize ((H.new ⟨true, t_Pair, [v]⟩).new ⟨true, t_sfloat32, [v]⟩) = G at hb hw e ⊢
  refine loop_forH (xs.length / 2 - 1) (fun j => [.pointer (some ⟨H.n, 0, some 1⟩), .int .i64 xs.length, .int .i64 ((2 * (j + 1) : Nat) : Int)]) (fun j H' => G = H' ∧ ∀ i, i < j + 1 → chkP xs i = true) (by simp) ⟨rfl, hJ0⟩ ?_ ?_
  · rintro _ ⟨rfl, hJ⟩
    have h5 : ¬ (((2 * (xs.length / 2 - 1 + 1) : Nat) : Int) < xs.length) := by omega
    have h6 : xs.length / 2 - 1 + 1 = xs.length / 2 := by omega
    simp (disch := first | assumption | omega | rfl | (refine id ?_; simp only [gxD, ne_eq, reduceCtorEq, not_false_eq_true, Nat.reduceAdd, *]; done) | (refine id ?_; simp only [gxD]; omega)) only [↓gxPre, gxPost, ↓reduceIte, Nat.reduceEqDiff, reduceCtorEq, Nat.reduceAdd, *]
    rw [h6] at hJ
    simp [validPairF, h2, h3, hf]
    exact hJ
  · rintro j _ hj ⟨rfl, hJ⟩
    have hj1 : j + 1 < xs.length / 2 := by omega
    have h5 : ((2 * (j + 1) : Nat) : Int) < xs.length := by omega
    simp (disch := first | assumption | omega | rfl | (refine id ?_; simp only [gxD, ne_eq, reduceCtorEq, not_false_eq_true, Nat.reduceAdd, *]; done) | (refine id ?_; simp only [gxD]; omega)) only [↓gxPre, gxPost, ↓reduceIte, Nat.reduceEqDiff, reduceCtorEq, Nat.reduceAdd, *]
    refine loop_for (xs.length - 2 * (j + 1)) (fun k => [.pointer (some ⟨H.n, 0, some 1⟩), .int .i64 xs.length, .int .i64 ((2 * (j + 1) : Nat) : Int), .float .f32 (corrK xs (2 * (j + 1)) k), .int .i64 k]) (by simp [corrK, foldI_zero]) ?_ ?_
    · have h6 : ¬ (((xs.length - 2 * (j + 1) : Nat) : Int) + ((2 * (j + 1) : Nat) : Int) < xs.length) := by omega
      simp (disch := first | assumption | omega | rfl | (refine id ?_; simp only [gxD, ne_eq, reduceCtorEq, not_false_eq_true, Nat.reduceAdd, *]; done) | (refine id ?_; simp only [gxD]; omega)) only [↓gxPre, gxPost, ↓reduceIte, Nat.reduceEqDiff, reduceCtorEq, Nat.reduceAdd, hw.len]
      refine callR_pure i_size_ok (.inl rfl) ?_
      simp (disch := first | assumption | omega | rfl | (refine id ?_; simp only [gxD, ne_eq, reduceCtorEq, not_false_eq_true, Nat.reduceAdd, *]; done) | (refine id ?_; simp only [gxD]; omega)) only [↓gxPre, gxPost, ↓reduceIte, Nat.reduceEqDiff, reduceCtorEq, Nat.reduceAdd, size_le]
      have hk : chkP xs (j + 1) = (fcB .leq .f32 (corrK xs (2 * (j + 1)) (xs.length - 2 * (j + 1))) 981668463 && fcB .geq .f32 (corrK xs (2 * (j + 1)) (xs.length - 2 * (j + 1))) 3129152111) := by simp [chkP, okSum]
      rw [← hk]
      cases hc : chkP xs (j + 1)
      · simp (disch := first | assumption | omega | rfl | (refine id ?_; simp only [gxD, ne_eq, reduceCtorEq, not_false_eq_true, Nat.reduceAdd, *]; done) | (refine id ?_; simp only [gxD]; omega)) only [↓gxPre, gxPost, ↓reduceIte, Nat.reduceEqDiff, reduceCtorEq, Nat.reduceAdd]
        exact ⟨by rw [vp_false hj1 hc], e⟩
      · simp (disch := first | assumption | omega | rfl | (refine id ?_; simp only [gxD, ne_eq, reduceCtorEq, not_false_eq_true, Nat.reduceAdd, *]; done) | (refine id ?_; simp only [gxD]; omega)) only [↓gxPre, gxPost, ↓reduceIte, Nat.reduceEqDiff, reduceCtorEq, Nat.reduceAdd]
        exact ⟨by simp; omega, Nat.forall_lt_succ_right.2 ⟨hJ, hc⟩⟩
    · intro k hk
      have h6 : ((k : Int) + ((2 * (j + 1) : Nat) : Int) < xs.length) := by omega
      have h9 : (((k : Int) + ((2 * (j + 1) : Nat) : Int)).toNat) = k + 2 * (j + 1) := by omega
      simp (disch := first | assumption | omega | rfl | (refine id ?_; simp only [gxD, ne_eq, reduceCtorEq, not_false_eq_true, Nat.reduceAdd, *]; done) | (refine id ?_; simp only [gxD]; omega)) only [↓gxPre, gxPost, ↓reduceIte, Nat.reduceEqDiff, reduceCtorEq, Nat.reduceAdd, *, hw.ia, hw.ld]
      simp [corrK, foldI_succ]
end Go.Proofs.Ytkojmlpaamdhoae

namespace Go.Proofs.Ytkojmlpaamdhoae
open Go.Gx
set_option maxRecDepth 100000
set_option linter.unusedSimpArgs false
set_option linter.unusedVariables false

theorem acalls_ext {P : Program} {f : FuncId} {args : List Value} {H : Heap} {v : Value} (h : ACalls P f args H fun r H' => r = v ∧ H' = H) : ACalls P f args H fun r H' => r = v ∧ Ext H H' :=
  h.mono (by rintro _ _ ⟨rfl, rfl⟩; exact ⟨rfl, .refl _⟩)
theorem w_markFloat32S_ow {lo hi : Nat} {H : Heap} {ty : TypeId} {v : Value} {l : List Value} {k : Int} (o : OwL lo hi H ty v l) (h0 : 0 ≤ k) (h1 : k ≤ 2 ^ 61) (hn : l.length ≤ 2 ^ 61) :
    ACalls Try.prog n_w_markFloat32S [v, .int .i64 k] H fun r H' => r = .int .i64 (k + l.length) ∧ OwL lo hi H' ty v ((List.range l.length).map (markF k)) ∧ Fr v H H' := by
  rcases o with ⟨rfl, rfl⟩ | ⟨h, rfl, g1, g2, g3, hb⟩
  · refine w_markFloat32S_nil.mono ?_
    rintro _ _ ⟨rfl, rfl⟩
    exact ⟨by simp, .nil, .refl _ _⟩
  · refine (w_markFloat32S_ok hb rfl h0 h1 hn).mono ?_
    rintro _ _ ⟨rfl, rfl⟩
    exact ⟨rfl, .mk (hput_self _ _ _) (by simp) g1 g2 (by rw [put_n]; exact g3), ⟨rfl, fun i hi => hput_other _ _ _ _ fun e => hi (by rw [e]; rfl)⟩⟩
theorem w_heldFloat32S_ow {lo hi n : Nat} {H : Heap} {ty : TypeId} {v : Value} {k : Int} (o : OwL lo hi H ty v ((List.range n).map (markF k))) (h0 : 0 ≤ k) (h1 : k ≤ 2 ^ 61) (hn : n ≤ 2 ^ 61) :
    ACalls Try.prog n_w_heldFloat32S [v, .int .i64 k] H fun r H' => r = .int .i64 (k + n) ∧ Ext H H' := by
  rcases o with ⟨rfl, e⟩ | ⟨h, rfl, g1, g2, g3, hb⟩
  · have : n = 0 := by simpa using e
    subst this
    refine (acalls_ext w_heldFloat32S_nil).mono ?_
    rintro _ _ ⟨rfl, e⟩
    exact ⟨by simp, e⟩
  · have := acalls_ext (w_heldFloat32S_ok (n := n) hb h0 h1 hn)
    simpa using this
theorem w_toFloat32S_ow {H : Heap} {v : Value} {xs : List Nat} (hv : FS H v xs) (hn : xs.length ≤ 2 ^ 40) :
    ACalls Try.prog n_w_toFloat32S [v] H fun r H' => Ext H H' ∧ OwL H.n H'.n H' t_float32 r (xs.map fv) := by
  refine (w_toFloat32S_ok hv hn).mono ?_
  rintro _ _ ⟨rfl, rfl⟩
  exact ⟨.new _ _, .mk (new_self _ _) (by simp) (Nat.le_refl _) (by simp [new_n]) (by simp [new_n])⟩
theorem w_eqFloat32S_ow {H : Heap} {v u : Value} {xs : List Nat} (hv : FS H v xs) (hu : FS H u xs) (hn : xs.length ≤ 2 ^ 40) :
    ACalls Try.prog n_w_eqFloat32S [v, u] H fun r H' => r = .bool true ∧ Ext H H' := acalls_ext (w_eqFloat32S_ok hv hu hn)
theorem w_toPair_ow {H : Heap} {v : Value} {xs : List Nat} (hv : FS H v xs) (hn : xs.length ≤ 2 ^ 40) :
    ACalls Try.prog n_w_toPair [.agg #[v]] H fun r H' => Ext H H' ∧ ∃ u, r = .agg #[u] ∧ OwL H.n H'.n H' t_float32 u (xs.map fv) := by
  refine (w_toPair_ok hv hn).mono ?_
  rintro _ H' ⟨e, h, h1, h2, rfl, hb⟩
  exact ⟨e, _, rfl, .mk hb (by simp) h1 h2 h2⟩
theorem w_eqPair_ow {H : Heap} {v u : Value} {xs : List Nat} (hv : FS H v xs) (hu : FS H u xs) (hn : xs.length ≤ 2 ^ 40) :
    ACalls Try.prog n_w_eqPair [.agg #[v], .agg #[u]] H fun r H' => r = .bool true ∧ Ext H H' := w_eqPair_ok hv hu hn
theorem w_szPair_ow {H : Heap} {v : Value} {xs : List Nat} {n : Int} (hv : FS H v xs) (h0 : 0 ≤ n) (h1 : n ≤ 1048576) (hx : xs.length ≤ 9223372036854775807) :
    ACalls Try.prog n_w_szPair [.agg #[v], .int .i64 n] H fun r H' => r = .int .i64 (if n < xs.length then -1 else n - xs.length) ∧ Ext H H' := w_szPair_ok hv h0 h1 hx
theorem w_markPair_ow {lo hi : Nat} {H : Heap} {ty : TypeId} {v : Value} {l : List Value} {k : Int} (o : OwL lo hi H ty v l) (h0 : 0 ≤ k) (h1 : k ≤ 2 ^ 61) (hn : l.length ≤ 2 ^ 61) :
    ACalls Try.prog n_w_markPair [.agg #[v], .int .i64 k] H fun r H' => r = .int .i64 (k + l.length) ∧ OwL lo hi H' ty v ((List.range l.length).map (markF k)) ∧ Off lo hi H H' := by
  refine k_w_markPair.run rfl ?_
  unfold c_w_markPair
  have hv1 := o.one
  ((try simp (disch := first | assumption | omega | rfl | (refine id ?_; simp only [gxD, ne_eq, reduceCtorEq, not_false_eq_true, Nat.reduceAdd, *]; done) | (refine id ?_; simp only [gxD]; omega)) only [↓gxPre, gxPost, ↓reduceIte, Nat.reduceEqDiff, reduceCtorEq, Nat.reduceAdd, *]); repeat' (first | (refine grdR_split (fun _ => ?_) (fun _ => ?_) <;> simp (disch := first | assumption | omega | rfl | (refine id ?_; simp only [gxD, ne_eq, reduceCtorEq, not_false_eq_true, Nat.reduceAdd, *]; done) | (refine id ?_; simp only [gxD]; omega)) only [↓gxPre, gxPost, ↓reduceIte, Nat.reduceEqDiff, reduceCtorEq, Nat.reduceAdd, *]) | (refine condR_split (fun _ => ?_) (fun _ => ?_) <;> simp (disch := first | assumption | omega | rfl | (refine id ?_; simp only [gxD, ne_eq, reduceCtorEq, not_false_eq_true, Nat.reduceAdd, *]; done) | (refine id ?_; simp only [gxD]; omega)) only [↓gxPre, gxPost, ↓reduceIte, Nat.reduceEqDiff, reduceCtorEq, Nat.reduceAdd, *])))
  have e : Ext H (H.new ⟨true, t_Pair, [v]⟩) := .new _ _
  refine callR_of (w_markFloat32S_ow (o.ext e) h0 h1 hn) ?_
  rintro _ H' ⟨rfl, p, f⟩
  simp (disch := first | assumption | omega | rfl | (refine id ?_; simp only [gxD, ne_eq, reduceCtorEq, not_false_eq_true, Nat.reduceAdd, *]; done) | (refine id ?_; simp only [gxD]; omega)) only [↓gxPre, gxPost, ↓reduceIte, Nat.reduceEqDiff, reduceCtorEq, Nat.reduceAdd]
  exact ⟨p, e.off.trans (f.off (o.ext e))⟩
end Go.Proofs.Ytkojmlpaamdhoae

namespace Go.Proofs.Ytkojmlpaamdhoae
open Go.Gx
set_option maxRecDepth 100000
set_option linter.unusedSimpArgs false
set_option linter.unusedVariables false

theorem w_eqFloat32SS_ow {H : Heap} {v u : Value} {xss : List (List Nat)} (hv : SS H v xss) (hu : SS H u xss) (hn : totL xss ≤ 2 ^ 40) :
    ACalls Try.prog n_w_eqFloat32SS [v, u] H fun r H' => r = .bool true ∧ Ext H H' := by
  refine acalls_ext ?_
  obtain ⟨vs, hv, hvl, hvs⟩ := hv
  obtain ⟨us, hu, hul, hus⟩ := hu
  have hx : xss.length ≤ 2 ^ 40 := by unfold totL at hn; omega
  refine k_w_eqFloat32SS.run rfl ?_
  unfold c_w_eqFloat32SS
  ((try simp (disch := first | assumption | omega | rfl | (refine id ?_; simp only [gxD, ne_eq, reduceCtorEq, not_false_eq_true, Nat.reduceAdd, *]; done) | (refine id ?_; simp only [gxD]; omega)) only [↓gxPre, gxPost, ↓reduceIte, Nat.reduceEqDiff, reduceCtorEq, Nat.reduceAdd, hv.len, hu.len, hvl, hul, ne_eq, not_true, not_false_eq_true, *]); repeat' (first | (refine grdR_split (fun _ => ?_) (fun _ => ?_) <;> simp (disch := first | assumption | omega | rfl | (refine id ?_; simp only [gxD, ne_eq, reduceCtorEq, not_false_eq_true, Nat.reduceAdd, *]; done) | (refine id ?_; simp only [gxD]; omega)) only [↓gxPre, gxPost, ↓reduceIte, Nat.reduceEqDiff, reduceCtorEq, Nat.reduceAdd, hv.len, hu.len, hvl, hul, ne_eq, not_true, not_false_eq_true, *]) | (refine condR_split (fun _ => ?_) (fun _ => ?_) <;> simp (disch := first | assumption | omega | rfl | (refine id ?_; simp only [gxD, ne_eq, reduceCtorEq, not_false_eq_true, Nat.reduceAdd, *]; done) | (refine id ?_; simp only [gxD]; omega)) only [↓gxPre, gxPost, ↓reduceIte, Nat.reduceEqDiff, reduceCtorEq, Nat.reduceAdd, hv.len, hu.len, hvl, hul, ne_eq, not_true, not_false_eq_true, *])))
  refine loop_for xss.length (fun i => [v, u, .int .i64 i]) rfl ?_ ?_
  · ((try simp (disch := first | assumption | omega | rfl | (refine id ?_; simp only [gxD, ne_eq, reduceCtorEq, not_false_eq_true, Nat.reduceAdd, *]; done) | (refine id ?_; simp only [gxD]; omega)) only [↓gxPre, gxPost, ↓reduceIte, Nat.reduceEqDiff, reduceCtorEq, Nat.reduceAdd, hv.len, hu.len, hvl, hul, Int.lt_irrefl, *]); repeat' (first | (refine grdR_split (fun _ => ?_) (fun _ => ?_) <;> simp (disch := first | assumption | omega | rfl | (refine id ?_; simp only [gxD, ne_eq, reduceCtorEq, not_false_eq_true, Nat.reduceAdd, *]; done) | (refine id ?_; simp only [gxD]; omega)) only [↓gxPre, gxPost, ↓reduceIte, Nat.reduceEqDiff, reduceCtorEq, Nat.reduceAdd, hv.len, hu.len, hvl, hul, Int.lt_irrefl, *]) | (refine condR_split (fun _ => ?_) (fun _ => ?_) <;> simp (disch := first | assumption | omega | rfl | (refine id ?_; simp only [gxD, ne_eq, reduceCtorEq, not_false_eq_true, Nat.reduceAdd, *]; done) | (refine id ?_; simp only [gxD]; omega)) only [↓gxPre, gxPost, ↓reduceIte, Nat.reduceEqDiff, reduceCtorEq, Nat.reduceAdd, hv.len, hu.len, hvl, hul, Int.lt_irrefl, *])))
  · intro i hi
    ((try simp (disch := first | assumption | omega | rfl | (refine id ?_; simp only [gxD, ne_eq, reduceCtorEq, not_false_eq_true, Nat.reduceAdd, *]; done) | (refine id ?_; simp only [gxD]; omega)) only [↓gxPre, gxPost, ↓reduceIte, Nat.reduceEqDiff, reduceCtorEq, Nat.reduceAdd, hv.len, hu.len, hvl, hul, hv.ia, hu.ia, hv.ldD, hu.ldD, *]); repeat' (first | (refine grdR_split (fun _ => ?_) (fun _ => ?_) <;> simp (disch := first | assumption | omega | rfl | (refine id ?_; simp only [gxD, ne_eq, reduceCtorEq, not_false_eq_true, Nat.reduceAdd, *]; done) | (refine id ?_; simp only [gxD]; omega)) only [↓gxPre, gxPost, ↓reduceIte, Nat.reduceEqDiff, reduceCtorEq, Nat.reduceAdd, hv.len, hu.len, hvl, hul, hv.ia, hu.ia, hv.ldD, hu.ldD, *]) | (refine condR_split (fun _ => ?_) (fun _ => ?_) <;> simp (disch := first | assumption | omega | rfl | (refine id ?_; simp only [gxD, ne_eq, reduceCtorEq, not_false_eq_true, Nat.reduceAdd, *]; done) | (refine id ?_; simp only [gxD]; omega)) only [↓gxPre, gxPost, ↓reduceIte, Nat.reduceEqDiff, reduceCtorEq, Nat.reduceAdd, hv.len, hu.len, hvl, hul, hv.ia, hu.ia, hv.ldD, hu.ldD, *]) | (refine callR_pure (w_eqFloat32S_ok (hvs i hi) (hus i hi) (totL_row hn i)) (by first | exact Or.inl rfl | (simp (disch := first | assumption | omega | rfl | (refine id ?_; simp only [gxD, ne_eq, reduceCtorEq, not_false_eq_true, Nat.reduceAdd, *]; done) | (refine id ?_; simp only [gxD]; omega)) only [↓gxPre, gxPost, ↓reduceIte, Nat.reduceEqDiff, reduceCtorEq, Nat.reduceAdd, hv.len, hu.len, hvl, hul, hv.ia, hu.ia, hv.ldD, hu.ldD, *]; done)) ?_; simp (disch := first | assumption | omega | rfl | (refine id ?_; simp only [gxD, ne_eq, reduceCtorEq, not_false_eq_true, Nat.reduceAdd, *]; done) | (refine id ?_; simp only [gxD]; omega)) only [↓gxPre, gxPost, ↓reduceIte, Nat.reduceEqDiff, reduceCtorEq, Nat.reduceAdd, hv.len, hu.len, hvl, hul, hv.ia, hu.ia, hv.ldD, hu.ldD, *])))
    all_goals simp
theorem w_szFloat32SS_ow {H : Heap} {v : Value} {xss : List (List Nat)} {n : Int} (hv : SS H v xss) (h0 : 0 ≤ n) (h1 : n ≤ 1048576) (hl : xss.length ≤ 9223372036854775807) (hr : ∀ j, (xss.getD j []).length ≤ 9223372036854775807) :
    ACalls Try.prog n_w_szFloat32SS [v, .int .i64 n] H fun r H' => r = .int .i64 (if n < (totL xss : Nat) then -1 else n - (totL xss : Nat)) ∧ Ext H H' := by
  refine acalls_ext ?_
  obtain ⟨vs, hv, hvl, hvs⟩ := hv
  refine k_w_szFloat32SS.run rfl ?_
  unfold c_w_szFloat32SS
  by_cases hlt : n < xss.length
  · have : n < (totL xss : Nat) := by unfold totL; omega
    simp (disch := first | assumption | omega | rfl | (refine id ?_; simp only [gxD, ne_eq, reduceCtorEq, not_false_eq_true, Nat.reduceAdd, *]; done) | (refine id ?_; simp only [gxD]; omega)) only [↓gxPre, gxPost, ↓reduceIte, Nat.reduceEqDiff, reduceCtorEq, Nat.reduceAdd, hv.len, hvl, if_pos this]
  simp (disch := first | assumption | omega | rfl | (refine id ?_; simp only [gxD, ne_eq, reduceCtorEq, not_false_eq_true, Nat.reduceAdd, *]; done) | (refine id ?_; simp only [gxD]; omega)) only [↓gxPre, gxPost, ↓reduceIte, Nat.reduceEqDiff, reduceCtorEq, Nat.reduceAdd, hv.len, hvl]
  refine loop_forH xss.length (fun i => [v, .int .i64 (n - xss.length - (offN xss i : Nat)), .int .i64 i]) (fun i H' => H' = H ∧ (offN xss i : Int) ≤ n - xss.length) (by simp [offN_zero]) ⟨rfl, by rw [offN_zero]; omega⟩ ?_ ?_
  · rintro _ ⟨rfl, hJ⟩
    have : ¬ n < (totL xss : Nat) := by unfold totL; omega
    simp (disch := first | assumption | omega | rfl | (refine id ?_; simp only [gxD, ne_eq, reduceCtorEq, not_false_eq_true, Nat.reduceAdd, *]; done) | (refine id ?_; simp only [gxD]; omega)) only [↓gxPre, gxPost, ↓reduceIte, Nat.reduceEqDiff, reduceCtorEq, Nat.reduceAdd, hv.len, hvl, Int.lt_irrefl, if_neg this]
    simp only [totL]
    congr 1
    omega
  · rintro i _ hi ⟨rfl, hJ⟩
    have hsx := offN_succ (ls := xss) hi
    have hrow := offN_row (ls := xss) hi
    simp (disch := first | assumption | omega | rfl | (refine id ?_; simp only [gxD, ne_eq, reduceCtorEq, not_false_eq_true, Nat.reduceAdd, *]; done) | (refine id ?_; simp only [gxD]; omega)) only [↓gxPre, gxPost, ↓reduceIte, Nat.reduceEqDiff, reduceCtorEq, Nat.reduceAdd, hv.len, hvl, hv.ia, hv.ldD]
    refine callR_pure (w_szFloat32S_ok (hvs i hi) (by omega) (by omega) (hr i)) (.inl rfl) ?_
    by_cases hlt' : n - xss.length - (offN xss i : Nat) < (xss.getD i []).length
    · have : n < (totL xss : Nat) := by unfold totL; omega
      simp (disch := first | assumption | omega | rfl | (refine id ?_; simp only [gxD, ne_eq, reduceCtorEq, not_false_eq_true, Nat.reduceAdd, *]; done) | (refine id ?_; simp only [gxD]; omega)) only [↓gxPre, gxPost, ↓reduceIte, Nat.reduceEqDiff, reduceCtorEq, Nat.reduceAdd, if_pos hlt', if_pos this, Int.reduceLT]
    · have h3 : ¬ (n - xss.length - (offN xss i : Nat) - (xss.getD i []).length < 0) := by omega
      have e3 : n - xss.length - (offN xss i : Nat) - (xss.getD i []).length = n - xss.length - (offN xss (i + 1) : Nat) := by rw [hsx]; omega
      simp (disch := first | assumption | omega | rfl | (refine id ?_; simp only [gxD, ne_eq, reduceCtorEq, not_false_eq_true, Nat.reduceAdd, *]; done) | (refine id ?_; simp only [gxD]; omega)) only [↓gxPre, gxPost, ↓reduceIte, Nat.reduceEqDiff, reduceCtorEq, Nat.reduceAdd, if_neg hlt', h3]
      refine ⟨?_, by omega⟩
      rw [e3]
      simp
theorem w_toFloat32SS_ow {H : Heap} {v : Value} {xss : List (List Nat)} (hv : SS H v xss) (hn : totL xss ≤ 2 ^ 40) :
    ACalls Try.prog n_w_toFloat32SS [v] H fun r H' => Ext H H' ∧ OwS H.n H'.n H' t_sfloat32 t_float32 r (xss.map (List.map fv)) := by
  obtain ⟨vs, hv, hvl, hvs⟩ := hv
  have hx : xss.length ≤ 2 ^ 40 := by unfold totL at hn; omega
  refine k_w_toFloat32SS.run rfl ?_
  unfold c_w_toFloat32SS
  simp (disch := first | assumption | omega | rfl | (refine id ?_; simp only [gxD, ne_eq, reduceCtorEq, not_false_eq_true, Nat.reduceAdd, *]; done) | (refine id ?_; simp only [gxD]; omega)) only [↓gxPre, gxPost, ↓reduceIte, Nat.reduceEqDiff, reduceCtorEq, Nat.reduceAdd, hv.len, hvl, eMks_i]
  refine loop_forH xss.length (fun i => [v, .slice (some ⟨H.n, 0, none⟩) xss.length xss.length, .int .i64 i])
    (fun i H' => Ext H H' ∧ H.n + 1 ≤ H'.n ∧ ∃ us, H'.blk H.n = some ⟨true, t_sfloat32, us ++ List.replicate (xss.length - i) (.slice none 0 0)⟩ ∧ us.length = i ∧ OwN (H.n + 1) H'.n H' t_float32 us ((xss.take i).map (List.map fv)))
    rfl ⟨.new _ _, by simp [new_n], [], by simp [new_self], rfl, by simpa using OwN.nil⟩ ?_ ?_
  · rintro G ⟨hE, hG, us, hb, hul, ho⟩
    simp (disch := first | assumption | omega | rfl | (refine id ?_; simp only [gxD, ne_eq, reduceCtorEq, not_false_eq_true, Nat.reduceAdd, *]; done) | (refine id ?_; simp only [gxD]; omega)) only [↓gxPre, gxPost, ↓reduceIte, Nat.reduceEqDiff, reduceCtorEq, Nat.reduceAdd, hv.len, hvl, Int.lt_irrefl]
    refine ⟨hE, us, ?_, ?_⟩
    · rw [← hul]
      exact .mk (by simpa [hul] using hb) rfl (Nat.le_refl _) (by omega) (by omega)
    · rw [List.take_of_length_le (Nat.le_refl _)] at ho
      exact ho.wide (by omega) (Nat.le_refl _)
  · rintro i G hi ⟨hE, hG, us, hb, hul, ho⟩
    have hvG := hv.ext hE
    simp (disch := first | assumption | omega | rfl | (refine id ?_; simp only [gxD, ne_eq, reduceCtorEq, not_false_eq_true, Nat.reduceAdd, *]; done) | (refine id ?_; simp only [gxD]; omega)) only [↓gxPre, gxPost, ↓reduceIte, Nat.reduceEqDiff, reduceCtorEq, Nat.reduceAdd, hv.len, hvl, hvG.ia, hvG.ldD]
    refine callR_of (w_toFloat32S_ow ((hvs i hi).ext hE) (totL_row hn i)) ?_
    rintro r G' ⟨e, o⟩
    have hb' : G'.blk H.n = some ⟨true, t_sfloat32, us ++ List.replicate (xss.length - i) (.slice none 0 0)⟩ := by rw [e.blk _ (by omega)]; exact hb
    have n' := e.n
    have o1 := o.one
    have hlen : (us ++ List.replicate (xss.length - i) (Value.slice none 0 0)).length = xss.length := by simp [hul]; omega
    simp (disch := first | assumption | omega | rfl | (refine id ?_; simp only [gxD, ne_eq, reduceCtorEq, not_false_eq_true, Nat.reduceAdd, *]; done) | (refine id ?_; simp only [gxD]; omega)) only [↓gxPre, gxPost, ↓reduceIte, Nat.reduceEqDiff, reduceCtorEq, Nat.reduceAdd, hb', hlen]
    have hset : (us ++ List.replicate (xss.length - i) (Value.slice none 0 0)).set i r = (us ++ [r]) ++ List.replicate (xss.length - (i + 1)) (.slice none 0 0) := by
      rw [List.set_append_right _ _ (by omega), hul, Nat.sub_self, show xss.length - i = (xss.length - (i + 1)) + 1 by omega, List.replicate_succ]
      simp
    refine ⟨by simp, (hE.trans e).put (by omega) _, by omega, us ++ [r], by first | rw [hset] | rw [hput_self, hset], by simp [hul], ?_⟩
    have ho' : OwN (H.n + 1) G'.n G' t_float32 (us ++ [r]) ((xss.take (i + 1)).map (List.map fv)) := by
      have ht : (xss.take (i + 1)).map (List.map fv) = (xss.take i).map (List.map fv) ++ [(xss.getD i []).map fv] := by
        rw [List.take_add_one, List.map_append, List.getElem?_eq_getElem hi, List.getD_eq_getElem?_getD, List.getElem?_eq_getElem hi]
        rfl
      rw [ht]
      refine ((ho.ext e).wide (Nat.le_refl _) n').snoc (o.wide (by omega) (Nat.le_refl _)) fun j h hj hh hk => ?_
      have h1 := ho.lt hj hh
      have h2 := (o.hdl hk).1
      omega
    refine ho'.keep (Nat.le_refl _) fun j h hj hh => hput_other _ _ _ _ ?_
    have := (ho'.lt hj hh).1
    omega
theorem w_markFloat32SS_fam {lo hi : Nat} {H : Heap} {v : Value} {vs : List Value} {ls : List (List Value)} {k : Int} (ov : OwL lo hi H t_sfloat32 v vs) (on : OwN lo hi H t_float32 vs ls) (h0 : 0 ≤ k) (h1 : k ≤ 2 ^ 60) (hn : totL ls ≤ 2 ^ 41) :
    ACalls Try.prog n_w_markFloat32SS [v, .int .i64 k] H fun r H' => r = .int .i64 (k + (offN ls ls.length : Nat)) ∧ OwL lo hi H' t_sfloat32 v vs ∧ OwN lo hi H' t_float32 vs (marked markF k ls ls.length) ∧ Off lo hi H H' ∧ H'.n = H.n ∧
      ∀ h, (∀ i, i < ls.length → hdl (vs.getD i undef) ≠ some h) → H'.blk h = H.blk h := by
  have hvl : vs.length = ls.length := on.1
  refine k_w_markFloat32SS.run rfl ?_
  unfold c_w_markFloat32SS
  have hx : ls.length ≤ 2 ^ 41 := by unfold totL at hn; omega
  simp (disch := first | assumption | omega | rfl | (refine id ?_; simp only [gxD, ne_eq, reduceCtorEq, not_false_eq_true, Nat.reduceAdd, *]; done) | (refine id ?_; simp only [gxD]; omega)) only [↓gxPre, gxPost, ↓reduceIte, Nat.reduceEqDiff, reduceCtorEq, Nat.reduceAdd]
  refine loop_forH ls.length (fun i => [v, .int .i64 (k + (offN ls i : Nat)), .int .i64 i])
    (fun i H' => Off lo hi H H' ∧ OwL lo hi H' t_sfloat32 v vs ∧ OwN lo hi H' t_float32 vs (marked markF k ls i) ∧ H'.n = H.n ∧ ∀ h, (∀ i, i < ls.length → hdl (vs.getD i undef) ≠ some h) → H'.blk h = H.blk h)
    (by simp [offN_zero]) ⟨.refl _ _ _, ov, by rw [marked_zero]; exact on, rfl, fun _ _ => rfl⟩ ?_ ?_
  · rintro G ⟨hF, ov, on, hN, hB⟩
    simp (disch := first | assumption | omega | rfl | (refine id ?_; simp only [gxD, ne_eq, reduceCtorEq, not_false_eq_true, Nat.reduceAdd, *]; done) | (refine id ?_; simp only [gxD]; omega)) only [↓gxPre, gxPost, ↓reduceIte, Nat.reduceEqDiff, reduceCtorEq, Nat.reduceAdd, ov.sl.len, hvl, Int.lt_irrefl]
    exact ⟨ov, on, hF, hN, hB⟩
  · rintro i G hlt ⟨hF, ov, on, hN, hB⟩
    have hrow := offN_row (ls := ls) hlt
    have hri := totL_row hn i
    have hto : offN ls ls.length ≤ 2 ^ 41 := by unfold totL at hn; omega
    simp (disch := first | assumption | omega | rfl | (refine id ?_; simp only [gxD, ne_eq, reduceCtorEq, not_false_eq_true, Nat.reduceAdd, *]; done) | (refine id ?_; simp only [gxD]; omega)) only [↓gxPre, gxPost, ↓reduceIte, Nat.reduceEqDiff, reduceCtorEq, Nat.reduceAdd, ov.sl.len, hvl, ov.sl.ia, ov.sl.ldD]
    have hi' : i < (marked markF k ls i).length := by rw [marked_length]; exact hlt
    have oi : OwL lo hi G t_float32 (vs.getD i undef) (ls.getD i []) := by
      have := on.2.1 i hi'
      rwa [marked_getD hlt, if_neg (Nat.lt_irrefl i)] at this
    refine callR_of (w_markFloat32S_ow oi (by omega) (by omega) (by omega)) ?_
    rintro _ G' ⟨rfl, p, f⟩
    simp (disch := first | assumption | omega | rfl | (refine id ?_; simp only [gxD, ne_eq, reduceCtorEq, not_false_eq_true, Nat.reduceAdd, *]; done) | (refine id ?_; simp only [gxD]; omega)) only [↓gxPre, gxPost, ↓reduceIte, Nat.reduceEqDiff, reduceCtorEq, Nat.reduceAdd]
    refine ⟨?_, hF.trans (f.off oi), on.outer ov (by decide) hi' f, ?_, f.n.trans hN, fun h hh => (f.blk h (hh i hlt)).trans (hB h hh)⟩
    · rw [offN_succ hlt]
      simp; omega
    · have := on.set hi' f p
      rwa [marked_set hlt] at this
theorem w_markFloat32SS_ow {lo hi : Nat} {H : Heap} {v : Value} {ls : List (List Value)} {k : Int} (o : OwS lo hi H t_sfloat32 t_float32 v ls) (h0 : 0 ≤ k) (h1 : k ≤ 2 ^ 60) (hn : totL ls ≤ 2 ^ 41) :
    ACalls Try.prog n_w_markFloat32SS [v, .int .i64 k] H fun r H' => r = .int .i64 (k + (offN ls ls.length : Nat)) ∧ OwS lo hi H' t_sfloat32 t_float32 v (marked markF k ls ls.length) ∧ Off lo hi H H' := by
  obtain ⟨vs, ov, on⟩ := o
  refine (w_markFloat32SS_fam ov on h0 h1 hn).mono ?_
  rintro _ H' ⟨rfl, a, b, c, _⟩
  exact ⟨rfl, ⟨vs, a, b⟩, c⟩
end Go.Proofs.Ytkojmlpaamdhoae

namespace Go.Proofs.Ytkojmlpaamdhoae
open Go.Gx
set_option maxRecDepth 100000
set_option linter.unusedSimpArgs false
set_option linter.unusedVariables false

theorem i_copyOf_ok {H : Heap} {v : Value} {xs : List Nat} (hv : FS H v xs) (hn : xs.length ≤ 2 ^ 40) :
    ACalls Try.prog n_i_copyOf [v] H fun r H' => r = .slice (some ⟨H.n, 0, none⟩) xs.length xs.length ∧ H' = H.new ⟨true, t_float32, xs.map fv⟩ := by
  refine k_i_copyOf.run rfl ?_
  unfold c_i_copyOf
  have hr := (hv.ext (.new H ⟨true, t_float32, []⟩)).read
  simp (disch := first | assumption | omega | rfl | (refine id ?_; simp only [gxD, ne_eq, reduceCtorEq, not_false_eq_true, Nat.reduceAdd, *]; done) | (refine id ?_; simp only [gxD]; omega)) only [↓gxPre, gxPost, ↓reduceIte, Nat.reduceEqDiff, reduceCtorEq, Nat.reduceAdd, hr, List.nil_append, lMapN]
theorem i_finiteList_ok {H : Heap} {v : Value} {xs : List Nat} (hv : FS H v xs) (hn : xs.length ≤ 2 ^ 40) : ACalls Try.prog n_i_finiteList [v] H fun r H' => r = listV (xs.all finF) v ∧ Ext H H' := by
  refine k_i_finiteList.run rfl ?_
  unfold c_i_finiteList
  have hv1 := hv.one
  simp (disch := first | assumption | omega | rfl | (refine id ?_; simp only [gxD, ne_eq, reduceCtorEq, not_false_eq_true, Nat.reduceAdd, *]; done) | (refine id ?_; simp only [gxD]; omega)) only [↓gxPre, gxPost, ↓reduceIte, Nat.reduceEqDiff, reduceCtorEq, Nat.reduceAdd]
  refine callR_pure (i_areFinite1_ok (by simp (disch := first | assumption | omega | rfl | (refine id ?_; simp only [gxD, ne_eq, reduceCtorEq, not_false_eq_true, Nat.reduceAdd, *]; done) | (refine id ?_; simp only [gxD]; omega)) only [↓gxPre, gxPost, ↓reduceIte, Nat.reduceEqDiff, reduceCtorEq, Nat.reduceAdd, *]; rfl) (by first | omega | (simp only [new_n, put_n]; omega)) (hv.ext ⟨by first | omega | (simp only [new_n, put_n]; omega) | (simp only [new_n, put_n] at *; omega), fun i hi => by simp (disch := first | assumption | omega | rfl | (refine id ?_; simp only [gxD, ne_eq, reduceCtorEq, not_false_eq_true, Nat.reduceAdd, *]; done) | (refine id ?_; simp only [gxD]; omega)) only [↓gxPre, gxPost, ↓reduceIte, Nat.reduceEqDiff, reduceCtorEq, Nat.reduceAdd, *]⟩) hn) (.inl rfl) ?_
  cases h : xs.all finF
  · simp (disch := first | assumption | omega | rfl | (refine id ?_; simp only [gxD, ne_eq, reduceCtorEq, not_false_eq_true, Nat.reduceAdd, *]; done) | (refine id ?_; simp only [gxD]; omega)) only [↓gxPre, gxPost, ↓reduceIte, Nat.reduceEqDiff, reduceCtorEq, Nat.reduceAdd]
    exact ⟨rfl, ⟨by first | omega | (simp only [new_n, put_n]; omega) | (simp only [new_n, put_n] at *; omega), fun i hi => by simp (disch := first | assumption | omega | rfl | (refine id ?_; simp only [gxD, ne_eq, reduceCtorEq, not_false_eq_true, Nat.reduceAdd, *]; done) | (refine id ?_; simp only [gxD]; omega)) only [↓gxPre, gxPost, ↓reduceIte, Nat.reduceEqDiff, reduceCtorEq, Nat.reduceAdd, *]⟩⟩
  · simp (disch := first | assumption | omega | rfl | (refine id ?_; simp only [gxD, ne_eq, reduceCtorEq, not_false_eq_true, Nat.reduceAdd, *]; done) | (refine id ?_; simp only [gxD]; omega)) only [↓gxPre, gxPost, ↓reduceIte, Nat.reduceEqDiff, reduceCtorEq, Nat.reduceAdd]
    exact ⟨rfl, ⟨by first | omega | (simp only [new_n, put_n]; omega) | (simp only [new_n, put_n] at *; omega), fun i hi => by simp (disch := first | assumption | omega | rfl | (refine id ?_; simp only [gxD, ne_eq, reduceCtorEq, not_false_eq_true, Nat.reduceAdd, *]; done) | (refine id ?_; simp only [gxD]; omega)) only [↓gxPre, gxPost, ↓reduceIte, Nat.reduceEqDiff, reduceCtorEq, Nat.reduceAdd, *]⟩⟩
end Go.Proofs.Ytkojmlpaamdhoae
