/- Lifts of numbers of single precision. -/
import Derived.Test.YtkojmlpaamdhoaeCoarseOfZ
namespace Go.Proofs.Ytkojmlpaamdhoae
open Go.Gx
set_option maxRecDepth 100000
set_option linter.unusedSimpArgs false
set_option linter.unusedVariables false

def updF (g : Nat → Nat) (xs : List Nat) (i : Nat) : List Nat := (List.range xs.length).map fun k => if k < i then g k else xs.getD k 0
theorem updF_length (g : Nat → Nat) (xs : List Nat) (i : Nat) : (updF g xs i).length = xs.length := by simp [updF]
theorem updF_zero (g : Nat → Nat) (xs : List Nat) : updF g xs 0 = xs := by
  refine list_ext_getD 0 (updF_length _ _ _) fun j hj => ?_
  rw [updF_length] at hj
  rw [updF, getD_range_map hj]
  simp
theorem updF_all (g : Nat → Nat) (xs : List Nat) : updF g xs xs.length = (List.range xs.length).map g := by
  refine list_ext_getD 0 (by simp [updF]) fun j hj => ?_
  rw [updF_length] at hj
  rw [updF, getD_range_map hj, getD_range_map hj, if_pos hj]
theorem updF_at {g : Nat → Nat} {xs : List Nat} {i : Nat} (h : i < xs.length) : ((updF g xs i).map fv)[i]? = some (.float .f32 (xs.getD i 0)) := by
  simp [updF, h, fv]
theorem updF_set {g : Nat → Nat} {xs : List Nat} {i : Nat} : (updF g xs i).set i (g i) = updF g xs (i + 1) := by
  refine list_ext_getD 0 (by simp [updF]) fun j hj => ?_
  have hj' : j < xs.length := by simpa [updF] using hj
  by_cases hji : j = i
  · subst hji
    rw [getD_set_self (by rw [updF_length]; exact hj'), updF, getD_range_map hj', if_pos (by omega)]
  · rw [Go.Gx.getD_set_ne (Ne.symm hji), updF, updF, getD_range_map hj', getD_range_map hj']
    by_cases h : j < i
    · rw [if_pos h, if_pos (by omega)]
    · rw [if_neg h, if_neg (by omega)]
theorem fin_nan {x : Nat} (h : finF x = true) : nanB .f32 x = false := by
  obtain ⟨s, m, e, hr⟩ := finF_num.1 h
  unfold nanB FloatKind.decode
  have : FloatKind.f32.format.read x = Ieee.single.read x := rfl
  rw [this, hr]; rfl
theorem ares_0 (φ : Go.Gx.Frame) (H : Heap) : ares φ H [] = some (.tuple #[]) := rfl
theorem i_besideOdd_f_ok {H : Heap} {v : Value} {xs : List Nat} {j : Nat} (hv : FS H v xs) (hn : xs.length ≤ 2 ^ 40) (hj : j < xs.length) :
    ACalls Try.prog n_i_besideOdd_float32_ [v, .int .i64 j] H fun r H' => r = .tuple #[.float .f32 (xs.getD j 0), .float .f32 (xs.getD (min (j + 1) (xs.length - 1)) 0)] ∧ H' = H := by
  have e : (min ((j : Int) + 1) ((xs.length : Int) - 1)).toNat = min (j + 1) (xs.length - 1) := by omega
  refine k_i_besideOdd_float32_.run rfl ?_
  unfold c_i_besideOdd_float32_
  simp (disch := first | assumption | omega | rfl | (refine id ?_; simp only [gxD, ne_eq, reduceCtorEq, not_false_eq_true, Nat.reduceAdd, *]; done) | (refine id ?_; simp only [gxD]; omega)) only [↓gxPre, gxPost, ↓reduceIte, Nat.reduceEqDiff, reduceCtorEq, Nat.reduceAdd, hv.len, hv.ia, hv.ld, e]
theorem i_besideEven_f_ok {H : Heap} {v : Value} {xs : List Nat} {j : Nat} (hv : FS H v xs) (hn : xs.length ≤ 2 ^ 40) (hj : j ≤ xs.length) (h1 : 1 ≤ xs.length) :
    ACalls Try.prog n_i_besideEven_float32_ [v, .int .i64 j] H fun r H' => r = .tuple #[.float .f32 (xs.getD (j - 1) 0), .float .f32 (xs.getD (min j (xs.length - 1)) 0)] ∧ H' = H := by
  have e : (min (j : Int) ((xs.length : Int) - 1)).toNat = min j (xs.length - 1) := by omega
  have e2 : (max ((j : Int) - 1) 0).toNat = j - 1 := by omega
  refine k_i_besideEven_float32_.run rfl ?_
  unfold c_i_besideEven_float32_
  simp (disch := first | assumption | omega | rfl | (refine id ?_; simp only [gxD, ne_eq, reduceCtorEq, not_false_eq_true, Nat.reduceAdd, *]; done) | (refine id ?_; simp only [gxD]; omega)) only [↓gxPre, gxPost, ↓reduceIte, Nat.reduceEqDiff, reduceCtorEq, Nat.reduceAdd, hv.len, hv.ia, hv.ld, e, e2]
theorem s_l02Beside_ok {H : Heap} {v : Value} {xs : List Nat} {i : Int} (hv : FS H v xs) (hn : xs.length ≤ 2 ^ 40) (h1 : 1 ≤ xs.length) (hi : -(2 ^ 41) ≤ i) (hi' : i ≤ 2 ^ 41) :
    ACalls Try.prog n_s_l02Beside [v, .int .i64 i] H fun r H' => r = .float .f32 (xs.getD (max 0 (min ((xs.length : Int) - 1) i)).toNat 0) ∧ H' = H := by
  refine k_s_l02Beside.run rfl ?_
  unfold c_s_l02Beside
  simp (disch := first | assumption | omega | rfl | (refine id ?_; simp only [gxD, ne_eq, reduceCtorEq, not_false_eq_true, Nat.reduceAdd, *]; done) | (refine id ?_; simp only [gxD]; omega)) only [↓gxPre, gxPost, ↓reduceIte, Nat.reduceEqDiff, reduceCtorEq, Nat.reduceAdd, hv.len, hv.ia, hv.ld]
theorem i_split_f_ok {H : Heap} {v : Value} {xs : List Nat} (hv : FS H v xs) (hn : xs.length ≤ 2 ^ 40) :
    ACalls Try.prog n_i_split_float32_ [v] H fun r H' => Ext H H' ∧ H.n + 2 ≤ H'.n ∧ r = .tuple #[.slice (some ⟨H.n, 0, none⟩) ((xs.length + 1) / 2) ((xs.length + 1) / 2), .slice (some ⟨H.n + 1, 0, none⟩) (xs.length / 2) (xs.length / 2)] ∧
      H'.blk H.n = some ⟨true, t_float32, (evL 0 xs xs.length).map fv⟩ ∧ H'.blk (H.n + 1) = some ⟨true, t_float32, (odL 0 xs xs.length).map fv⟩ := by
  refine k_i_split_float32_.run rfl ?_
  unfold c_i_split_float32_
  simp (disch := first | assumption | omega | rfl | (refine id ?_; simp only [gxD, ne_eq, reduceCtorEq, not_false_eq_true, Nat.reduceAdd, *]; done) | (refine id ?_; simp only [gxD]; omega)) only [↓gxPre, gxPost, ↓reduceIte, Nat.reduceEqDiff, reduceCtorEq, Nat.reduceAdd, hv.len]
  refine loop_forH xs.length (fun i => [.slice (some ⟨H.n, 0, none⟩) ((i + 1) / 2) ((i + 1) / 2), .slice (some ⟨H.n + 1, 0, none⟩) (i / 2) (i / 2), v, .int .i64 xs.length, .int .i64 i])
    (fun i G => H.n + 2 ≤ G.n ∧ Ext H G ∧ G.blk H.n = some ⟨true, t_float32, (evL 0 xs i).map fv⟩ ∧ G.blk (H.n + 1) = some ⟨true, t_float32, (odL 0 xs i).map fv⟩) rfl ⟨by simp only [new_n]; omega, ⟨by first | omega | (simp only [new_n, put_n]; omega) | (simp only [new_n, put_n] at *; omega), fun i hi => by simp (disch := first | assumption | omega | rfl | (refine id ?_; simp only [gxD, ne_eq, reduceCtorEq, not_false_eq_true, Nat.reduceAdd, *]; done) | (refine id ?_; simp only [gxD]; omega)) only [↓gxPre, gxPost, ↓reduceIte, Nat.reduceEqDiff, reduceCtorEq, Nat.reduceAdd, *]⟩, by simp (disch := first | assumption | omega | rfl | (refine id ?_; simp only [gxD, ne_eq, reduceCtorEq, not_false_eq_true, Nat.reduceAdd, *]; done) | (refine id ?_; simp only [gxD]; omega)) only [↓gxPre, gxPost, ↓reduceIte, Nat.reduceEqDiff, reduceCtorEq, Nat.reduceAdd]; rfl, by simp (disch := first | assumption | omega | rfl | (refine id ?_; simp only [gxD, ne_eq, reduceCtorEq, not_false_eq_true, Nat.reduceAdd, *]; done) | (refine id ?_; simp only [gxD]; omega)) only [↓gxPre, gxPost, ↓reduceIte, Nat.reduceEqDiff, reduceCtorEq, Nat.reduceAdd]; rfl⟩ ?_ ?_
  · rintro G ⟨hG, hE, hc, hd⟩
    simp (disch := first | assumption | omega | rfl | (refine id ?_; simp only [gxD, ne_eq, reduceCtorEq, not_false_eq_true, Nat.reduceAdd, *]; done) | (refine id ?_; simp only [gxD]; omega)) only [↓gxPre, gxPost, ↓reduceIte, Nat.reduceEqDiff, reduceCtorEq, Nat.reduceAdd, Int.lt_irrefl]
    exact ⟨hE, hG, hc, hd⟩
  · rintro i G hi ⟨hG, hE, hc, hd⟩
    have hv' := hv.ext hE
    have l1 : ((evL 0 xs i).map fv).length = (i + 1) / 2 := by rw [lMapN, evL_length]
    have l2 : ((odL 0 xs i).map fv).length = i / 2 := by rw [lMapN, odL_length]
    by_cases h2 : i % 2 = 0
    · have hc2 : ((i % 2 : Nat) : Int) = 0 := by omega
      have hm5 : (evL 0 xs i).map fv ++ [.float .f32 (xs.getD i 0)] = (evL 0 xs (i + 1)).map fv := by rw [evL_even h2, fv_snoc']
      obtain ⟨f1, f2, f3, f4⟩ := push_at hE hc (Nat.le_refl _) (by omega) hm5
      have e1 : (i + 1) / 2 + 1 = (i + 1 + 1) / 2 := by omega
      have e2 : i / 2 = (i + 1) / 2 := by omega
      simp (disch := first | assumption | omega | rfl | (refine id ?_; simp only [gxD, ne_eq, reduceCtorEq, not_false_eq_true, Nat.reduceAdd, *]; done) | (refine id ?_; simp only [gxD]; omega)) only [↓gxPre, gxPost, ↓reduceIte, Nat.reduceEqDiff, reduceCtorEq, Nat.reduceAdd, hv'.ia, hv'.ld, tmod2, hc2, hc, hd]
      refine ⟨by rw [e1, ← e2]; simp, by omega, f1, by rw [hm5], by rw [odL_even h2]⟩
    · have hc2 : ¬ ((i % 2 : Nat) : Int) = 0 := by omega
      have hm5 : (odL 0 xs i).map fv ++ [.float .f32 (xs.getD i 0)] = (odL 0 xs (i + 1)).map fv := by rw [odL_odd h2, fv_snoc']
      obtain ⟨f1, f2, f3, f4⟩ := push_at hE hd (by omega) (by omega) hm5
      have e1 : (i + 1) / 2 = (i + 1 + 1) / 2 := by omega
      have e2 : i / 2 + 1 = (i + 1) / 2 := by omega
      simp (disch := first | assumption | omega | rfl | (refine id ?_; simp only [gxD, ne_eq, reduceCtorEq, not_false_eq_true, Nat.reduceAdd, *]; done) | (refine id ?_; simp only [gxD]; omega)) only [↓gxPre, gxPost, ↓reduceIte, Nat.reduceEqDiff, reduceCtorEq, Nat.reduceAdd, hv'.ia, hv'.ld, tmod2, hc2, hc, hd]
      refine ⟨by rw [e2, ← e1]; simp, by omega, f1, by rw [evL_odd h2], by rw [hm5]⟩
theorem i_ValidScheme_ok {H : Heap} {a : Nat} {v : Value} {xs : List Nat} (hv : FS H v xs) (hn : xs.length ≤ 2 ^ 40) : ACalls Try.prog n_i_ValidScheme [.agg #[v, .float .f32 a]] H fun r H' => r = .bool (schemeF xs a) ∧ Ext H H' := by
  refine k_i_ValidScheme.run rfl ?_
  unfold c_i_ValidScheme
  have o1 := hv.one
  have e : Ext H (H.new ⟨true, t_Scheme, [v, .float .f32 a]⟩) := .new _ _
  simp (disch := first | assumption | omega | rfl | (refine id ?_; simp only [gxD, ne_eq, reduceCtorEq, not_false_eq_true, Nat.reduceAdd, *]; done) | (refine id ?_; simp only [gxD]; omega)) only [↓gxPre, gxPost, ↓reduceIte, Nat.reduceEqDiff, reduceCtorEq, Nat.reduceAdd, hv.len]
  refine callR_pure (i_within_ok) (by first | exact Or.inl rfl | (simp (disch := first | assumption | omega | rfl | (refine id ?_; simp only [gxD, ne_eq, reduceCtorEq, not_false_eq_true, Nat.reduceAdd, *]; done) | (refine id ?_; simp only [gxD]; omega)) only [↓gxPre, gxPost, ↓reduceIte, Nat.reduceEqDiff, reduceCtorEq, Nat.reduceAdd, *]; done)) ?_
  simp (disch := first | assumption | omega | rfl | (refine id ?_; simp only [gxD, ne_eq, reduceCtorEq, not_false_eq_true, Nat.reduceAdd, *]; done) | (refine id ?_; simp only [gxD]; omega)) only [↓gxPre, gxPost, ↓reduceIte, Nat.reduceEqDiff, reduceCtorEq, Nat.reduceAdd, *]
  cases h : within xs.length 1 8
  · simp (disch := first | assumption | omega | rfl | (refine id ?_; simp only [gxD, ne_eq, reduceCtorEq, not_false_eq_true, Nat.reduceAdd, *]; done) | (refine id ?_; simp only [gxD]; omega)) only [↓gxPre, gxPost, ↓reduceIte, Nat.reduceEqDiff, reduceCtorEq, Nat.reduceAdd]
    exact ⟨by simp only [schemeF, h, Bool.false_and], e⟩
  simp (disch := first | assumption | omega | rfl | (refine id ?_; simp only [gxD, ne_eq, reduceCtorEq, not_false_eq_true, Nat.reduceAdd, *]; done) | (refine id ?_; simp only [gxD]; omega)) only [↓gxPre, gxPost, ↓reduceIte, Nat.reduceEqDiff, reduceCtorEq, Nat.reduceAdd]
  refine callR_pure (i_areFinite1_ok (by simp (disch := first | assumption | omega | rfl | (refine id ?_; simp only [gxD, ne_eq, reduceCtorEq, not_false_eq_true, Nat.reduceAdd, *]; done) | (refine id ?_; simp only [gxD]; omega)) only [↓gxPre, gxPost, ↓reduceIte, Nat.reduceEqDiff, reduceCtorEq, Nat.reduceAdd, *]; rfl) (by first | omega | (simp only [new_n, put_n]; omega)) (hv.ext ⟨by first | omega | (simp only [new_n, put_n]; omega) | (simp only [new_n, put_n] at *; omega), fun i hi => by simp (disch := first | assumption | omega | rfl | (refine id ?_; simp only [gxD, ne_eq, reduceCtorEq, not_false_eq_true, Nat.reduceAdd, *]; done) | (refine id ?_; simp only [gxD]; omega)) only [↓gxPre, gxPost, ↓reduceIte, Nat.reduceEqDiff, reduceCtorEq, Nat.reduceAdd, *]⟩) hn) (.inl rfl) ?_
  have e2 : Ext H ((H.new ⟨true, t_Scheme, [v, .float .f32 a]⟩).new ⟨true, t_sfloat32, [v]⟩) := e.news _
  cases h2 : xs.all finF
  · simp (disch := first | assumption | omega | rfl | (refine id ?_; simp only [gxD, ne_eq, reduceCtorEq, not_false_eq_true, Nat.reduceAdd, *]; done) | (refine id ?_; simp only [gxD]; omega)) only [↓gxPre, gxPost, ↓reduceIte, Nat.reduceEqDiff, reduceCtorEq, Nat.reduceAdd]
    exact ⟨by simp only [schemeF, h2, Bool.and_false, Bool.false_and], e2⟩
  simp (disch := first | assumption | omega | rfl | (refine id ?_; simp only [gxD, ne_eq, reduceCtorEq, not_false_eq_true, Nat.reduceAdd, *]; done) | (refine id ?_; simp only [gxD]; omega)) only [↓gxPre, gxPost, ↓reduceIte, Nat.reduceEqDiff, reduceCtorEq, Nat.reduceAdd]
  refine callR_pure (i_isOver_ok) (by first | exact Or.inl rfl | (simp (disch := first | assumption | omega | rfl | (refine id ?_; simp only [gxD, ne_eq, reduceCtorEq, not_false_eq_true, Nat.reduceAdd, *]; done) | (refine id ?_; simp only [gxD]; omega)) only [↓gxPre, gxPost, ↓reduceIte, Nat.reduceEqDiff, reduceCtorEq, Nat.reduceAdd, *]; done)) ?_
  simp (disch := first | assumption | omega | rfl | (refine id ?_; simp only [gxD, ne_eq, reduceCtorEq, not_false_eq_true, Nat.reduceAdd, *]; done) | (refine id ?_; simp only [gxD]; omega)) only [↓gxPre, gxPost, ↓reduceIte, Nat.reduceEqDiff, reduceCtorEq, Nat.reduceAdd, *]
  first | exact ⟨by simp only [schemeF, h, h2, overF, Bool.true_and], e2⟩ | (simp only [schemeF, h, h2, overF, Bool.true_and]; done)
theorem s_l02Scheme_ok {H : Heap} {h a : Nat} {own : Bool} {ty : TypeId} {v : Value} {xs : List Nat} (hb : H.blk h = some ⟨own, ty, [v, .float .f32 a]⟩) (hv : FS H v xs) (hn : xs.length ≤ 2 ^ 40) : ACalls Try.prog n_s_l02Scheme [.pointer (some ⟨h, 0, some 2⟩)] H fun r H' => r = .bool (schemeF xs a) ∧ H' = H := by
  refine k_s_l02Scheme.run rfl ?_
  unfold c_s_l02Scheme
  by_cases h1 : (1 : Int) ≤ xs.length
  rotate_left
  · simp (disch := first | assumption | omega | rfl | (refine id ?_; simp only [gxD, ne_eq, reduceCtorEq, not_false_eq_true, Nat.reduceAdd, *]; done) | (refine id ?_; simp only [gxD]; omega)) only [↓gxPre, gxPost, ↓reduceIte, Nat.reduceEqDiff, reduceCtorEq, Nat.reduceAdd, hb, hv.len, h1]
    have : within xs.length 1 8 = false := by simp [within]; omega
    simp only [schemeF, this, Bool.false_and]
  by_cases h2 : (xs.length : Int) ≤ 8
  rotate_left
  · simp (disch := first | assumption | omega | rfl | (refine id ?_; simp only [gxD, ne_eq, reduceCtorEq, not_false_eq_true, Nat.reduceAdd, *]; done) | (refine id ?_; simp only [gxD]; omega)) only [↓gxPre, gxPost, ↓reduceIte, Nat.reduceEqDiff, reduceCtorEq, Nat.reduceAdd, hb, hv.len, h1, h2]
    have : within xs.length 1 8 = false := by simp [within]; omega
    simp only [schemeF, this, Bool.false_and]
  simp (disch := first | assumption | omega | rfl | (refine id ?_; simp only [gxD, ne_eq, reduceCtorEq, not_false_eq_true, Nat.reduceAdd, *]; done) | (refine id ?_; simp only [gxD]; omega)) only [↓gxPre, gxPost, ↓reduceIte, Nat.reduceEqDiff, reduceCtorEq, Nat.reduceAdd, hb, hv.len, h1, h2]
  refine callR_pure (s_l02Finite_ok hv hn) (.inl rfl) ?_
  cases h3 : xs.all finF
  · simp (disch := first | assumption | omega | rfl | (refine id ?_; simp only [gxD, ne_eq, reduceCtorEq, not_false_eq_true, Nat.reduceAdd, *]; done) | (refine id ?_; simp only [gxD]; omega)) only [↓gxPre, gxPost, ↓reduceIte, Nat.reduceEqDiff, reduceCtorEq, Nat.reduceAdd]
    simp only [schemeF, h3, Bool.and_false, Bool.false_and]
  simp (disch := first | assumption | omega | rfl | (refine id ?_; simp only [gxD, ne_eq, reduceCtorEq, not_false_eq_true, Nat.reduceAdd, *]; done) | (refine id ?_; simp only [gxD]; omega)) only [↓gxPre, gxPost, ↓reduceIte, Nat.reduceEqDiff, reduceCtorEq, Nat.reduceAdd, hb]
  refine callR_pure (s_l02Above_ok) (by first | exact Or.inl rfl | (simp (disch := first | assumption | omega | rfl | (refine id ?_; simp only [gxD, ne_eq, reduceCtorEq, not_false_eq_true, Nat.reduceAdd, *]; done) | (refine id ?_; simp only [gxD]; omega)) only [↓gxPre, gxPost, ↓reduceIte, Nat.reduceEqDiff, reduceCtorEq, Nat.reduceAdd, *]; done)) ?_
  simp (disch := first | assumption | omega | rfl | (refine id ?_; simp only [gxD, ne_eq, reduceCtorEq, not_false_eq_true, Nat.reduceAdd, *]; done) | (refine id ?_; simp only [gxD]; omega)) only [↓gxPre, gxPost, ↓reduceIte, Nat.reduceEqDiff, reduceCtorEq, Nat.reduceAdd, *]
  simp only [schemeF, within_true.2 ⟨h1, h2⟩, h3, overF, Bool.true_and]
theorem i_IsList_ok {H : Heap} {v : Value} {xs : List Nat} (hv : FS H v xs) (hn : xs.length ≤ 2 ^ 40) : ACalls Try.prog n_i_IsList [v] H fun r H' => r = .bool (isLongF xs) ∧ Ext H H' := by
  refine k_i_IsList.run rfl ?_
  unfold c_i_IsList
  have hv1 := hv.one
  ((try simp (disch := first | assumption | omega | rfl | (refine id ?_; simp only [gxD, ne_eq, reduceCtorEq, not_false_eq_true, Nat.reduceAdd, *]; done) | (refine id ?_; simp only [gxD]; omega)) only [↓gxPre, gxPost, ↓reduceIte, Nat.reduceEqDiff, reduceCtorEq, Nat.reduceAdd, hv.len, *]); repeat' (first | (refine grdR_split (fun _ => ?_) (fun _ => ?_) <;> simp (disch := first | assumption | omega | rfl | (refine id ?_; simp only [gxD, ne_eq, reduceCtorEq, not_false_eq_true, Nat.reduceAdd, *]; done) | (refine id ?_; simp only [gxD]; omega)) only [↓gxPre, gxPost, ↓reduceIte, Nat.reduceEqDiff, reduceCtorEq, Nat.reduceAdd, hv.len, *]) | (refine condR_split (fun _ => ?_) (fun _ => ?_) <;> simp (disch := first | assumption | omega | rfl | (refine id ?_; simp only [gxD, ne_eq, reduceCtorEq, not_false_eq_true, Nat.reduceAdd, *]; done) | (refine id ?_; simp only [gxD]; omega)) only [↓gxPre, gxPost, ↓reduceIte, Nat.reduceEqDiff, reduceCtorEq, Nat.reduceAdd, hv.len, *]) | (refine callR_pure (i_within_ok) (by first | exact Or.inl rfl | (simp (disch := first | assumption | omega | rfl | (refine id ?_; simp only [gxD, ne_eq, reduceCtorEq, not_false_eq_true, Nat.reduceAdd, *]; done) | (refine id ?_; simp only [gxD]; omega)) only [↓gxPre, gxPost, ↓reduceIte, Nat.reduceEqDiff, reduceCtorEq, Nat.reduceAdd, hv.len, *]; done)) ?_; simp (disch := first | assumption | omega | rfl | (refine id ?_; simp only [gxD, ne_eq, reduceCtorEq, not_false_eq_true, Nat.reduceAdd, *]; done) | (refine id ?_; simp only [gxD]; omega)) only [↓gxPre, gxPost, ↓reduceIte, Nat.reduceEqDiff, reduceCtorEq, Nat.reduceAdd, hv.len, *]) | (refine callR_pure (i_areFinite1_ok (by simp (disch := first | assumption | omega | rfl | (refine id ?_; simp only [gxD, ne_eq, reduceCtorEq, not_false_eq_true, Nat.reduceAdd, *]; done) | (refine id ?_; simp only [gxD]; omega)) only [↓gxPre, gxPost, ↓reduceIte, Nat.reduceEqDiff, reduceCtorEq, Nat.reduceAdd, *]; rfl) (by first | omega | (simp only [new_n, put_n]; omega)) (hv.ext ⟨by first | omega | (simp only [new_n, put_n]; omega) | (simp only [new_n, put_n] at *; omega), fun i hi => by simp (disch := first | assumption | omega | rfl | (refine id ?_; simp only [gxD, ne_eq, reduceCtorEq, not_false_eq_true, Nat.reduceAdd, *]; done) | (refine id ?_; simp only [gxD]; omega)) only [↓gxPre, gxPost, ↓reduceIte, Nat.reduceEqDiff, reduceCtorEq, Nat.reduceAdd, *]⟩) hn) (by first | exact Or.inl rfl | (simp (disch := first | assumption | omega | rfl | (refine id ?_; simp only [gxD, ne_eq, reduceCtorEq, not_false_eq_true, Nat.reduceAdd, *]; done) | (refine id ?_; simp only [gxD]; omega)) only [↓gxPre, gxPost, ↓reduceIte, Nat.reduceEqDiff, reduceCtorEq, Nat.reduceAdd, hv.len, *]; done)) ?_; simp (disch := first | assumption | omega | rfl | (refine id ?_; simp only [gxD, ne_eq, reduceCtorEq, not_false_eq_true, Nat.reduceAdd, *]; done) | (refine id ?_; simp only [gxD]; omega)) only [↓gxPre, gxPost, ↓reduceIte, Nat.reduceEqDiff, reduceCtorEq, Nat.reduceAdd, hv.len, *])))
  all_goals first | exact ⟨by simp_all [isLongF], ⟨by first | omega | (simp only [new_n, put_n]; omega) | (simp only [new_n, put_n] at *; omega), fun i hi => by simp (disch := first | assumption | omega | rfl | (refine id ?_; simp only [gxD, ne_eq, reduceCtorEq, not_false_eq_true, Nat.reduceAdd, *]; done) | (refine id ?_; simp only [gxD]; omega)) only [↓gxPre, gxPost, ↓reduceIte, Nat.reduceEqDiff, reduceCtorEq, Nat.reduceAdd, *]⟩⟩ | simp_all [isLongF]
theorem s_l02Is_ok {H : Heap} {v : Value} {xs : List Nat} (hv : FS H v xs) (hn : xs.length ≤ 2 ^ 40) : ACalls Try.prog n_s_l02Is [v] H fun r H' => r = .bool (isLongF xs) ∧ H' = H := by
  refine k_s_l02Is.run rfl ?_
  unfold c_s_l02Is
  ((try simp (disch := first | assumption | omega | rfl | (refine id ?_; simp only [gxD, ne_eq, reduceCtorEq, not_false_eq_true, Nat.reduceAdd, *]; done) | (refine id ?_; simp only [gxD]; omega)) only [↓gxPre, gxPost, ↓reduceIte, Nat.reduceEqDiff, reduceCtorEq, Nat.reduceAdd, hv.len, *]); repeat' (first | (refine grdR_split (fun _ => ?_) (fun _ => ?_) <;> simp (disch := first | assumption | omega | rfl | (refine id ?_; simp only [gxD, ne_eq, reduceCtorEq, not_false_eq_true, Nat.reduceAdd, *]; done) | (refine id ?_; simp only [gxD]; omega)) only [↓gxPre, gxPost, ↓reduceIte, Nat.reduceEqDiff, reduceCtorEq, Nat.reduceAdd, hv.len, *]) | (refine condR_split (fun _ => ?_) (fun _ => ?_) <;> simp (disch := first | assumption | omega | rfl | (refine id ?_; simp only [gxD, ne_eq, reduceCtorEq, not_false_eq_true, Nat.reduceAdd, *]; done) | (refine id ?_; simp only [gxD]; omega)) only [↓gxPre, gxPost, ↓reduceIte, Nat.reduceEqDiff, reduceCtorEq, Nat.reduceAdd, hv.len, *]) | (refine callR_pure (s_l02Finite_ok hv hn) (by first | exact Or.inl rfl | (simp (disch := first | assumption | omega | rfl | (refine id ?_; simp only [gxD, ne_eq, reduceCtorEq, not_false_eq_true, Nat.reduceAdd, *]; done) | (refine id ?_; simp only [gxD]; omega)) only [↓gxPre, gxPost, ↓reduceIte, Nat.reduceEqDiff, reduceCtorEq, Nat.reduceAdd, hv.len, *]; done)) ?_; simp (disch := first | assumption | omega | rfl | (refine id ?_; simp only [gxD, ne_eq, reduceCtorEq, not_false_eq_true, Nat.reduceAdd, *]; done) | (refine id ?_; simp only [gxD]; omega)) only [↓gxPre, gxPost, ↓reduceIte, Nat.reduceEqDiff, reduceCtorEq, Nat.reduceAdd, hv.len, *])))
  all_goals (simp_all [isLongF, within]; try omega)
theorem i_weigh_1_ok {H : Heap} {h j n b c w x y : Nat} {bk : Bool} {ty sb sc : TypeId} {ob oc : Bool} {xs : List Nat} (hb : H.blk h = some ⟨true, ty, xs.map fv⟩) (hn : xs.length = n) (hj : j < n) (h1 : H.blk b = some ⟨ob, sb, [.float .f32 w]⟩) (h2 : H.blk c = some ⟨oc, sc, [.bool bk]⟩) (hw : nanB .f32 w = false) :
    ACalls Try.prog n_i_weigh_1 [.pointer (some ⟨h, j, some n⟩), .float .f32 x, .float .f32 y, .pointer (some ⟨b, 0, some 1⟩), .pointer (some ⟨c, 0, some 1⟩)] H fun r H' => r = .tuple #[] ∧ H' = H.put h ⟨true, ty, (xs.set j (addF (xs.getD j 0) (mulF (if bk = true then fneg .f32 w else w) (addF x y)))).map fv⟩ := by
  have hl : (xs.map fv).length = n := by rw [lMapN, hn]
  have ha : (xs.map fv)[j]? = some (.float .f32 (xs.getD j 0)) := by simp [List.getD_eq_getElem?_getD, hn, hj, fv]
  refine k_i_weigh_1.run rfl ?_
  unfold c_i_weigh_1
  cases bk
  · simp (disch := first | assumption | omega | rfl | (refine id ?_; simp only [gxD, ne_eq, reduceCtorEq, not_false_eq_true, Nat.reduceAdd, *]; done) | (refine id ?_; simp only [gxD]; omega)) only [↓gxPre, gxPost, ↓reduceIte, Nat.reduceEqDiff, reduceCtorEq, Nat.reduceAdd, h1, h2, hb, ha, ares_0]
    rw [fv_set']; rfl
  · have hs := sub_mul_neg (x := xs.getD j 0) (w := w) (y := addF x y) hw
    unfold addF at hs
    simp (disch := first | assumption | omega | rfl | (refine id ?_; simp only [gxD, ne_eq, reduceCtorEq, not_false_eq_true, Nat.reduceAdd, *]; done) | (refine id ?_; simp only [gxD]; omega)) only [↓gxPre, gxPost, ↓reduceIte, Nat.reduceEqDiff, reduceCtorEq, Nat.reduceAdd, h1, h2, hb, ha, ares_0]
    rw [fv_set', hs]; rfl
theorem i_weigh_ok {H : Heap} {a b k w : Nat} {bk : Bool} {ev od : List Nat} (ha : H.blk a = some ⟨true, t_float32, ev.map fv⟩) (hb : H.blk b = some ⟨true, t_float32, od.map fv⟩) (hab : a ≠ b) (han : a < H.n) (hbn : b < H.n) (h1 : 1 ≤ od.length) (h2 : od.length ≤ ev.length) (h3 : ev.length ≤ od.length + 1) (h4 : ev.length ≤ 2 ^ 30) (hw : nanB .f32 w = false) (hk : k ≤ 2 ^ 30) :
    ACalls Try.prog n_i_weigh [.slice (some ⟨a, 0, none⟩) ev.length ev.length, .slice (some ⟨b, 0, none⟩) od.length od.length, .int .i64 k, .float .f32 w, .bool bk] H fun r H' => r = .tuple #[] ∧ H.n ≤ H'.n ∧
      H'.blk a = some ⟨true, t_float32, (weighF k (if bk = true then fneg .f32 w else w) (ev, od)).1.map fv⟩ ∧ H'.blk b = some ⟨true, t_float32, (weighF k (if bk = true then fneg .f32 w else w) (ev, od)).2.map fv⟩ ∧ ∀ i, i < H.n → i ≠ a → i ≠ b → H'.blk i = H.blk i := by
  obtain ⟨w', hw'⟩ : ∃ w', w' = if bk = true then fneg .f32 w else w := ⟨_, rfl⟩
  rw [← hw']
  refine k_i_weigh.run rfl ?_
  unfold c_i_weigh
  by_cases hp : k % 2 = 0
  · have hp' : ((k % 2 : Nat) : Int) = 0 := by omega
    have hW : weighF k w' (ev, od) = (ev, (List.range od.length).map (wO ev od w')) := by unfold weighF; rw [if_pos hp]
    rw [hW]
    simp (disch := first | assumption | omega | rfl | (refine id ?_; simp only [gxD, ne_eq, reduceCtorEq, not_false_eq_true, Nat.reduceAdd, *]; done) | (refine id ?_; simp only [gxD]; omega)) only [↓gxPre, gxPost, ↓reduceIte, Nat.reduceEqDiff, reduceCtorEq, Nat.reduceAdd, tmod2, hp']
    have hu0 : updF (wO ev od w') od 0 = od := updF_zero _ _
    refine loop_forH od.length (fun j => [.slice (some ⟨a, 0, none⟩) ev.length ev.length, .slice (some ⟨b, 0, none⟩) od.length od.length, .func (.func n_i_weigh_1) #[] #[.pointer (some ⟨H.n, 0, some 1⟩), .pointer (some ⟨H.n + 1, 0, some 1⟩)], .int .i64 od.length, .int .i64 j])
      (fun j G => G.n = H.n + 2 ∧ G.blk a = some ⟨true, t_float32, ev.map fv⟩ ∧ G.blk b = some ⟨true, t_float32, (updF (wO ev od w') od j).map fv⟩ ∧ G.blk H.n = some ⟨true, t_float32, [.float .f32 w]⟩ ∧ G.blk (H.n + 1) = some ⟨true, t_bool, [.bool bk]⟩ ∧ ∀ i, i < H.n → i ≠ a → i ≠ b → G.blk i = H.blk i) rfl
      ⟨by simp [new_n], by simp (disch := first | assumption | omega | rfl | (refine id ?_; simp only [gxD, ne_eq, reduceCtorEq, not_false_eq_true, Nat.reduceAdd, *]; done) | (refine id ?_; simp only [gxD]; omega)) only [↓gxPre, gxPost, ↓reduceIte, Nat.reduceEqDiff, reduceCtorEq, Nat.reduceAdd, ha], by rw [hu0]; simp (disch := first | assumption | omega | rfl | (refine id ?_; simp only [gxD, ne_eq, reduceCtorEq, not_false_eq_true, Nat.reduceAdd, *]; done) | (refine id ?_; simp only [gxD]; omega)) only [↓gxPre, gxPost, ↓reduceIte, Nat.reduceEqDiff, reduceCtorEq, Nat.reduceAdd, hb], by simp (disch := first | assumption | omega | rfl | (refine id ?_; simp only [gxD, ne_eq, reduceCtorEq, not_false_eq_true, Nat.reduceAdd, *]; done) | (refine id ?_; simp only [gxD]; omega)) only [↓gxPre, gxPost, ↓reduceIte, Nat.reduceEqDiff, reduceCtorEq, Nat.reduceAdd], by simp (disch := first | assumption | omega | rfl | (refine id ?_; simp only [gxD, ne_eq, reduceCtorEq, not_false_eq_true, Nat.reduceAdd, *]; done) | (refine id ?_; simp only [gxD]; omega)) only [↓gxPre, gxPost, ↓reduceIte, Nat.reduceEqDiff, reduceCtorEq, Nat.reduceAdd], fun i h1 _ _ => by simp (disch := first | assumption | omega | rfl | (refine id ?_; simp only [gxD, ne_eq, reduceCtorEq, not_false_eq_true, Nat.reduceAdd, *]; done) | (refine id ?_; simp only [gxD]; omega)) only [↓gxPre, gxPost, ↓reduceIte, Nat.reduceEqDiff, reduceCtorEq, Nat.reduceAdd]⟩ ?_ ?_
    · rintro G ⟨hG, hga, hgb, _, _, hF⟩
      rw [updF_all] at hgb
      simp (disch := first | assumption | omega | rfl | (refine id ?_; simp only [gxD, ne_eq, reduceCtorEq, not_false_eq_true, Nat.reduceAdd, *]; done) | (refine id ?_; simp only [gxD]; omega)) only [↓gxPre, gxPost, ↓reduceIte, Nat.reduceEqDiff, reduceCtorEq, Nat.reduceAdd, Int.lt_irrefl, ares_0]
      exact ⟨by omega, hga, hgb, hF⟩
    · rintro j G hj ⟨hG, hga, hgb, hx, hy, hF⟩
      have lo := updF_length (wO ev od w') od j
      have lo' : ((updF (wO ev od w') od j).map fv).length = od.length := by rw [lMapN, lo]
      have gj : (updF (wO ev od w') od j).getD j 0 = od.getD j 0 := by
        have := updF_at (g := wO ev od w') hj
        simp [List.getD_eq_getElem?_getD, fv, lo, hj] at this
        simpa [List.getD_eq_getElem?_getD, lo, hj] using this
      simp (disch := first | assumption | omega | rfl | (refine id ?_; simp only [gxD, ne_eq, reduceCtorEq, not_false_eq_true, Nat.reduceAdd, *]; done) | (refine id ?_; simp only [gxD]; omega)) only [↓gxPre, gxPost, ↓reduceIte, Nat.reduceEqDiff, reduceCtorEq, Nat.reduceAdd]
      refine callR_pure (i_besideOdd_f_ok (FS.own hga (by omega) rfl) (by omega) (by omega)) (by first | exact .inl rfl | (simp (disch := first | assumption | omega | rfl | (refine id ?_; simp only [gxD, ne_eq, reduceCtorEq, not_false_eq_true, Nat.reduceAdd, *]; done) | (refine id ?_; simp only [gxD]; omega)) only [↓gxPre, gxPost, ↓reduceIte, Nat.reduceEqDiff, reduceCtorEq, Nat.reduceAdd]; done)) ?_
      simp (disch := first | assumption | omega | rfl | (refine id ?_; simp only [gxD, ne_eq, reduceCtorEq, not_false_eq_true, Nat.reduceAdd, *]; done) | (refine id ?_; simp only [gxD]; omega)) only [↓gxPre, gxPost, ↓reduceIte, Nat.reduceEqDiff, reduceCtorEq, Nat.reduceAdd, hgb]
      refine callR_of (i_weigh_1_ok hgb lo hj hx hy hw) ?_
      rw [← hw', gj, show addF (od.getD j 0) (mulF w' (addF (ev.getD j 0) (ev.getD (min (j + 1) (ev.length - 1)) 0))) = wO ev od w' j from rfl, updF_set]
      rintro _ _ ⟨rfl, rfl⟩
      simp (disch := first | assumption | omega | rfl | (refine id ?_; simp only [gxD, ne_eq, reduceCtorEq, not_false_eq_true, Nat.reduceAdd, *]; done) | (refine id ?_; simp only [gxD]; omega)) only [↓gxPre, gxPost, ↓reduceIte, Nat.reduceEqDiff, reduceCtorEq, Nat.reduceAdd]
      refine ⟨by simp, hG, ?_, ?_, ?_, fun i h1 h2 h3 => ?_⟩
      · first | exact hga | rw [hput_other _ _ _ _ hab, hga]
      · first | exact hx | rw [hput_other _ _ _ _ (by omega), hx]
      · first | exact hy | rw [hput_other _ _ _ _ (by omega), hy]
      · first | exact hF i h1 h2 h3 | rw [hput_other _ _ _ _ h3, hF i h1 h2 h3]
  · have hp' : ¬ ((k % 2 : Nat) : Int) = 0 := by omega
    have hW : weighF k w' (ev, od) = ((List.range ev.length).map (wE ev od w'), od) := by unfold weighF; rw [if_neg hp]
    rw [hW]
    simp (disch := first | assumption | omega | rfl | (refine id ?_; simp only [gxD, ne_eq, reduceCtorEq, not_false_eq_true, Nat.reduceAdd, *]; done) | (refine id ?_; simp only [gxD]; omega)) only [↓gxPre, gxPost, ↓reduceIte, Nat.reduceEqDiff, reduceCtorEq, Nat.reduceAdd, tmod2, hp']
    have hu0 : updF (wE ev od w') ev 0 = ev := updF_zero _ _
    refine loop_forH ev.length (fun j => [.slice (some ⟨a, 0, none⟩) ev.length ev.length, .slice (some ⟨b, 0, none⟩) od.length od.length, .func (.func n_i_weigh_1) #[] #[.pointer (some ⟨H.n, 0, some 1⟩), .pointer (some ⟨H.n + 1, 0, some 1⟩)], .int .i64 ev.length, .int .i64 j])
      (fun j G => G.n = H.n + 2 ∧ G.blk a = some ⟨true, t_float32, (updF (wE ev od w') ev j).map fv⟩ ∧ G.blk b = some ⟨true, t_float32, od.map fv⟩ ∧ G.blk H.n = some ⟨true, t_float32, [.float .f32 w]⟩ ∧ G.blk (H.n + 1) = some ⟨true, t_bool, [.bool bk]⟩ ∧ ∀ i, i < H.n → i ≠ a → i ≠ b → G.blk i = H.blk i) rfl
      ⟨by simp [new_n], by rw [hu0]; simp (disch := first | assumption | omega | rfl | (refine id ?_; simp only [gxD, ne_eq, reduceCtorEq, not_false_eq_true, Nat.reduceAdd, *]; done) | (refine id ?_; simp only [gxD]; omega)) only [↓gxPre, gxPost, ↓reduceIte, Nat.reduceEqDiff, reduceCtorEq, Nat.reduceAdd, ha], by simp (disch := first | assumption | omega | rfl | (refine id ?_; simp only [gxD, ne_eq, reduceCtorEq, not_false_eq_true, Nat.reduceAdd, *]; done) | (refine id ?_; simp only [gxD]; omega)) only [↓gxPre, gxPost, ↓reduceIte, Nat.reduceEqDiff, reduceCtorEq, Nat.reduceAdd, hb], by simp (disch := first | assumption | omega | rfl | (refine id ?_; simp only [gxD, ne_eq, reduceCtorEq, not_false_eq_true, Nat.reduceAdd, *]; done) | (refine id ?_; simp only [gxD]; omega)) only [↓gxPre, gxPost, ↓reduceIte, Nat.reduceEqDiff, reduceCtorEq, Nat.reduceAdd], by simp (disch := first | assumption | omega | rfl | (refine id ?_; simp only [gxD, ne_eq, reduceCtorEq, not_false_eq_true, Nat.reduceAdd, *]; done) | (refine id ?_; simp only [gxD]; omega)) only [↓gxPre, gxPost, ↓reduceIte, Nat.reduceEqDiff, reduceCtorEq, Nat.reduceAdd], fun i h1 _ _ => by simp (disch := first | assumption | omega | rfl | (refine id ?_; simp only [gxD, ne_eq, reduceCtorEq, not_false_eq_true, Nat.reduceAdd, *]; done) | (refine id ?_; simp only [gxD]; omega)) only [↓gxPre, gxPost, ↓reduceIte, Nat.reduceEqDiff, reduceCtorEq, Nat.reduceAdd]⟩ ?_ ?_
    · rintro G ⟨hG, hga, hgb, _, _, hF⟩
      rw [updF_all] at hga
      simp (disch := first | assumption | omega | rfl | (refine id ?_; simp only [gxD, ne_eq, reduceCtorEq, not_false_eq_true, Nat.reduceAdd, *]; done) | (refine id ?_; simp only [gxD]; omega)) only [↓gxPre, gxPost, ↓reduceIte, Nat.reduceEqDiff, reduceCtorEq, Nat.reduceAdd, Int.lt_irrefl, ares_0]
      exact ⟨by omega, hga, hgb, hF⟩
    · rintro j G hj ⟨hG, hga, hgb, hx, hy, hF⟩
      have lo := updF_length (wE ev od w') ev j
      have lo' : ((updF (wE ev od w') ev j).map fv).length = ev.length := by rw [lMapN, lo]
      have gj : (updF (wE ev od w') ev j).getD j 0 = ev.getD j 0 := by
        have := updF_at (g := wE ev od w') hj
        simp [List.getD_eq_getElem?_getD, fv, lo, hj] at this
        simpa [List.getD_eq_getElem?_getD, lo, hj] using this
      simp (disch := first | assumption | omega | rfl | (refine id ?_; simp only [gxD, ne_eq, reduceCtorEq, not_false_eq_true, Nat.reduceAdd, *]; done) | (refine id ?_; simp only [gxD]; omega)) only [↓gxPre, gxPost, ↓reduceIte, Nat.reduceEqDiff, reduceCtorEq, Nat.reduceAdd]
      refine callR_pure (i_besideEven_f_ok (FS.own hgb (by omega) rfl) (by omega) (by omega) (by omega)) (by first | exact .inl rfl | (simp (disch := first | assumption | omega | rfl | (refine id ?_; simp only [gxD, ne_eq, reduceCtorEq, not_false_eq_true, Nat.reduceAdd, *]; done) | (refine id ?_; simp only [gxD]; omega)) only [↓gxPre, gxPost, ↓reduceIte, Nat.reduceEqDiff, reduceCtorEq, Nat.reduceAdd]; done)) ?_
      simp (disch := first | assumption | omega | rfl | (refine id ?_; simp only [gxD, ne_eq, reduceCtorEq, not_false_eq_true, Nat.reduceAdd, *]; done) | (refine id ?_; simp only [gxD]; omega)) only [↓gxPre, gxPost, ↓reduceIte, Nat.reduceEqDiff, reduceCtorEq, Nat.reduceAdd, hga]
      refine callR_of (i_weigh_1_ok hga lo hj hx hy hw) ?_
      rw [← hw', gj, show addF (ev.getD j 0) (mulF w' (addF (od.getD (j - 1) 0) (od.getD (min j (od.length - 1)) 0))) = wE ev od w' j from rfl, updF_set]
      rintro _ _ ⟨rfl, rfl⟩
      simp (disch := first | assumption | omega | rfl | (refine id ?_; simp only [gxD, ne_eq, reduceCtorEq, not_false_eq_true, Nat.reduceAdd, *]; done) | (refine id ?_; simp only [gxD]; omega)) only [↓gxPre, gxPost, ↓reduceIte, Nat.reduceEqDiff, reduceCtorEq, Nat.reduceAdd]
      refine ⟨by simp, hG, ?_, ?_, ?_, fun i h1 h2 h3 => ?_⟩
      · first | exact hgb | rw [hput_other _ _ _ _ (Ne.symm hab), hgb]
      · first | exact hx | rw [hput_other _ _ _ _ (by omega), hx]
      · first | exact hy | rw [hput_other _ _ _ _ (by omega), hy]
      · first | exact hF i h1 h2 h3 | rw [hput_other _ _ _ _ h2, hF i h1 h2 h3]
theorem s_l02Weigh_ok {H : Heap} {a b k w : Nat} {ev od : List Nat} (ha : H.blk a = some ⟨true, t_float32, ev.map fv⟩) (hb : H.blk b = some ⟨true, t_float32, od.map fv⟩) (hab : a ≠ b) (han : a < H.n) (hbn : b < H.n) (h1 : 1 ≤ od.length) (h2 : od.length ≤ ev.length) (h3 : ev.length ≤ od.length + 1) (h4 : ev.length ≤ 2 ^ 30) (hk : k ≤ 2 ^ 30) :
    ACalls Try.prog n_s_l02Weigh [.slice (some ⟨a, 0, none⟩) ev.length ev.length, .slice (some ⟨b, 0, none⟩) od.length od.length, .int .i64 k, .float .f32 w] H fun r H' => r = .tuple #[] ∧ H.n ≤ H'.n ∧
      H'.blk a = some ⟨true, t_float32, (weighF k w (ev, od)).1.map fv⟩ ∧ H'.blk b = some ⟨true, t_float32, (weighF k w (ev, od)).2.map fv⟩ ∧ ∀ i, i < H.n → i ≠ a → i ≠ b → H'.blk i = H.blk i := by
  refine k_s_l02Weigh.run rfl ?_
  unfold c_s_l02Weigh
  by_cases hp : k % 2 = 0
  · have hp' : ((k % 2 : Nat) : Int) = 0 := by omega
    have hW : weighF k w (ev, od) = (ev, (List.range od.length).map (wO ev od w)) := by unfold weighF; rw [if_pos hp]
    rw [hW]
    simp (disch := first | assumption | omega | rfl | (refine id ?_; simp only [gxD, ne_eq, reduceCtorEq, not_false_eq_true, Nat.reduceAdd, *]; done) | (refine id ?_; simp only [gxD]; omega)) only [↓gxPre, gxPost, ↓reduceIte, Nat.reduceEqDiff, reduceCtorEq, Nat.reduceAdd, tmod2, hp']
    have hu0 : updF (wO ev od w) od 0 = od := updF_zero _ _
    refine loop_forH od.length (fun j => [.slice (some ⟨a, 0, none⟩) ev.length ev.length, .slice (some ⟨b, 0, none⟩) od.length od.length, .float .f32 w, .int .i64 j])
      (fun j G => G.n = H.n ∧ G.blk a = some ⟨true, t_float32, ev.map fv⟩ ∧ G.blk b = some ⟨true, t_float32, (updF (wO ev od w) od j).map fv⟩ ∧ ∀ i, i < H.n → i ≠ a → i ≠ b → G.blk i = H.blk i) rfl
      ⟨rfl, ha, by rw [hu0]; exact hb, fun i h1 _ _ => rfl⟩ ?_ ?_
    · rintro G ⟨hG, hga, hgb, hF⟩
      rw [updF_all] at hgb
      simp (disch := first | assumption | omega | rfl | (refine id ?_; simp only [gxD, ne_eq, reduceCtorEq, not_false_eq_true, Nat.reduceAdd, *]; done) | (refine id ?_; simp only [gxD]; omega)) only [↓gxPre, gxPost, ↓reduceIte, Nat.reduceEqDiff, reduceCtorEq, Nat.reduceAdd, Int.lt_irrefl, ares_0]
      exact ⟨by omega, hga, hgb, hF⟩
    · rintro j G hj ⟨hG, hga, hgb, hF⟩
      have lo := updF_length (wO ev od w) od j
      have lo' : ((updF (wO ev od w) od j).map fv).length = od.length := by rw [lMapN, lo]
      have hat := updF_at (g := wO ev od w) hj
      have he : (ev.map fv)[j]? = some (.float .f32 (ev.getD j 0)) := by
        have : j < ev.length := by omega
        simp [List.getD_eq_getElem?_getD, this, fv]
      have e2 : (max 0 (min ((ev.length : Int) - 1) ((j : Int) + 1))).toNat = min (j + 1) (ev.length - 1) := by omega
      have hs : ((updF (wO ev od w) od j).map fv).set j (.float .f32 (wO ev od w j)) = (updF (wO ev od w) od (j + 1)).map fv := by rw [fv_set', updF_set]
      simp (disch := first | assumption | omega | rfl | (refine id ?_; simp only [gxD, ne_eq, reduceCtorEq, not_false_eq_true, Nat.reduceAdd, *]; done) | (refine id ?_; simp only [gxD]; omega)) only [↓gxPre, gxPost, ↓reduceIte, Nat.reduceEqDiff, reduceCtorEq, Nat.reduceAdd, hgb, hga, hat, he]
      refine callR_pure (s_l02Beside_ok (FS.own hga (by omega) rfl) (by omega) (by omega) (by omega) (by omega)) (by first | exact .inl rfl | (simp (disch := first | assumption | omega | rfl | (refine id ?_; simp only [gxD, ne_eq, reduceCtorEq, not_false_eq_true, Nat.reduceAdd, *]; done) | (refine id ?_; simp only [gxD]; omega)) only [↓gxPre, gxPost, ↓reduceIte, Nat.reduceEqDiff, reduceCtorEq, Nat.reduceAdd, hgb, hga, hat, he]; done)) ?_
      simp (disch := first | assumption | omega | rfl | (refine id ?_; simp only [gxD, ne_eq, reduceCtorEq, not_false_eq_true, Nat.reduceAdd, *]; done) | (refine id ?_; simp only [gxD]; omega)) only [↓gxPre, gxPost, ↓reduceIte, Nat.reduceEqDiff, reduceCtorEq, Nat.reduceAdd, hgb, hga, hat, he, e2]
      refine ⟨by simp, hG, ?_, fun i h1 h2 h3 => ?_⟩
      · first | exact congrArg (fun l => some (Blk.mk true t_float32 l)) hs | (rw [hput_self]; exact congrArg (fun l => some (Blk.mk true t_float32 l)) hs)
      · first | exact hF i h1 h2 h3 | rw [hput_other _ _ _ _ h3, hF i h1 h2 h3]
  · have hp' : ¬ ((k % 2 : Nat) : Int) = 0 := by omega
    have hW : weighF k w (ev, od) = ((List.range ev.length).map (wE ev od w), od) := by unfold weighF; rw [if_neg hp]
    rw [hW]
    simp (disch := first | assumption | omega | rfl | (refine id ?_; simp only [gxD, ne_eq, reduceCtorEq, not_false_eq_true, Nat.reduceAdd, *]; done) | (refine id ?_; simp only [gxD]; omega)) only [↓gxPre, gxPost, ↓reduceIte, Nat.reduceEqDiff, reduceCtorEq, Nat.reduceAdd, tmod2, hp']
    have hu0 : updF (wE ev od w) ev 0 = ev := updF_zero _ _
    refine loop_forH ev.length (fun j => [.slice (some ⟨a, 0, none⟩) ev.length ev.length, .slice (some ⟨b, 0, none⟩) od.length od.length, .float .f32 w, .int .i64 j])
      (fun j G => G.n = H.n ∧ G.blk a = some ⟨true, t_float32, (updF (wE ev od w) ev j).map fv⟩ ∧ G.blk b = some ⟨true, t_float32, od.map fv⟩ ∧ ∀ i, i < H.n → i ≠ a → i ≠ b → G.blk i = H.blk i) rfl
      ⟨rfl, by rw [hu0]; exact ha, hb, fun i h1 _ _ => rfl⟩ ?_ ?_
    · rintro G ⟨hG, hga, hgb, hF⟩
      rw [updF_all] at hga
      simp (disch := first | assumption | omega | rfl | (refine id ?_; simp only [gxD, ne_eq, reduceCtorEq, not_false_eq_true, Nat.reduceAdd, *]; done) | (refine id ?_; simp only [gxD]; omega)) only [↓gxPre, gxPost, ↓reduceIte, Nat.reduceEqDiff, reduceCtorEq, Nat.reduceAdd, Int.lt_irrefl, ares_0]
      exact ⟨by omega, hga, hgb, hF⟩
    · rintro j G hj ⟨hG, hga, hgb, hF⟩
      have lo := updF_length (wE ev od w) ev j
      have lo' : ((updF (wE ev od w) ev j).map fv).length = ev.length := by rw [lMapN, lo]
      have hat := updF_at (g := wE ev od w) hj
      have e1 : (max 0 (min ((od.length : Int) - 1) ((j : Int) - 1))).toNat = j - 1 := by omega
      have e2 : (max 0 (min ((od.length : Int) - 1) (j : Int))).toNat = min j (od.length - 1) := by omega
      have hs : ((updF (wE ev od w) ev j).map fv).set j (.float .f32 (wE ev od w j)) = (updF (wE ev od w) ev (j + 1)).map fv := by rw [fv_set', updF_set]
      simp (disch := first | assumption | omega | rfl | (refine id ?_; simp only [gxD, ne_eq, reduceCtorEq, not_false_eq_true, Nat.reduceAdd, *]; done) | (refine id ?_; simp only [gxD]; omega)) only [↓gxPre, gxPost, ↓reduceIte, Nat.reduceEqDiff, reduceCtorEq, Nat.reduceAdd, hgb, hga, hat]
      refine callR_pure (s_l02Beside_ok (FS.own hgb (by omega) rfl) (by omega) (by omega) (by omega) (by omega)) (by first | exact .inl rfl | (simp (disch := first | assumption | omega | rfl | (refine id ?_; simp only [gxD, ne_eq, reduceCtorEq, not_false_eq_true, Nat.reduceAdd, *]; done) | (refine id ?_; simp only [gxD]; omega)) only [↓gxPre, gxPost, ↓reduceIte, Nat.reduceEqDiff, reduceCtorEq, Nat.reduceAdd, hgb, hga, hat]; done)) ?_
      simp (disch := first | assumption | omega | rfl | (refine id ?_; simp only [gxD, ne_eq, reduceCtorEq, not_false_eq_true, Nat.reduceAdd, *]; done) | (refine id ?_; simp only [gxD]; omega)) only [↓gxPre, gxPost, ↓reduceIte, Nat.reduceEqDiff, reduceCtorEq, Nat.reduceAdd, hgb, hga, hat, e1]
      refine callR_pure (s_l02Beside_ok (FS.own hgb (by omega) rfl) (by omega) (by omega) (by omega) (by omega)) (by first | exact .inl rfl | (simp (disch := first | assumption | omega | rfl | (refine id ?_; simp only [gxD, ne_eq, reduceCtorEq, not_false_eq_true, Nat.reduceAdd, *]; done) | (refine id ?_; simp only [gxD]; omega)) only [↓gxPre, gxPost, ↓reduceIte, Nat.reduceEqDiff, reduceCtorEq, Nat.reduceAdd, hgb, hga, hat]; done)) ?_
      simp (disch := first | assumption | omega | rfl | (refine id ?_; simp only [gxD, ne_eq, reduceCtorEq, not_false_eq_true, Nat.reduceAdd, *]; done) | (refine id ?_; simp only [gxD]; omega)) only [↓gxPre, gxPost, ↓reduceIte, Nat.reduceEqDiff, reduceCtorEq, Nat.reduceAdd, hgb, hga, hat, e2]
      refine ⟨by simp, hG, ?_, fun i h1 h2 h3 => ?_⟩
      · first | exact congrArg (fun l => some (Blk.mk true t_float32 l)) hs | (rw [hput_self]; exact congrArg (fun l => some (Blk.mk true t_float32 l)) hs)
      · first | exact hF i h1 h2 h3 | rw [hput_other _ _ _ _ h2, hF i h1 h2 h3]
theorem i_weigh_at {H : Heap} {a b k w n m : Nat} {bk : Bool} {ev od : List Nat} (ha : H.blk a = some ⟨true, t_float32, ev.map fv⟩) (hb : H.blk b = some ⟨true, t_float32, od.map fv⟩) (hn : ev.length = n) (hm : od.length = m) (hab : a ≠ b) (han : a < H.n) (hbn : b < H.n) (h1 : 1 ≤ m) (h2 : m ≤ n) (h3 : n ≤ m + 1) (h4 : n ≤ 2 ^ 30) (hw : nanB .f32 w = false) (hk : k ≤ 2 ^ 30) :
    ACalls Try.prog n_i_weigh [.slice (some ⟨a, 0, none⟩) n n, .slice (some ⟨b, 0, none⟩) m m, .int .i64 k, .float .f32 w, .bool bk] H fun r H' => r = .tuple #[] ∧ H.n ≤ H'.n ∧
      H'.blk a = some ⟨true, t_float32, (weighF k (if bk = true then fneg .f32 w else w) (ev, od)).1.map fv⟩ ∧ H'.blk b = some ⟨true, t_float32, (weighF k (if bk = true then fneg .f32 w else w) (ev, od)).2.map fv⟩ ∧ ∀ i, i < H.n → i ≠ a → i ≠ b → H'.blk i = H.blk i := by
  subst hn hm
  exact i_weigh_ok ha hb hab han hbn h1 h2 h3 h4 hw hk
theorem s_l02Weigh_at {H : Heap} {a b k w n m : Nat} {ev od : List Nat} (ha : H.blk a = some ⟨true, t_float32, ev.map fv⟩) (hb : H.blk b = some ⟨true, t_float32, od.map fv⟩) (hn : ev.length = n) (hm : od.length = m) (hab : a ≠ b) (han : a < H.n) (hbn : b < H.n) (h1 : 1 ≤ m) (h2 : m ≤ n) (h3 : n ≤ m + 1) (h4 : n ≤ 2 ^ 30) (hk : k ≤ 2 ^ 30) :
    ACalls Try.prog n_s_l02Weigh [.slice (some ⟨a, 0, none⟩) n n, .slice (some ⟨b, 0, none⟩) m m, .int .i64 k, .float .f32 w] H fun r H' => r = .tuple #[] ∧ H.n ≤ H'.n ∧
      H'.blk a = some ⟨true, t_float32, (weighF k w (ev, od)).1.map fv⟩ ∧ H'.blk b = some ⟨true, t_float32, (weighF k w (ev, od)).2.map fv⟩ ∧ ∀ i, i < H.n → i ≠ a → i ≠ b → H'.blk i = H.blk i := by
  subst hn hm
  exact s_l02Weigh_ok ha hb hab han hbn h1 h2 h3 h4 hk
theorem isLong_len {xs : List Nat} (h : isLongF xs = true) : xs.length ≤ 128 ∧ 1 ≤ xs.length := by
  simp only [isLongF, Bool.and_eq_true] at h
  have := within_true.1 h.1
  omega
def mulL (sc : Nat) (xs : List Nat) : Nat → List Nat := updF (fun k => fbin .mul .f32 (xs.getD k 0) sc) xs
def quoL (sc : Nat) (xs : List Nat) : Nat → List Nat := updF (fun k => fbin .quo .f32 (xs.getD k 0) sc) xs
theorem range_getD_map (f : Nat → Nat) (xs : List Nat) : (List.range xs.length).map (fun k => f (xs.getD k 0)) = xs.map f := by
  refine List.ext_getElem (by simp) fun i h1 h2 => ?_
  have h : i < xs.length := by simpa using h2
  simp [List.getD_eq_getElem?_getD, h]
theorem mulL_all (sc : Nat) (xs : List Nat) : mulL sc xs xs.length = xs.map fun x => fbin .mul .f32 x sc := by
  rw [mulL, updF_all]; exact range_getD_map (fun x => fbin .mul .f32 x sc) xs
theorem quoL_all (sc : Nat) (xs : List Nat) : quoL sc xs xs.length = xs.map fun x => fbin .quo .f32 x sc := by
  rw [quoL, updF_all]; exact range_getD_map (fun x => fbin .quo .f32 x sc) xs
theorem mulL_length (sc : Nat) (xs : List Nat) (i : Nat) : (mulL sc xs i).length = xs.length := updF_length _ _ _
theorem quoL_length (sc : Nat) (xs : List Nat) (i : Nat) : (quoL sc xs i).length = xs.length := updF_length _ _ _
theorem mulL_zero (sc : Nat) (xs : List Nat) : mulL sc xs 0 = xs := updF_zero _ _
theorem quoL_zero (sc : Nat) (xs : List Nat) : quoL sc xs 0 = xs := updF_zero _ _
theorem mulL_at {sc : Nat} {xs : List Nat} {i : Nat} (h : i < xs.length) : ((mulL sc xs i).map fv)[i]? = some (.float .f32 (xs.getD i 0)) := updF_at h
theorem quoL_at {sc : Nat} {xs : List Nat} {i : Nat} (h : i < xs.length) : ((quoL sc xs i).map fv)[i]? = some (.float .f32 (xs.getD i 0)) := updF_at h
theorem mulL_set {sc : Nat} {xs : List Nat} {i : Nat} : ((mulL sc xs i).map fv).set i (.float .f32 (fbin .mul .f32 (xs.getD i 0) sc)) = (mulL sc xs (i + 1)).map fv := by rw [fv_set']; exact congrArg (List.map fv) updF_set
theorem quoL_set {sc : Nat} {xs : List Nat} {i : Nat} : ((quoL sc xs i).map fv).set i (.float .f32 (fbin .quo .f32 (xs.getD i 0) sc)) = (quoL sc xs (i + 1)).map fv := by rw [fv_set']; exact congrArg (List.map fv) updF_set
theorem weighUp_zero (ws : List Nat) (p : List Nat × List Nat) : weighUp ws p 0 = p := rfl
theorem weighUp_succ (ws : List Nat) (p : List Nat × List Nat) (i : Nat) : weighUp ws p (i + 1) = weighF i (ws.getD i 0) (weighUp ws p i) := rfl
structure RF (H : Heap) (v : Value) (xs : List Nat) : Prop where
  rd : FS H v xs
  le : xs.length ≤ 2 ^ 40
theorem i_LiftOnce_core {H : Heap} {v0 v1 : Value} {xs0 xs1 : List Nat} {a0 : Nat} (A0 : RF H v0 xs0) (b0 : a0 < 2 ^ 32) (A1 : RF H v1 xs1) :
    ACalls Try.prog n_i_LiftOnce [.agg #[v0, .float .f32 a0], v1] H fun r H' => TwoR fv t_float32 H (schemeF xs0 a0 && isLongF xs1 && liftOkF xs0 a0 xs1) (liftF xs0 a0 xs1).1 (liftF xs0 a0 xs1).2 r H' := by
  refine k_i_LiftOnce.run rfl ?_
  unfold c_i_LiftOnce
  have o0 := A0.rd.one
  have e0 : Ext H (H.new ⟨true, t_Scheme, [v0, .float .f32 a0]⟩) := .new _ _
  simp (disch := first | assumption | omega | rfl | (refine id ?_; simp only [gxD, ne_eq, reduceCtorEq, not_false_eq_true, Nat.reduceAdd, *]; done) | (refine id ?_; simp only [gxD]; omega)) only [↓gxPre, gxPost, ↓reduceIte, Nat.reduceEqDiff, reduceCtorEq, Nat.reduceAdd]
  refine callR_ext (i_ValidScheme_ok (A0.rd.ext e0) A0.le) ?_
  intro H1 n1 bb1
  have e1 := e0.trans ⟨n1, bb1⟩
  have hs1 : H1.blk H.n = some ⟨true, t_Scheme, [v0, .float .f32 a0]⟩ := (bb1 _ (by first | omega | (simp only [new_n, put_n]; omega))).trans (by simp (disch := first | assumption | omega | rfl | (refine id ?_; simp only [gxD, ne_eq, reduceCtorEq, not_false_eq_true, Nat.reduceAdd, *]; done) | (refine id ?_; simp only [gxD]; omega)) only [↓gxPre, gxPost, ↓reduceIte, Nat.reduceEqDiff, reduceCtorEq, Nat.reduceAdd])
  simp only [new_n] at n1
  cases h0 : schemeF xs0 a0
  · simp (disch := first | assumption | omega | rfl | (refine id ?_; simp only [gxD, ne_eq, reduceCtorEq, not_false_eq_true, Nat.reduceAdd, *]; done) | (refine id ?_; simp only [gxD]; omega)) only [↓gxPre, gxPost, ↓reduceIte, Nat.reduceEqDiff, reduceCtorEq, Nat.reduceAdd]
    exact .no (by simp only [Bool.false_and, Bool.true_and, Bool.and_true, Bool.and_false, Bool.or_true, Bool.true_or, Bool.false_or, Bool.or_false, Bool.and_self, Bool.or_self]) e1
  simp (disch := first | assumption | omega | rfl | (refine id ?_; simp only [gxD, ne_eq, reduceCtorEq, not_false_eq_true, Nat.reduceAdd, *]; done) | (refine id ?_; simp only [gxD]; omega)) only [↓gxPre, gxPost, ↓reduceIte, Nat.reduceEqDiff, reduceCtorEq, Nat.reduceAdd]
  refine callR_ext (i_IsList_ok (A1.rd.ext e1) A1.le) ?_
  intro H2 n2 bb2
  have e2 := e1.trans ⟨n2, bb2⟩
  have hs2 : H2.blk H.n = some ⟨true, t_Scheme, [v0, .float .f32 a0]⟩ := (bb2 _ (by omega)).trans hs1
  cases h1 : isLongF xs1
  · simp (disch := first | assumption | omega | rfl | (refine id ?_; simp only [gxD, ne_eq, reduceCtorEq, not_false_eq_true, Nat.reduceAdd, *]; done) | (refine id ?_; simp only [gxD]; omega)) only [↓gxPre, gxPost, ↓reduceIte, Nat.reduceEqDiff, reduceCtorEq, Nat.reduceAdd]
    exact .no (by simp only [Bool.false_and, Bool.true_and, Bool.and_true, Bool.and_false, Bool.or_true, Bool.true_or, Bool.false_or, Bool.or_false, Bool.and_self, Bool.or_self]) e2
  obtain ⟨hl, hl1⟩ := isLong_len h1
  have hf0 : xs0.all finF = true := by
    unfold schemeF at h0
    simp only [Bool.and_eq_true] at h0
    exact h0.1.2
  simp (disch := first | assumption | omega | rfl | (refine id ?_; simp only [gxD, ne_eq, reduceCtorEq, not_false_eq_true, Nat.reduceAdd, *]; done) | (refine id ?_; simp only [gxD]; omega)) only [↓gxPre, gxPost, ↓reduceIte, Nat.reduceEqDiff, reduceCtorEq, Nat.reduceAdd]
  refine callR_of (i_split_f_ok (A1.rd.ext e2) A1.le) ?_
  rintro _ K ⟨e3, n3, rfl, hc, hd⟩
  have eK := e2.trans e3
  have hsK : K.blk H.n = some ⟨true, t_Scheme, [v0, .float .f32 a0]⟩ := (e3.blk _ (by omega)).trans hs2
  have l1 := evL_length (d := 0) (xs := xs1) xs1.length
  have l2 := odL_length (d := 0) (xs := xs1) xs1.length
  simp (disch := first | assumption | omega | rfl | (refine id ?_; simp only [gxD, ne_eq, reduceCtorEq, not_false_eq_true, Nat.reduceAdd, *]; done) | (refine id ?_; simp only [gxD]; omega)) only [↓gxPre, gxPost, ↓reduceIte, Nat.reduceEqDiff, reduceCtorEq, Nat.reduceAdd]
  by_cases hz : xs1.length / 2 = 0
  · have hz' : ((xs1.length / 2 : Nat) : Int) = 0 := by omega
    have hL : liftF xs0 a0 xs1 = (evL 0 xs1 xs1.length, odL 0 xs1 xs1.length) := by unfold liftF; rw [if_pos hz]
    have hO : liftOkF xs0 a0 xs1 = true := by unfold liftOkF; simp [hz]
    rw [hL, hO]
    simp (disch := first | assumption | omega | rfl | (refine id ?_; simp only [gxD, ne_eq, reduceCtorEq, not_false_eq_true, Nat.reduceAdd, *]; done) | (refine id ?_; simp only [gxD]; omega)) only [↓gxPre, gxPost, ↓reduceIte, Nat.reduceEqDiff, reduceCtorEq, Nat.reduceAdd, hz']
    exact .yes rfl eK (OwN.two (.mk hc (by simpa using l1) (by omega) (by omega) (by omega)) (.mk hd (by simpa using l2) (by omega) (by omega) (by omega)) fun h h1 h2 => by simp only [hdl, Option.some.injEq] at h1 h2; omega) (by omega) (by omega)
  have hz' : ¬ ((xs1.length / 2 : Nat) : Int) = 0 := by omega
  have hv0K := A0.rd.ext eK
  obtain ⟨p, hp⟩ : ∃ p, p = (evL 0 xs1 xs1.length, odL 0 xs1 xs1.length) := ⟨_, rfl⟩
  have lp1 : p.1.length = (xs1.length + 1) / 2 := by rw [hp]; exact l1
  have lp2 : p.2.length = xs1.length / 2 := by rw [hp]; exact l2
  have lw1 : ∀ i, (weighUp xs0 p i).1.length = (xs1.length + 1) / 2 := fun i => (weighUp_len xs0 p i).1.trans lp1
  have lw2 : ∀ i, (weighUp xs0 p i).2.length = xs1.length / 2 := fun i => (weighUp_len xs0 p i).2.trans lp2
  simp (disch := first | assumption | omega | rfl | (refine id ?_; simp only [gxD, ne_eq, reduceCtorEq, not_false_eq_true, Nat.reduceAdd, *]; done) | (refine id ?_; simp only [gxD]; omega)) only [↓gxPre, gxPost, ↓reduceIte, Nat.reduceEqDiff, reduceCtorEq, Nat.reduceAdd, hz', hsK, hv0K.len]
  refine loop_forH xs0.length (fun i => [.pointer (some ⟨H.n, 0, some 2⟩), .slice (some ⟨H2.n, 0, none⟩) ((xs1.length + 1) / 2) ((xs1.length + 1) / 2), .slice (some ⟨H2.n + 1, 0, none⟩) (xs1.length / 2) (xs1.length / 2), v0, .int .i64 xs0.length, .int .i64 i])
    (fun i G => K.n ≤ G.n ∧ G.blk H2.n = some ⟨true, t_float32, (weighUp xs0 p i).1.map fv⟩ ∧ G.blk (H2.n + 1) = some ⟨true, t_float32, (weighUp xs0 p i).2.map fv⟩ ∧ ∀ j, j < K.n → j ≠ H2.n → j ≠ H2.n + 1 → G.blk j = K.blk j) rfl
    ⟨Nat.le_refl _, by rw [weighUp_zero, hp]; exact hc, by rw [weighUp_zero, hp]; exact hd, fun _ _ _ _ => rfl⟩ ?_ ?_
  rotate_left
  · rintro i G hi ⟨hG, hga, hgb, hF⟩
    have eG : Ext H G := ⟨by have := eK.n; omega, fun j hj => (hF j (by omega) (by omega) (by omega)).trans (eK.blk j hj)⟩
    have hv := A0.rd.ext eG
    have hi8 : xs0.length ≤ 2 ^ 30 := by
      unfold schemeF at h0
      simp only [Bool.and_eq_true] at h0
      have := within_true.1 h0.1.1
      omega
    have hnan : nanB .f32 (xs0.getD i 0) = false := fin_nan (all_getD.1 hf0 i hi)
    simp (disch := first | assumption | omega | rfl | (refine id ?_; simp only [gxD, ne_eq, reduceCtorEq, not_false_eq_true, Nat.reduceAdd, *]; done) | (refine id ?_; simp only [gxD]; omega)) only [↓gxPre, gxPost, ↓reduceIte, Nat.reduceEqDiff, reduceCtorEq, Nat.reduceAdd, hv.ia, hv.ld]
    refine callR_of (i_weigh_at hga hgb (lw1 i) (lw2 i) (by omega) (by omega) (by omega) (by omega) (by omega) (by omega) (by omega) hnan (by omega)) ?_
    rintro _ G' ⟨rfl, hn', ha', hb', hF'⟩
    simp (disch := first | assumption | omega | rfl | (refine id ?_; simp only [gxD, ne_eq, reduceCtorEq, not_false_eq_true, Nat.reduceAdd, *]; done) | (refine id ?_; simp only [gxD]; omega)) only [↓gxPre, gxPost, ↓reduceIte, Nat.reduceEqDiff, reduceCtorEq, Nat.reduceAdd]
    refine ⟨by simp, by omega, ?_, ?_, fun j h1 h2 h3 => (hF' j (by omega) h2 h3).trans (hF j h1 h2 h3)⟩
    · rw [weighUp_succ]; simpa using ha'
    · rw [weighUp_succ]; simpa using hb'
  rintro G ⟨hG, hga, hgb, hF⟩
  obtain ⟨q, hq⟩ : ∃ q, q = weighUp xs0 p xs0.length := ⟨_, rfl⟩
  have lq1 : q.1.length = (xs1.length + 1) / 2 := by rw [hq]; exact lw1 _
  have lq2 : q.2.length = xs1.length / 2 := by rw [hq]; exact lw2 _
  rw [← hq] at hga hgb
  have hL : liftF xs0 a0 xs1 = (q.1.map fun x => fbin .mul .f32 x a0, q.2.map fun x => fbin .quo .f32 x a0) := by unfold liftF; rw [if_neg hz, ← hp, ← hq]
  have hsG : G.blk H.n = some ⟨true, t_Scheme, [v0, .float .f32 a0]⟩ := (hF _ (by omega) (by omega) (by omega)).trans hsK
  simp (disch := first | assumption | omega | rfl | (refine id ?_; simp only [gxD, ne_eq, reduceCtorEq, not_false_eq_true, Nat.reduceAdd, *]; done) | (refine id ?_; simp only [gxD]; omega)) only [↓gxPre, gxPost, ↓reduceIte, Nat.reduceEqDiff, reduceCtorEq, Nat.reduceAdd, Int.lt_irrefl]
  refine loop_forH ((xs1.length + 1) / 2) (fun i => [.pointer (some ⟨H.n, 0, some 2⟩), .slice (some ⟨H2.n, 0, none⟩) ((xs1.length + 1) / 2) ((xs1.length + 1) / 2), .slice (some ⟨H2.n + 1, 0, none⟩) (xs1.length / 2) (xs1.length / 2), .int .i64 ((xs1.length + 1) / 2 : Nat), .int .i64 i])
    (fun i F => G.n ≤ F.n ∧ F.blk H2.n = some ⟨true, t_float32, (mulL a0 q.1 i).map fv⟩ ∧ F.blk (H2.n + 1) = some ⟨true, t_float32, q.2.map fv⟩ ∧ F.blk H.n = some ⟨true, t_Scheme, [v0, .float .f32 a0]⟩ ∧ ∀ j, j < K.n → j ≠ H2.n → j ≠ H2.n + 1 → F.blk j = K.blk j) rfl
    ⟨Nat.le_refl _, by rw [mulL_zero]; exact hga, hgb, hsG, hF⟩ ?_ ?_
  rotate_left
  · rintro i F hi ⟨hFn, hfa, hfb, hfs, hFF⟩
    have ht := mulL_at (sc := a0) (xs := q.1) (i := i) (by omega)
    have lm : ((mulL a0 q.1 i).map fv).length = (xs1.length + 1) / 2 := by rw [lMapN, mulL_length, lq1]
    simp (disch := first | assumption | omega | rfl | (refine id ?_; simp only [gxD, ne_eq, reduceCtorEq, not_false_eq_true, Nat.reduceAdd, *]; done) | (refine id ?_; simp only [gxD]; omega)) only [↓gxPre, gxPost, ↓reduceIte, Nat.reduceEqDiff, reduceCtorEq, Nat.reduceAdd, hfa, ht, hfs]
    refine ⟨by simp, by simpa using hFn, ?_, hfb, fun j h1 h2 h3 => ?_⟩
    · first | (rw [mulL_set]; done) | (rw [hput_self, mulL_set])
    · first | exact hFF j h1 h2 h3 | rw [hput_other _ _ _ _ h2, hFF j h1 h2 h3]
  rintro F ⟨hFn, hfa, hfb, hfs, hFF⟩
  rw [← lq1, mulL_all] at hfa
  simp (disch := first | assumption | omega | rfl | (refine id ?_; simp only [gxD, ne_eq, reduceCtorEq, not_false_eq_true, Nat.reduceAdd, *]; done) | (refine id ?_; simp only [gxD]; omega)) only [↓gxPre, gxPost, ↓reduceIte, Nat.reduceEqDiff, reduceCtorEq, Nat.reduceAdd, Int.lt_irrefl]
  refine loop_forH (xs1.length / 2) (fun i => [.pointer (some ⟨H.n, 0, some 2⟩), .slice (some ⟨H2.n, 0, none⟩) ((xs1.length + 1) / 2) ((xs1.length + 1) / 2), .slice (some ⟨H2.n + 1, 0, none⟩) (xs1.length / 2) (xs1.length / 2), .int .i64 (xs1.length / 2 : Nat), .int .i64 i])
    (fun i F => G.n ≤ F.n ∧ F.blk H2.n = some ⟨true, t_float32, (q.1.map fun x => fbin .mul .f32 x a0).map fv⟩ ∧ F.blk (H2.n + 1) = some ⟨true, t_float32, (quoL a0 q.2 i).map fv⟩ ∧ F.blk H.n = some ⟨true, t_Scheme, [v0, .float .f32 a0]⟩ ∧ ∀ j, j < K.n → j ≠ H2.n → j ≠ H2.n + 1 → F.blk j = K.blk j) rfl
    ⟨hFn, hfa, by rw [quoL_zero]; exact hfb, hfs, hFF⟩ ?_ ?_
  rotate_left
  · rintro i F hi ⟨hFn, hfa, hfb, hfs, hFF⟩
    have ht := quoL_at (sc := a0) (xs := q.2) (i := i) (by omega)
    have lm : ((quoL a0 q.2 i).map fv).length = xs1.length / 2 := by rw [lMapN, quoL_length, lq2]
    simp (disch := first | assumption | omega | rfl | (refine id ?_; simp only [gxD, ne_eq, reduceCtorEq, not_false_eq_true, Nat.reduceAdd, *]; done) | (refine id ?_; simp only [gxD]; omega)) only [↓gxPre, gxPost, ↓reduceIte, Nat.reduceEqDiff, reduceCtorEq, Nat.reduceAdd, hfb, ht, hfs]
    refine ⟨by simp, by simpa using hFn, hfa, ?_, fun j h1 h2 h3 => ?_⟩
    · first | (rw [quoL_set]; done) | (rw [hput_self, quoL_set])
    · first | exact hFF j h1 h2 h3 | rw [hput_other _ _ _ _ h3, hFF j h1 h2 h3]
  rintro M ⟨hMn, hma, hmb, _, hMF⟩
  rw [← lq2, quoL_all] at hmb
  have eM : Ext H M := ⟨by have := eK.n; omega, fun j hj => (hMF j (by omega) (by omega) (by omega)).trans (eK.blk j hj)⟩
  have lA : (q.1.map fun x => fbin .mul .f32 x a0).length = (xs1.length + 1) / 2 := by rw [List.length_map, lq1]
  have lB : (q.2.map fun x => fbin .quo .f32 x a0).length = xs1.length / 2 := by rw [List.length_map, lq2]
  have hO : liftOkF xs0 a0 xs1 = ((q.1.map fun x => fbin .mul .f32 x a0).all finF && (q.2.map fun x => fbin .quo .f32 x a0).all finF) := by
    unfold liftOkF
    rw [hL, decide_eq_false hz, Bool.false_or]
  obtain ⟨xA, hxA⟩ : ∃ xA, xA = q.1.map fun x => fbin .mul .f32 x a0 := ⟨_, rfl⟩
  obtain ⟨xB, hxB⟩ : ∃ xB, xB = q.2.map fun x => fbin .quo .f32 x a0 := ⟨_, rfl⟩
  rw [← hxA, ← hxB] at hL hO
  rw [← hxA] at hma lA
  rw [← hxB] at hmb lB
  rw [hL, hO]
  simp (disch := first | assumption | omega | rfl | (refine id ?_; simp only [gxD, ne_eq, reduceCtorEq, not_false_eq_true, Nat.reduceAdd, *]; done) | (refine id ?_; simp only [gxD]; omega)) only [↓gxPre, gxPost, ↓reduceIte, Nat.reduceEqDiff, reduceCtorEq, Nat.reduceAdd, Int.lt_irrefl]
  have eN : Ext M (M.new ⟨true, t_sfloat32, [.slice (some ⟨H2.n, 0, none⟩) ((xs1.length + 1) / 2) ((xs1.length + 1) / 2), .slice (some ⟨H2.n + 1, 0, none⟩) (xs1.length / 2) (xs1.length / 2)]⟩) := .new _ _
  refine callR_pure (i_areFinite2_ok (by simp (disch := first | assumption | omega | rfl | (refine id ?_; simp only [gxD, ne_eq, reduceCtorEq, not_false_eq_true, Nat.reduceAdd, *]; done) | (refine id ?_; simp only [gxD]; omega)) only [↓gxPre, gxPost, ↓reduceIte, Nat.reduceEqDiff, reduceCtorEq, Nat.reduceAdd, *]; rfl) (by first | omega | (simp only [new_n, put_n]; omega)) ((FS.own hma (by omega) lA).ext eN) ((FS.own hmb (by omega) lB).ext eN) (by omega) (by omega)) (.inl rfl) ?_
  cases h5 : (xA.all finF && xB.all finF)
  · simp (disch := first | assumption | omega | rfl | (refine id ?_; simp only [gxD, ne_eq, reduceCtorEq, not_false_eq_true, Nat.reduceAdd, *]; done) | (refine id ?_; simp only [gxD]; omega)) only [↓gxPre, gxPost, ↓reduceIte, Nat.reduceEqDiff, reduceCtorEq, Nat.reduceAdd]
    exact .no (by simp only [Bool.false_and, Bool.true_and, Bool.and_true, Bool.and_false, Bool.or_true, Bool.true_or, Bool.false_or, Bool.or_false, Bool.and_self, Bool.or_self]) (eM.trans eN)
  simp (disch := first | assumption | omega | rfl | (refine id ?_; simp only [gxD, ne_eq, reduceCtorEq, not_false_eq_true, Nat.reduceAdd, *]; done) | (refine id ?_; simp only [gxD]; omega)) only [↓gxPre, gxPost, ↓reduceIte, Nat.reduceEqDiff, reduceCtorEq, Nat.reduceAdd]
  exact .yes (by simp only [Bool.false_and, Bool.true_and, Bool.and_true, Bool.and_false, Bool.or_true, Bool.true_or, Bool.false_or, Bool.or_false, Bool.and_self, Bool.or_self]) (eM.trans eN) (OwN.two (.mk (by rw [eN.blk _ (by omega)]; exact hma) (by simpa using lA) (by first | omega | (simp only [new_n, put_n]; omega)) (by first | omega | (simp only [new_n, put_n]; omega)) (by first | omega | (simp only [new_n, put_n]; omega))) (.mk (by rw [eN.blk _ (by omega)]; exact hmb) (by simpa using lB) (by first | omega | (simp only [new_n, put_n]; omega)) (by first | omega | (simp only [new_n, put_n]; omega)) (by first | omega | (simp only [new_n, put_n]; omega))) fun h h1 h2 => by simp only [hdl, Option.some.injEq] at h1 h2; omega) (by omega) (by omega)
theorem i_LiftOnce_law {H : Heap} {v0 v1 : Value} {xs0 xs1 : List Nat} {a0 : Nat} (A0 : AF H v0 xs0) (b0 : a0 < 2 ^ 32) (A1 : AF H v1 xs1) :
    ACalls Try.prog n_i_LiftOnce [.agg #[v0, .float .f32 a0], v1] H fun r H' => TwoR fv t_float32 H (schemeF xs0 a0 && isLongF xs1 && liftOkF xs0 a0 xs1) (liftF xs0 a0 xs1).1 (liftF xs0 a0 xs1).2 r H' :=
  i_LiftOnce_core ⟨A0.rd, A0.le⟩ b0 ⟨A1.rd, A1.le⟩
theorem s_l02LiftOnce_ok {H : Heap} {h a0 : Nat} {own : Bool} {ty : TypeId} {v0 v1 : Value} {xs0 xs1 : List Nat} (hb : H.blk h = some ⟨own, ty, [v0, .float .f32 a0]⟩) (hh : h < H.n) (A0 : RF H v0 xs0) (h8 : xs0.length ≤ 8) (A1 : RF H v1 xs1) (hl : xs1.length ≤ 128) (hl1 : 1 ≤ xs1.length) :
    ACalls Try.prog n_s_l02LiftOnce [.pointer (some ⟨h, 0, some 2⟩), v1] H fun r H' => Ext H H' ∧ H.n + 2 ≤ H'.n ∧ r = .tuple #[.slice (some ⟨H.n, 0, none⟩) ((xs1.length + 1) / 2) ((xs1.length + 1) / 2), .slice (some ⟨H.n + 1, 0, none⟩) (xs1.length / 2) (xs1.length / 2), .bool (liftOkF xs0 a0 xs1)] ∧
      H'.blk H.n = some ⟨true, t_float32, (liftF xs0 a0 xs1).1.map fv⟩ ∧ H'.blk (H.n + 1) = some ⟨true, t_float32, (liftF xs0 a0 xs1).2.map fv⟩ := by
  refine k_s_l02LiftOnce.run rfl ?_
  unfold c_s_l02LiftOnce
  simp (disch := first | assumption | omega | rfl | (refine id ?_; simp only [gxD, ne_eq, reduceCtorEq, not_false_eq_true, Nat.reduceAdd, *]; done) | (refine id ?_; simp only [gxD]; omega)) only [↓gxPre, gxPost, ↓reduceIte, Nat.reduceEqDiff, reduceCtorEq, Nat.reduceAdd]
  refine loop_forH xs1.length (fun i => [.pointer (some ⟨h, 0, some 2⟩), v1, .slice (some ⟨H.n, 0, none⟩) ((i + 1) / 2) ((i + 1) / 2), .slice (some ⟨H.n + 1, 0, none⟩) (i / 2) (i / 2), .int .i64 i])
    (fun i G => H.n + 2 ≤ G.n ∧ Ext H G ∧ G.blk H.n = some ⟨true, t_float32, (evL 0 xs1 i).map fv⟩ ∧ G.blk (H.n + 1) = some ⟨true, t_float32, (odL 0 xs1 i).map fv⟩) rfl ⟨by simp only [new_n]; omega, ⟨by first | omega | (simp only [new_n, put_n]; omega) | (simp only [new_n, put_n] at *; omega), fun i hi => by simp (disch := first | assumption | omega | rfl | (refine id ?_; simp only [gxD, ne_eq, reduceCtorEq, not_false_eq_true, Nat.reduceAdd, *]; done) | (refine id ?_; simp only [gxD]; omega)) only [↓gxPre, gxPost, ↓reduceIte, Nat.reduceEqDiff, reduceCtorEq, Nat.reduceAdd, *]⟩, by simp (disch := first | assumption | omega | rfl | (refine id ?_; simp only [gxD, ne_eq, reduceCtorEq, not_false_eq_true, Nat.reduceAdd, *]; done) | (refine id ?_; simp only [gxD]; omega)) only [↓gxPre, gxPost, ↓reduceIte, Nat.reduceEqDiff, reduceCtorEq, Nat.reduceAdd]; rfl, by simp (disch := first | assumption | omega | rfl | (refine id ?_; simp only [gxD, ne_eq, reduceCtorEq, not_false_eq_true, Nat.reduceAdd, *]; done) | (refine id ?_; simp only [gxD]; omega)) only [↓gxPre, gxPost, ↓reduceIte, Nat.reduceEqDiff, reduceCtorEq, Nat.reduceAdd]; rfl⟩ ?_ ?_
  rotate_left
  · rintro i G hi ⟨hG, hE, hc, hd⟩
    have hv' := A1.rd.ext hE
    have l1 : ((evL 0 xs1 i).map fv).length = (i + 1) / 2 := by rw [lMapN, evL_length]
    have l2 : ((odL 0 xs1 i).map fv).length = i / 2 := by rw [lMapN, odL_length]
    by_cases h2 : i % 2 = 0
    · have hc2 : ((i % 2 : Nat) : Int) = 0 := by omega
      have hm5 : (evL 0 xs1 i).map fv ++ [.float .f32 (xs1.getD i 0)] = (evL 0 xs1 (i + 1)).map fv := by rw [evL_even h2, fv_snoc']
      obtain ⟨f1, f2, f3, f4⟩ := push_at hE hc (Nat.le_refl _) (by omega) hm5
      have e1 : (i + 1) / 2 + 1 = (i + 1 + 1) / 2 := by omega
      have e2 : i / 2 = (i + 1) / 2 := by omega
      simp (disch := first | assumption | omega | rfl | (refine id ?_; simp only [gxD, ne_eq, reduceCtorEq, not_false_eq_true, Nat.reduceAdd, *]; done) | (refine id ?_; simp only [gxD]; omega)) only [↓gxPre, gxPost, ↓reduceIte, Nat.reduceEqDiff, reduceCtorEq, Nat.reduceAdd, hv'.len, hv'.ia, hv'.ld, tmod2, hc2, hc, hd]
      refine ⟨by rw [e1, ← e2]; simp, by omega, f1, by rw [hm5], by rw [odL_even h2]⟩
    · have hc2 : ¬ ((i % 2 : Nat) : Int) = 0 := by omega
      have hm5 : (odL 0 xs1 i).map fv ++ [.float .f32 (xs1.getD i 0)] = (odL 0 xs1 (i + 1)).map fv := by rw [odL_odd h2, fv_snoc']
      obtain ⟨f1, f2, f3, f4⟩ := push_at hE hd (by omega) (by omega) hm5
      have e1 : (i + 1) / 2 = (i + 1 + 1) / 2 := by omega
      have e2 : i / 2 + 1 = (i + 1) / 2 := by omega
      simp (disch := first | assumption | omega | rfl | (refine id ?_; simp only [gxD, ne_eq, reduceCtorEq, not_false_eq_true, Nat.reduceAdd, *]; done) | (refine id ?_; simp only [gxD]; omega)) only [↓gxPre, gxPost, ↓reduceIte, Nat.reduceEqDiff, reduceCtorEq, Nat.reduceAdd, hv'.len, hv'.ia, hv'.ld, tmod2, hc2, hc, hd]
      refine ⟨by rw [e2, ← e1]; simp, by omega, f1, by rw [evL_odd h2], by rw [hm5]⟩
  rintro K ⟨n3, eK, hc, hd⟩
  have hsK : K.blk h = some ⟨own, ty, [v0, .float .f32 a0]⟩ := (eK.blk _ hh).trans hb
  have l1 := evL_length (d := 0) (xs := xs1) xs1.length
  have l2 := odL_length (d := 0) (xs := xs1) xs1.length
  have hv1K := A1.rd.ext eK
  simp (disch := first | assumption | omega | rfl | (refine id ?_; simp only [gxD, ne_eq, reduceCtorEq, not_false_eq_true, Nat.reduceAdd, *]; done) | (refine id ?_; simp only [gxD]; omega)) only [↓gxPre, gxPost, ↓reduceIte, Nat.reduceEqDiff, reduceCtorEq, Nat.reduceAdd, hv1K.len, Int.lt_irrefl]
  by_cases hz : xs1.length / 2 = 0
  · have hz' : ((xs1.length / 2 : Nat) : Int) = 0 := by omega
    have hL : liftF xs0 a0 xs1 = (evL 0 xs1 xs1.length, odL 0 xs1 xs1.length) := by unfold liftF; rw [if_pos hz]
    have hO : liftOkF xs0 a0 xs1 = true := by unfold liftOkF; simp [hz]
    rw [hL, hO]
    simp (disch := first | assumption | omega | rfl | (refine id ?_; simp only [gxD, ne_eq, reduceCtorEq, not_false_eq_true, Nat.reduceAdd, *]; done) | (refine id ?_; simp only [gxD]; omega)) only [↓gxPre, gxPost, ↓reduceIte, Nat.reduceEqDiff, reduceCtorEq, Nat.reduceAdd, hz']
    exact ⟨eK, n3, hc, hd⟩
  have hz' : ¬ ((xs1.length / 2 : Nat) : Int) = 0 := by omega
  obtain ⟨p, hp⟩ : ∃ p, p = (evL 0 xs1 xs1.length, odL 0 xs1 xs1.length) := ⟨_, rfl⟩
  have lp1 : p.1.length = (xs1.length + 1) / 2 := by rw [hp]; exact l1
  have lp2 : p.2.length = xs1.length / 2 := by rw [hp]; exact l2
  have lw1 : ∀ i, (weighUp xs0 p i).1.length = (xs1.length + 1) / 2 := fun i => (weighUp_len xs0 p i).1.trans lp1
  have lw2 : ∀ i, (weighUp xs0 p i).2.length = xs1.length / 2 := fun i => (weighUp_len xs0 p i).2.trans lp2
  simp (disch := first | assumption | omega | rfl | (refine id ?_; simp only [gxD, ne_eq, reduceCtorEq, not_false_eq_true, Nat.reduceAdd, *]; done) | (refine id ?_; simp only [gxD]; omega)) only [↓gxPre, gxPost, ↓reduceIte, Nat.reduceEqDiff, reduceCtorEq, Nat.reduceAdd, hz']
  refine loop_forH xs0.length (fun i => [.pointer (some ⟨h, 0, some 2⟩), .slice (some ⟨H.n, 0, none⟩) ((xs1.length + 1) / 2) ((xs1.length + 1) / 2), .slice (some ⟨H.n + 1, 0, none⟩) (xs1.length / 2) (xs1.length / 2), .int .i64 i])
    (fun i G => K.n ≤ G.n ∧ G.blk H.n = some ⟨true, t_float32, (weighUp xs0 p i).1.map fv⟩ ∧ G.blk (H.n + 1) = some ⟨true, t_float32, (weighUp xs0 p i).2.map fv⟩ ∧ ∀ j, j < K.n → j ≠ H.n → j ≠ H.n + 1 → G.blk j = K.blk j) rfl
    ⟨Nat.le_refl _, by rw [weighUp_zero, hp]; exact hc, by rw [weighUp_zero, hp]; exact hd, fun _ _ _ _ => rfl⟩ ?_ ?_
  rotate_left
  · rintro i G hi ⟨hG, hga, hgb, hF⟩
    have eG : Ext H G := ⟨by have := eK.n; omega, fun j hj => (hF j (by omega) (by omega) (by omega)).trans (eK.blk j hj)⟩
    have hv := A0.rd.ext eG
    have hsG : G.blk h = some ⟨own, ty, [v0, .float .f32 a0]⟩ := (eG.blk _ hh).trans hb
    simp (disch := first | assumption | omega | rfl | (refine id ?_; simp only [gxD, ne_eq, reduceCtorEq, not_false_eq_true, Nat.reduceAdd, *]; done) | (refine id ?_; simp only [gxD]; omega)) only [↓gxPre, gxPost, ↓reduceIte, Nat.reduceEqDiff, reduceCtorEq, Nat.reduceAdd, hsG, hv.len, hv.ia, hv.ld]
    refine callR_of (s_l02Weigh_at hga hgb (lw1 i) (lw2 i) (by omega) (by omega) (by omega) (by omega) (by omega) (by omega) (by omega) (by omega)) ?_
    rintro _ G' ⟨rfl, hn', ha', hb', hF'⟩
    simp (disch := first | assumption | omega | rfl | (refine id ?_; simp only [gxD, ne_eq, reduceCtorEq, not_false_eq_true, Nat.reduceAdd, *]; done) | (refine id ?_; simp only [gxD]; omega)) only [↓gxPre, gxPost, ↓reduceIte, Nat.reduceEqDiff, reduceCtorEq, Nat.reduceAdd]
    refine ⟨by simp, by omega, ?_, ?_, fun j h1 h2 h3 => (hF' j (by omega) h2 h3).trans (hF j h1 h2 h3)⟩
    · rw [weighUp_succ]; simpa using ha'
    · rw [weighUp_succ]; simpa using hb'
  rintro G ⟨hG, hga, hgb, hF⟩
  obtain ⟨q, hq⟩ : ∃ q, q = weighUp xs0 p xs0.length := ⟨_, rfl⟩
  have lq1 : q.1.length = (xs1.length + 1) / 2 := by rw [hq]; exact lw1 _
  have lq2 : q.2.length = xs1.length / 2 := by rw [hq]; exact lw2 _
  rw [← hq] at hga hgb
  have hL : liftF xs0 a0 xs1 = (q.1.map fun x => fbin .mul .f32 x a0, q.2.map fun x => fbin .quo .f32 x a0) := by unfold liftF; rw [if_neg hz, ← hp, ← hq]
  have eG : Ext H G := ⟨by have := eK.n; omega, fun j hj => (hF j (by omega) (by omega) (by omega)).trans (eK.blk j hj)⟩
  have hv := A0.rd.ext eG
  have hsG : G.blk h = some ⟨own, ty, [v0, .float .f32 a0]⟩ := (eG.blk _ hh).trans hb
  simp (disch := first | assumption | omega | rfl | (refine id ?_; simp only [gxD, ne_eq, reduceCtorEq, not_false_eq_true, Nat.reduceAdd, *]; done) | (refine id ?_; simp only [gxD]; omega)) only [↓gxPre, gxPost, ↓reduceIte, Nat.reduceEqDiff, reduceCtorEq, Nat.reduceAdd, Int.lt_irrefl, hsG, hv.len]
  refine loop_forH ((xs1.length + 1) / 2) (fun i => [.pointer (some ⟨h, 0, some 2⟩), .slice (some ⟨H.n, 0, none⟩) ((xs1.length + 1) / 2) ((xs1.length + 1) / 2), .slice (some ⟨H.n + 1, 0, none⟩) (xs1.length / 2) (xs1.length / 2), .int .i64 i])
    (fun i F => G.n ≤ F.n ∧ F.blk H.n = some ⟨true, t_float32, (mulL a0 q.1 i).map fv⟩ ∧ F.blk (H.n + 1) = some ⟨true, t_float32, q.2.map fv⟩ ∧ F.blk h = some ⟨own, ty, [v0, .float .f32 a0]⟩ ∧ ∀ j, j < K.n → j ≠ H.n → j ≠ H.n + 1 → F.blk j = K.blk j) rfl
    ⟨Nat.le_refl _, by rw [mulL_zero]; exact hga, hgb, hsG, hF⟩ ?_ ?_
  rotate_left
  · rintro i F hi ⟨hFn, hfa, hfb, hfs, hFF⟩
    have ht := mulL_at (sc := a0) (xs := q.1) (i := i) (by omega)
    have lm : ((mulL a0 q.1 i).map fv).length = (xs1.length + 1) / 2 := by rw [lMapN, mulL_length, lq1]
    simp (disch := first | assumption | omega | rfl | (refine id ?_; simp only [gxD, ne_eq, reduceCtorEq, not_false_eq_true, Nat.reduceAdd, *]; done) | (refine id ?_; simp only [gxD]; omega)) only [↓gxPre, gxPost, ↓reduceIte, Nat.reduceEqDiff, reduceCtorEq, Nat.reduceAdd, hfa, ht, hfs]
    refine ⟨by simp, by simpa using hFn, ?_, hfb, fun j h1 h2 h3 => ?_⟩
    · first | (rw [mulL_set]; done) | (rw [hput_self, mulL_set])
    · first | exact hFF j h1 h2 h3 | rw [hput_other _ _ _ _ h2, hFF j h1 h2 h3]
  rintro F ⟨hFn, hfa, hfb, hfs, hFF⟩
  rw [← lq1, mulL_all] at hfa
  simp (disch := first | assumption | omega | rfl | (refine id ?_; simp only [gxD, ne_eq, reduceCtorEq, not_false_eq_true, Nat.reduceAdd, *]; done) | (refine id ?_; simp only [gxD]; omega)) only [↓gxPre, gxPost, ↓reduceIte, Nat.reduceEqDiff, reduceCtorEq, Nat.reduceAdd, Int.lt_irrefl]
  refine loop_forH (xs1.length / 2) (fun i => [.pointer (some ⟨h, 0, some 2⟩), .slice (some ⟨H.n, 0, none⟩) ((xs1.length + 1) / 2) ((xs1.length + 1) / 2), .slice (some ⟨H.n + 1, 0, none⟩) (xs1.length / 2) (xs1.length / 2), .int .i64 i])
    (fun i F => G.n ≤ F.n ∧ F.blk H.n = some ⟨true, t_float32, (q.1.map fun x => fbin .mul .f32 x a0).map fv⟩ ∧ F.blk (H.n + 1) = some ⟨true, t_float32, (quoL a0 q.2 i).map fv⟩ ∧ F.blk h = some ⟨own, ty, [v0, .float .f32 a0]⟩ ∧ ∀ j, j < K.n → j ≠ H.n → j ≠ H.n + 1 → F.blk j = K.blk j) rfl
    ⟨hFn, hfa, by rw [quoL_zero]; exact hfb, hfs, hFF⟩ ?_ ?_
  rotate_left
  · rintro i F hi ⟨hFn, hfa, hfb, hfs, hFF⟩
    have ht := quoL_at (sc := a0) (xs := q.2) (i := i) (by omega)
    have lm : ((quoL a0 q.2 i).map fv).length = xs1.length / 2 := by rw [lMapN, quoL_length, lq2]
    simp (disch := first | assumption | omega | rfl | (refine id ?_; simp only [gxD, ne_eq, reduceCtorEq, not_false_eq_true, Nat.reduceAdd, *]; done) | (refine id ?_; simp only [gxD]; omega)) only [↓gxPre, gxPost, ↓reduceIte, Nat.reduceEqDiff, reduceCtorEq, Nat.reduceAdd, hfb, ht, hfs]
    refine ⟨by simp, by simpa using hFn, hfa, ?_, fun j h1 h2 h3 => ?_⟩
    · first | (rw [quoL_set]; done) | (rw [hput_self, quoL_set])
    · first | exact hFF j h1 h2 h3 | rw [hput_other _ _ _ _ h3, hFF j h1 h2 h3]
  rintro M ⟨hMn, hma, hmb, _, hMF⟩
  rw [← lq2, quoL_all] at hmb
  have eM : Ext H M := ⟨by have := eK.n; omega, fun j hj => (hMF j (by omega) (by omega) (by omega)).trans (eK.blk j hj)⟩
  have lA : (q.1.map fun x => fbin .mul .f32 x a0).length = (xs1.length + 1) / 2 := by rw [List.length_map, lq1]
  have lB : (q.2.map fun x => fbin .quo .f32 x a0).length = xs1.length / 2 := by rw [List.length_map, lq2]
  have hO : liftOkF xs0 a0 xs1 = ((q.1.map fun x => fbin .mul .f32 x a0).all finF && (q.2.map fun x => fbin .quo .f32 x a0).all finF) := by
    unfold liftOkF
    rw [hL, decide_eq_false hz, Bool.false_or]
  obtain ⟨xA, hxA⟩ : ∃ xA, xA = q.1.map fun x => fbin .mul .f32 x a0 := ⟨_, rfl⟩
  obtain ⟨xB, hxB⟩ : ∃ xB, xB = q.2.map fun x => fbin .quo .f32 x a0 := ⟨_, rfl⟩
  rw [← hxA, ← hxB] at hL hO
  rw [← hxA] at hma lA
  rw [← hxB] at hmb lB
  rw [hL, hO]
  simp (disch := first | assumption | omega | rfl | (refine id ?_; simp only [gxD, ne_eq, reduceCtorEq, not_false_eq_true, Nat.reduceAdd, *]; done) | (refine id ?_; simp only [gxD]; omega)) only [↓gxPre, gxPost, ↓reduceIte, Nat.reduceEqDiff, reduceCtorEq, Nat.reduceAdd, Int.lt_irrefl]
  refine callR_pure (s_l02Finite_ok (FS.own hma (by omega) lA) (by omega)) (.inl rfl) ?_
  cases h5 : xA.all finF
  · simp (disch := first | assumption | omega | rfl | (refine id ?_; simp only [gxD, ne_eq, reduceCtorEq, not_false_eq_true, Nat.reduceAdd, *]; done) | (refine id ?_; simp only [gxD]; omega)) only [↓gxPre, gxPost, ↓reduceIte, Nat.reduceEqDiff, reduceCtorEq, Nat.reduceAdd]
    first | exact ⟨by simp only [Bool.false_and, Bool.true_and, Bool.and_true, Bool.and_false, Bool.or_true, Bool.true_or, Bool.false_or, Bool.or_false, Bool.and_self, Bool.or_self], eM, by omega, hma, hmb⟩ | exact ⟨eM, by omega, by simp only [Bool.false_and, Bool.true_and, Bool.and_true, Bool.and_false, Bool.or_true, Bool.true_or, Bool.false_or, Bool.or_false, Bool.and_self, Bool.or_self], hma, hmb⟩ | exact ⟨eM, by omega, hma, hmb⟩
  simp (disch := first | assumption | omega | rfl | (refine id ?_; simp only [gxD, ne_eq, reduceCtorEq, not_false_eq_true, Nat.reduceAdd, *]; done) | (refine id ?_; simp only [gxD]; omega)) only [↓gxPre, gxPost, ↓reduceIte, Nat.reduceEqDiff, reduceCtorEq, Nat.reduceAdd]
  refine callR_pure (s_l02Finite_ok (FS.own hmb (by omega) lB) (by omega)) (.inl rfl) ?_
  simp (disch := first | assumption | omega | rfl | (refine id ?_; simp only [gxD, ne_eq, reduceCtorEq, not_false_eq_true, Nat.reduceAdd, *]; done) | (refine id ?_; simp only [gxD]; omega)) only [↓gxPre, gxPost, ↓reduceIte, Nat.reduceEqDiff, reduceCtorEq, Nat.reduceAdd]
  first | exact ⟨by simp only [Bool.false_and, Bool.true_and, Bool.and_true, Bool.and_false, Bool.or_true, Bool.true_or, Bool.false_or, Bool.or_false, Bool.and_self, Bool.or_self], eM, by omega, hma, hmb⟩ | exact ⟨eM, by omega, by simp only [Bool.false_and, Bool.true_and, Bool.and_true, Bool.and_false, Bool.or_true, Bool.true_or, Bool.false_or, Bool.or_false, Bool.and_self, Bool.or_self], hma, hmb⟩ | exact ⟨eM, by omega, hma, hmb⟩
end Go.Proofs.Ytkojmlpaamdhoae
