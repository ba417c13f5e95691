/- Lifts of numbers of single precision. -/
import Derived.Test.YtkojmlpaamdhoaeDropDeepZ
namespace Go.Proofs.Ytkojmlpaamdhoae
open Go.Gx
set_option maxRecDepth 100000
set_option linter.unusedSimpArgs false
set_option linter.unusedVariables false

def updF (g : Nat → Nat) (xs : List Nat) (i : Nat) : List Nat := (List.range xs.length).map fun k => if k < i then g k else xs.getD k 0
theorem updF_length (g : Nat → Nat) (xs : List Nat) (i : Nat) : (updF g xs i).length = xs.length := by simp [updF]
theorem updF_zero (g : Nat → Nat) (xs : List Nat) : updF g xs 0 = xs := by
  refine list_ext_getD 0 (updF_length _ _ _) fun j hj => ?_
  rw [updF_length] at hj
  rw [updF, getD_range_map hj]
  simp
theorem updF_all (g : Nat → Nat) (xs : List Nat) : updF g xs xs.length = (List.range xs.length).map g := by
  refine list_ext_getD 0 (by simp [updF]) fun j hj => ?_
  rw [updF_length] at hj
  rw [updF, getD_range_map hj, getD_range_map hj, if_pos hj]
theorem updF_at {g : Nat → Nat} {xs : List Nat} {i : Nat} (h : i < xs.length) : ((updF g xs i).map fv)[i]? = some (.float .f32 (xs.getD i 0)) := by
  simp [updF, h, fv]
theorem updF_set {g : Nat → Nat} {xs : List Nat} {i : Nat} : (updF g xs i).set i (g i) = updF g xs (i + 1) := by
  refine list_ext_getD 0 (by simp [updF]) fun j hj => ?_
  have hj' : j < xs.length := by simpa [updF] using hj
  by_cases hji : j = i
  · subst hji
    rw [getD_set_self (by rw [updF_length]; exact hj'), updF, getD_range_map hj', if_pos (by omega)]
  · rw [Go.Gx.getD_set_ne (Ne.symm hji), updF, updF, getD_range_map hj', getD_range_map hj']
    by_cases h : j < i
    · rw [if_pos h, if_pos (by omega)]
    · rw [if_neg h, if_neg (by omega)]
theorem fin_nan {x : Nat} (h : finF x = true) : nanB .f32 x = false := by
  obtain ⟨s, m, e, hr⟩ := finF_num.1 h
  unfold nanB FloatKind.decode
  have : FloatKind.f32.format.read x = Ieee.single.read x := rfl
  rw [this, hr]; rfl
theorem ares_0 (φ : Go.Gx.Frame) (H : Heap) : ares φ H [] = some (.tuple #[]) := rfl
theorem i_besideOdd_f_ok {H : Heap} {v : Value} {xs : List Nat} {j : Nat} (hv : FS H v xs) (hn : xs.length ≤ 2 ^ 40) (hj : j < xs.length) :
    ACalls Try.prog n_i_besideOdd_float32_ [v, .int .i64 j] H fun r H' => r = .tuple #[.float .f32 (xs.getD j 0), .float .f32 (xs.getD (min (j + 1) (xs.length - 1)) 0)] ∧ H' = H := by
  have e : (min ((j : Int) + 1) ((xs.length : Int) - 1)).toNat = min (j + 1) (xs.length - 1) := by omega
  refine k_i_besideOdd_float32_.run rfl ?_
  unfold c_i_besideOdd_float32_
  simp (disch := first | assumption | omega | rfl | (refine id ?_; simp only [gxD, ne_eq, reduceCtorEq, not_false_eq_true, Nat.reduceAdd, *]; done) | (refine id ?_; simp only [gxD]; omega)) only [↓gxPre, gxPost, ↓reduceIte, Nat.reduceEqDiff, reduceCtorEq, Nat.reduceAdd, hv.len, hv.ia, hv.ld, e]
theorem i_besideEven_f_ok {H : Heap} {v : Value} {xs : List Nat} {j : Nat} (hv : FS H v xs) (hn : xs.length ≤ 2 ^ 40) (hj : j ≤ xs.length) (h1 : 1 ≤ xs.length) :
    ACalls Try.prog n_i_besideEven_float32_ [v, .int .i64 j] H fun r H' => r = .tuple #[.float .f32 (xs.getD (j - 1) 0), .float .f32 (xs.getD (min j (xs.length - 1)) 0)] ∧ H' = H := by
  have e : (min (j : Int) ((xs.length : Int) - 1)).toNat = min j (xs.length - 1) := by omega
  have e2 : (max ((j : Int) - 1) 0).toNat = j - 1 := by omega
  refine k_i_besideEven_float32_.run rfl ?_
  unfold c_i_besideEven_float32_
  simp (disch := first | assumption | omega | rfl | (refine id ?_; simp only [gxD, ne_eq, reduceCtorEq, not_false_eq_true, Nat.reduceAdd, *]; done) | (refine id ?_; simp only [gxD]; omega)) only [↓gxPre, gxPost, ↓reduceIte, Nat.reduceEqDiff, reduceCtorEq, Nat.reduceAdd, hv.len, hv.ia, hv.ld, e, e2]
theorem s_l02Beside_ok {H : Heap} {v : Value} {xs : List Nat} {i : Int} (hv : FS H v xs) (hn : xs.length ≤ 2 ^ 40) (h1 : 1 ≤ xs.length) (hi : -(2 ^ 41) ≤ i) (hi' : i ≤ 2 ^ 41) :
    ACalls Try.prog n_s_l02Beside [v, .int .i64 i] H fun r H' => r = .float .f32 (xs.getD (max 0 (min ((xs.length : Int) - 1) i)).toNat 0) ∧ H' = H := by
  refine k_s_l02Beside.run rfl ?_
  unfold c_s_l02Beside
  simp (disch := first | assumption | omega | rfl | (refine id ?_; simp only [gxD, ne_eq, reduceCtorEq, not_false_eq_true, Nat.reduceAdd, *]; done) | (refine id ?_; simp only [gxD]; omega)) only [↓gxPre, gxPost, ↓reduceIte, Nat.reduceEqDiff, reduceCtorEq, Nat.reduceAdd, hv.len, hv.ia, hv.ld]
theorem i_ValidScheme_ok {H : Heap} {a : Nat} {v : Value} {xs : List Nat} (hv : FS H v xs) (hn : xs.length ≤ 2 ^ 40) : ACalls Try.prog n_i_ValidScheme [.agg #[v, .float .f32 a]] H fun r H' => r = .bool (schemeF xs a) ∧ Ext H H' := by
  refine k_i_ValidScheme.run rfl ?_
  unfold c_i_ValidScheme
  have o1 := hv.one
  have e : Ext H (H.new ⟨true, t_Scheme, [v, .float .f32 a]⟩) := .new _ _
  simp (disch := first | assumption | omega | rfl | (refine id ?_; simp only [gxD, ne_eq, reduceCtorEq, not_false_eq_true, Nat.reduceAdd, *]; done) | (refine id ?_; simp only [gxD]; omega)) only [↓gxPre, gxPost, ↓reduceIte, Nat.reduceEqDiff, reduceCtorEq, Nat.reduceAdd, hv.len]
  refine callR_pure (i_within_ok) (by first | exact Or.inl rfl | (simp (disch := first | assumption | omega | rfl | (refine id ?_; simp only [gxD, ne_eq, reduceCtorEq, not_false_eq_true, Nat.reduceAdd, *]; done) | (refine id ?_; simp only [gxD]; omega)) only [↓gxPre, gxPost, ↓reduceIte, Nat.reduceEqDiff, reduceCtorEq, Nat.reduceAdd, *]; done)) ?_
  simp (disch := first | assumption | omega | rfl | (refine id ?_; simp only [gxD, ne_eq, reduceCtorEq, not_false_eq_true, Nat.reduceAdd, *]; done) | (refine id ?_; simp only [gxD]; omega)) only [↓gxPre, gxPost, ↓reduceIte, Nat.reduceEqDiff, reduceCtorEq, Nat.reduceAdd, *]
  cases h : within xs.length 1 8
  · simp (disch := first | assumption | omega | rfl | (refine id ?_; simp only [gxD, ne_eq, reduceCtorEq, not_false_eq_true, Nat.reduceAdd, *]; done) | (refine id ?_; simp only [gxD]; omega)) only [↓gxPre, gxPost, ↓reduceIte, Nat.reduceEqDiff, reduceCtorEq, Nat.reduceAdd]
    exact ⟨by simp only [schemeF, h, Bool.false_and], e⟩
  simp (disch := first | assumption | omega | rfl | (refine id ?_; simp only [gxD, ne_eq, reduceCtorEq, not_false_eq_true, Nat.reduceAdd, *]; done) | (refine id ?_; simp only [gxD]; omega)) only [↓gxPre, gxPost, ↓reduceIte, Nat.reduceEqDiff, reduceCtorEq, Nat.reduceAdd]
  refine callR_pure (i_areFinite1_ok (by simp (disch := first | assumption | omega | rfl | (refine id ?_; simp only [gxD, ne_eq, reduceCtorEq, not_false_eq_true, Nat.reduceAdd, *]; done) | (refine id ?_; simp only [gxD]; omega)) only [↓gxPre, gxPost, ↓reduceIte, Nat.reduceEqDiff, reduceCtorEq, Nat.reduceAdd, *]; rfl) (by first | omega | (simp only [new_n, put_n]; omega)) (hv.ext ⟨by first | omega | (simp only [new_n, put_n]; omega) | (simp only [new_n, put_n] at *; omega), fun i hi => by simp (disch := first | assumption | omega | rfl | (refine id ?_; simp only [gxD, ne_eq, reduceCtorEq, not_false_eq_true, Nat.reduceAdd, *]; done) | (refine id ?_; simp only [gxD]; omega)) only [↓gxPre, gxPost, ↓reduceIte, Nat.reduceEqDiff, reduceCtorEq, Nat.reduceAdd, *]⟩) hn) (.inl rfl) ?_
  have e2 : Ext H ((H.new ⟨true, t_Scheme, [v, .float .f32 a]⟩).new ⟨true, t_sfloat32, [v]⟩) := e.news _
  cases h2 : xs.all finF
  · simp (disch := first | assumption | omega | rfl | (refine id ?_; simp only [gxD, ne_eq, reduceCtorEq, not_false_eq_true, Nat.reduceAdd, *]; done) | (refine id ?_; simp only [gxD]; omega)) only [↓gxPre, gxPost, ↓reduceIte, Nat.reduceEqDiff, reduceCtorEq, Nat.reduceAdd]
    exact ⟨by simp only [schemeF, h2, Bool.and_false, Bool.false_and], e2⟩
  simp (disch := first | assumption | omega | rfl | (refine id ?_; simp only [gxD, ne_eq, reduceCtorEq, not_false_eq_true, Nat.reduceAdd, *]; done) | (refine id ?_; simp only [gxD]; omega)) only [↓gxPre, gxPost, ↓reduceIte, Nat.reduceEqDiff, reduceCtorEq, Nat.reduceAdd]
  refine callR_pure (i_isOver_ok) (by first | exact Or.inl rfl | (simp (disch := first | assumption | omega | rfl | (refine id ?_; simp only [gxD, ne_eq, reduceCtorEq, not_false_eq_true, Nat.reduceAdd, *]; done) | (refine id ?_; simp only [gxD]; omega)) only [↓gxPre, gxPost, ↓reduceIte, Nat.reduceEqDiff, reduceCtorEq, Nat.reduceAdd, *]; done)) ?_
  simp (disch := first | assumption | omega | rfl | (refine id ?_; simp only [gxD, ne_eq, reduceCtorEq, not_false_eq_true, Nat.reduceAdd, *]; done) | (refine id ?_; simp only [gxD]; omega)) only [↓gxPre, gxPost, ↓reduceIte, Nat.reduceEqDiff, reduceCtorEq, Nat.reduceAdd, *]
  first | exact ⟨by simp only [schemeF, h, h2, overF, Bool.true_and], e2⟩ | (simp only [schemeF, h, h2, overF, Bool.true_and]; done)
theorem s_l02Scheme_ok {H : Heap} {h a : Nat} {own : Bool} {ty : TypeId} {v : Value} {xs : List Nat} (hb : H.blk h = some ⟨own, ty, [v, .float .f32 a]⟩) (hv : FS H v xs) (hn : xs.length ≤ 2 ^ 40) : ACalls Try.prog n_s_l02Scheme [.pointer (some ⟨h, 0, some 2⟩)] H fun r H' => r = .bool (schemeF xs a) ∧ H' = H := by
  refine k_s_l02Scheme.run rfl ?_
  unfold c_s_l02Scheme
  by_cases h1 : (1 : Int) ≤ xs.length
  rotate_left
  · simp (disch := first | assumption | omega | rfl | (refine id ?_; simp only [gxD, ne_eq, reduceCtorEq, not_false_eq_true, Nat.reduceAdd, *]; done) | (refine id ?_; simp only [gxD]; omega)) only [↓gxPre, gxPost, ↓reduceIte, Nat.reduceEqDiff, reduceCtorEq, Nat.reduceAdd, hb, hv.len, h1]
    have : within xs.length 1 8 = false := by simp [within]; omega
    simp only [schemeF, this, Bool.false_and]
  by_cases h2 : (xs.length : Int) ≤ 8
  rotate_left
  · simp (disch := first | assumption | omega | rfl | (refine id ?_; simp only [gxD, ne_eq, reduceCtorEq, not_false_eq_true, Nat.reduceAdd, *]; done) | (refine id ?_; simp only [gxD]; omega)) only [↓gxPre, gxPost, ↓reduceIte, Nat.reduceEqDiff, reduceCtorEq, Nat.reduceAdd, hb, hv.len, h1, h2]
    have : within xs.length 1 8 = false := by simp [within]; omega
    simp only [schemeF, this, Bool.false_and]
  simp (disch := first | assumption | omega | rfl | (refine id ?_; simp only [gxD, ne_eq, reduceCtorEq, not_false_eq_true, Nat.reduceAdd, *]; done) | (refine id ?_; simp only [gxD]; omega)) only [↓gxPre, gxPost, ↓reduceIte, Nat.reduceEqDiff, reduceCtorEq, Nat.reduceAdd, hb, hv.len, h1, h2]
  refine callR_pure (s_l02Finite_ok hv hn) (.inl rfl) ?_
  cases h3 : xs.all finF
  · simp (disch := first | assumption | omega | rfl | (refine id ?_; simp only [gxD, ne_eq, reduceCtorEq, not_false_eq_true, Nat.reduceAdd, *]; done) | (refine id ?_; simp only [gxD]; omega)) only [↓gxPre, gxPost, ↓reduceIte, Nat.reduceEqDiff, reduceCtorEq, Nat.reduceAdd]
    simp only [schemeF, h3, Bool.and_false, Bool.false_and]
  simp (disch := first | assumption | omega | rfl | (refine id ?_; simp only [gxD, ne_eq, reduceCtorEq, not_false_eq_true, Nat.reduceAdd, *]; done) | (refine id ?_; simp only [gxD]; omega)) only [↓gxPre, gxPost, ↓reduceIte, Nat.reduceEqDiff, reduceCtorEq, Nat.reduceAdd, hb]
  refine callR_pure (s_l02Above_ok) (by first | exact Or.inl rfl | (simp (disch := first | assumption | omega | rfl | (refine id ?_; simp only [gxD, ne_eq, reduceCtorEq, not_false_eq_true, Nat.reduceAdd, *]; done) | (refine id ?_; simp only [gxD]; omega)) only [↓gxPre, gxPost, ↓reduceIte, Nat.reduceEqDiff, reduceCtorEq, Nat.reduceAdd, *]; done)) ?_
  simp (disch := first | assumption | omega | rfl | (refine id ?_; simp only [gxD, ne_eq, reduceCtorEq, not_false_eq_true, Nat.reduceAdd, *]; done) | (refine id ?_; simp only [gxD]; omega)) only [↓gxPre, gxPost, ↓reduceIte, Nat.reduceEqDiff, reduceCtorEq, Nat.reduceAdd, *]
  simp only [schemeF, within_true.2 ⟨h1, h2⟩, h3, overF, Bool.true_and]
theorem i_weigh_1_ok {H : Heap} {h j n b c w x y : Nat} {bk : Bool} {ty sb sc : TypeId} {ob oc : Bool} {xs : List Nat} (hb : H.blk h = some ⟨true, ty, xs.map fv⟩) (hn : xs.length = n) (hj : j < n) (h1 : H.blk b = some ⟨ob, sb, [.float .f32 w]⟩) (h2 : H.blk c = some ⟨oc, sc, [.bool bk]⟩) (hw : nanB .f32 w = false) :
    ACalls Try.prog n_i_weigh_1 [.pointer (some ⟨h, j, some n⟩), .float .f32 x, .float .f32 y, .pointer (some ⟨b, 0, some 1⟩), .pointer (some ⟨c, 0, some 1⟩)] H fun r H' => r = .tuple #[] ∧ H' = H.put h ⟨true, ty, (xs.set j (addF (xs.getD j 0) (mulF (if bk = true then fneg .f32 w else w) (addF x y)))).map fv⟩ := by
  have hl : (xs.map fv).length = n := by rw [lMapN, hn]
  have ha : (xs.map fv)[j]? = some (.float .f32 (xs.getD j 0)) := by simp [List.getD_eq_getElem?_getD, hn, hj, fv]
  refine k_i_weigh_1.run rfl ?_
  unfold c_i_weigh_1
  cases bk
  · simp (disch := first | assumption | omega | rfl | (refine id ?_; simp only [gxD, ne_eq, reduceCtorEq, not_false_eq_true, Nat.reduceAdd, *]; done) | (refine id ?_; simp only [gxD]; omega)) only [↓gxPre, gxPost, ↓reduceIte, Nat.reduceEqDiff, reduceCtorEq, Nat.reduceAdd, h1, h2, hb, ha, ares_0]
    rw [fv_set']; rfl
  · have hs := sub_mul_neg (x := xs.getD j 0) (w := w) (y := addF x y) hw
    unfold addF at hs
    simp (disch := first | assumption | omega | rfl | (refine id ?_; simp only [gxD, ne_eq, reduceCtorEq, not_false_eq_true, Nat.reduceAdd, *]; done) | (refine id ?_; simp only [gxD]; omega)) only [↓gxPre, gxPost, ↓reduceIte, Nat.reduceEqDiff, reduceCtorEq, Nat.reduceAdd, h1, h2, hb, ha, ares_0]
    rw [fv_set', hs]; rfl
theorem i_weigh_ok {H : Heap} {a b k w : Nat} {bk : Bool} {ev od : List Nat} (ha : H.blk a = some ⟨true, t_float32, ev.map fv⟩) (hb : H.blk b = some ⟨true, t_float32, od.map fv⟩) (hab : a ≠ b) (han : a < H.n) (hbn : b < H.n) (h1 : 1 ≤ od.length) (h2 : od.length ≤ ev.length) (h3 : ev.length ≤ od.length + 1) (h4 : ev.length ≤ 2 ^ 30) (hw : nanB .f32 w = false) (hk : k ≤ 2 ^ 30) :
    ACalls Try.prog n_i_weigh [.slice (some ⟨a, 0, none⟩) ev.length ev.length, .slice (some ⟨b, 0, none⟩) od.length od.length, .int .i64 k, .float .f32 w, .bool bk] H fun r H' => r = .tuple #[] ∧ H.n ≤ H'.n ∧
      H'.blk a = some ⟨true, t_float32, (weighF k (if bk = true then fneg .f32 w else w) (ev, od)).1.map fv⟩ ∧ H'.blk b = some ⟨true, t_float32, (weighF k (if bk = true then fneg .f32 w else w) (ev, od)).2.map fv⟩ ∧ ∀ i, i < H.n → i ≠ a → i ≠ b → H'.blk i = H.blk i := by
  obtain ⟨w', hw'⟩ : ∃ w', w' = if bk = true then fneg .f32 w else w := ⟨_, rfl⟩
  rw [← hw']
  refine k_i_weigh.run rfl ?_
  unfold c_i_weigh
  by_cases hp : k % 2 = 0
  · have hp' : ((k % 2 : Nat) : Int) = 0 := by omega
    have hW : weighF k w' (ev, od) = (ev, (List.range od.length).map (wO ev od w')) := by unfold weighF; rw [if_pos hp]
    rw [hW]
    simp (disch := first | assumption | omega | rfl | (refine id ?_; simp only [gxD, ne_eq, reduceCtorEq, not_false_eq_true, Nat.reduceAdd, *]; done) | (refine id ?_; simp only [gxD]; omega)) only [↓gxPre, gxPost, ↓reduceIte, Nat.reduceEqDiff, reduceCtorEq, Nat.reduceAdd, tmod2, hp']
    have hu0 : updF (wO ev od w') od 0 = od := updF_zero _ _
    refine loop_forH od.length (fun j => [.slice (some ⟨a, 0, none⟩) ev.length ev.length, .slice (some ⟨b, 0, none⟩) od.length od.length, .func (.func n_i_weigh_1) #[] #[.pointer (some ⟨H.n, 0, some 1⟩), .pointer (some ⟨H.n + 1, 0, some 1⟩)], .int .i64 od.length, .int .i64 j])
      (fun j G => G.n = H.n + 2 ∧ G.blk a = some ⟨true, t_float32, ev.map fv⟩ ∧ G.blk b = some ⟨true, t_float32, (updF (wO ev od w') od j).map fv⟩ ∧ G.blk H.n = some ⟨true, t_float32, [.float .f32 w]⟩ ∧ G.blk (H.n + 1) = some ⟨true, t_bool, [.bool bk]⟩ ∧ ∀ i, i < H.n → i ≠ a → i ≠ b → G.blk i = H.blk i) rfl
      ⟨by simp [new_n], by simp (disch := first | assumption | omega | rfl | (refine id ?_; simp only [gxD, ne_eq, reduceCtorEq, not_false_eq_true, Nat.reduceAdd, *]; done) | (refine id ?_; simp only [gxD]; omega)) only [↓gxPre, gxPost, ↓reduceIte, Nat.reduceEqDiff, reduceCtorEq, Nat.reduceAdd, ha], by rw [hu0]; simp (disch := first | assumption | omega | rfl | (refine id ?_; simp only [gxD, ne_eq, reduceCtorEq, not_false_eq_true, Nat.reduceAdd, *]; done) | (refine id ?_; simp only [gxD]; omega)) only [↓gxPre, gxPost, ↓reduceIte, Nat.reduceEqDiff, reduceCtorEq, Nat.reduceAdd, hb], by simp (disch := first | assumption | omega | rfl | (refine id ?_; simp only [gxD, ne_eq, reduceCtorEq, not_false_eq_true, Nat.reduceAdd, *]; done) | (refine id ?_; simp only [gxD]; omega)) only [↓gxPre, gxPost, ↓reduceIte, Nat.reduceEqDiff, reduceCtorEq, Nat.reduceAdd], by simp (disch := first | assumption | omega | rfl | (refine id ?_; simp only [gxD, ne_eq, reduceCtorEq, not_false_eq_true, Nat.reduceAdd, *]; done) | (refine id ?_; simp only [gxD]; omega)) only [↓gxPre, gxPost, ↓reduceIte, Nat.reduceEqDiff, reduceCtorEq, Nat.reduceAdd], fun i h1 _ _ => by simp (disch := first | assumption | omega | rfl | (refine id ?_; simp only [gxD, ne_eq, reduceCtorEq, not_false_eq_true, Nat.reduceAdd, *]; done) | (refine id ?_; simp only [gxD]; omega)) only [↓gxPre, gxPost, ↓reduceIte, Nat.reduceEqDiff, reduceCtorEq, Nat.reduceAdd]⟩ ?_ ?_
    · rintro G ⟨hG, hga, hgb, _, _, hF⟩
      rw [updF_all] at hgb
      simp (disch := first | assumption | omega | rfl | (refine id ?_; simp only [gxD, ne_eq, reduceCtorEq, not_false_eq_true, Nat.reduceAdd, *]; done) | (refine id ?_; simp only [gxD]; omega)) only [↓gxPre, gxPost, ↓reduceIte, Nat.reduceEqDiff, reduceCtorEq, Nat.reduceAdd, Int.lt_irrefl, ares_0]
      exact ⟨by omega, hga, hgb, hF⟩
    · rintro j G hj ⟨hG, hga, hgb, hx, hy, hF⟩
      have lo := updF_length (wO ev od w') od j
      have lo' : ((updF (wO ev od w') od j).map fv).length = od.length := by rw [lMapN, lo]
      have gj : (updF (wO ev od w') od j).getD j 0 = od.getD j 0 := by
        have := updF_at (g := wO ev od w') hj
        simp [List.getD_eq_getElem?_getD, fv, lo, hj] at this
        simpa [List.getD_eq_getElem?_getD, lo, hj] using this
      simp (disch := first | assumption | omega | rfl | (refine id ?_; simp only [gxD, ne_eq, reduceCtorEq, not_false_eq_true, Nat.reduceAdd, *]; done) | (refine id ?_; simp only [gxD]; omega)) only [↓gxPre, gxPost, ↓reduceIte, Nat.reduceEqDiff, reduceCtorEq, Nat.reduceAdd]
      refine callR_pure (i_besideOdd_f_ok (FS.own hga (by omega) rfl) (by omega) (by omega)) (by first | exact .inl rfl | (simp (disch := first | assumption | omega | rfl | (refine id ?_; simp only [gxD, ne_eq, reduceCtorEq, not_false_eq_true, Nat.reduceAdd, *]; done) | (refine id ?_; simp only [gxD]; omega)) only [↓gxPre, gxPost, ↓reduceIte, Nat.reduceEqDiff, reduceCtorEq, Nat.reduceAdd]; done)) ?_
      simp (disch := first | assumption | omega | rfl | (refine id ?_; simp only [gxD, ne_eq, reduceCtorEq, not_false_eq_true, Nat.reduceAdd, *]; done) | (refine id ?_; simp only [gxD]; omega)) only [↓gxPre, gxPost, ↓reduceIte, Nat.reduceEqDiff, reduceCtorEq, Nat.reduceAdd, hgb]
      refine callR_of (i_weigh_1_ok hgb lo hj hx hy hw) ?_
      rw [← hw', gj, show addF (od.getD j 0) (mulF w' (addF (ev.getD j 0) (ev.getD (min (j + 1) (ev.length - 1)) 0))) = wO ev od w' j from rfl, updF_set]
      rintro _ _ ⟨rfl, rfl⟩
      simp (disch := first | assumption | omega | rfl | (refine id ?_; simp only [gxD, ne_eq, reduceCtorEq, not_false_eq_true, Nat.reduceAdd, *]; done) | (refine id ?_; simp only [gxD]; omega)) only [↓gxPre, gxPost, ↓reduceIte, Nat.reduceEqDiff, reduceCtorEq, Nat.reduceAdd]
      refine ⟨by simp, hG, ?_, ?_, ?_, fun i h1 h2 h3 => ?_⟩
      · first | exact hga | rw [hput_other _ _ _ _ hab, hga]
      · first | exact hx | rw [hput_other _ _ _ _ (by omega), hx]
      · first | exact hy | rw [hput_other _ _ _ _ (by omega), hy]
      · first | exact hF i h1 h2 h3 | rw [hput_other _ _ _ _ h3, hF i h1 h2 h3]
  · have hp' : ¬ ((k % 2 : Nat) : Int) = 0 := by omega
    have hW : weighF k w' (ev, od) = ((List.range ev.length).map (wE ev od w'), od) := by unfold weighF; rw [if_neg hp]
    rw [hW]
    simp (disch := first | assumption | omega | rfl | (refine id ?_; simp only [gxD, ne_eq, reduceCtorEq, not_false_eq_true, Nat.reduceAdd, *]; done) | (refine id ?_; simp only [gxD]; omega)) only [↓gxPre, gxPost, ↓reduceIte, Nat.reduceEqDiff, reduceCtorEq, Nat.reduceAdd, tmod2, hp']
    have hu0 : updF (wE ev od w') ev 0 = ev := updF_zero _ _
    refine loop_forH ev.length (fun j => [.slice (some ⟨a, 0, none⟩) ev.length ev.length, .slice (some ⟨b, 0, none⟩) od.length od.length, .func (.func n_i_weigh_1) #[] #[.pointer (some ⟨H.n, 0, some 1⟩), .pointer (some ⟨H.n + 1, 0, some 1⟩)], .int .i64 ev.length, .int .i64 j])
      (fun j G => G.n = H.n + 2 ∧ G.blk a = some ⟨true, t_float32, (updF (wE ev od w') ev j).map fv⟩ ∧ G.blk b = some ⟨true, t_float32, od.map fv⟩ ∧ G.blk H.n = some ⟨true, t_float32, [.float .f32 w]⟩ ∧ G.blk (H.n + 1) = some ⟨true, t_bool, [.bool bk]⟩ ∧ ∀ i, i < H.n → i ≠ a → i ≠ b → G.blk i = H.blk i) rfl
      ⟨by simp [new_n], by rw [hu0]; simp (disch := first | assumption | omega | rfl | (refine id ?_; simp only [gxD, ne_eq, reduceCtorEq, not_false_eq_true, Nat.reduceAdd, *]; done) | (refine id ?_; simp only [gxD]; omega)) only [↓gxPre, gxPost, ↓reduceIte, Nat.reduceEqDiff, reduceCtorEq, Nat.reduceAdd, ha], by simp (disch := first | assumption | omega | rfl | (refine id ?_; simp only [gxD, ne_eq, reduceCtorEq, not_false_eq_true, Nat.reduceAdd, *]; done) | (refine id ?_; simp only [gxD]; omega)) only [↓gxPre, gxPost, ↓reduceIte, Nat.reduceEqDiff, reduceCtorEq, Nat.reduceAdd, hb], by simp (disch := first | assumption | omega | rfl | (refine id ?_; simp only [gxD, ne_eq, reduceCtorEq, not_false_eq_true, Nat.reduceAdd, *]; done) | (refine id ?_; simp only [gxD]; omega)) only [↓gxPre, gxPost, ↓reduceIte, Nat.reduceEqDiff, reduceCtorEq, Nat.reduceAdd], by simp (disch := first | assumption | omega | rfl | (refine id ?_; simp only [gxD, ne_eq, reduceCtorEq, not_false_eq_true, Nat.reduceAdd, *]; done) | (refine id ?_; simp only [gxD]; omega)) only [↓gxPre, gxPost, ↓reduceIte, Nat.reduceEqDiff, reduceCtorEq, Nat.reduceAdd], fun i h1 _ _ => by simp (disch := first | assumption | omega | rfl | (refine id ?_; simp only [gxD, ne_eq, reduceCtorEq, not_false_eq_true, Nat.reduceAdd, *]; done) | (refine id ?_; simp only [gxD]; omega)) only [↓gxPre, gxPost, ↓reduceIte, Nat.reduceEqDiff, reduceCtorEq, Nat.reduceAdd]⟩ ?_ ?_
    · rintro G ⟨hG, hga, hgb, _, _, hF⟩
      rw [updF_all] at hga
      simp (disch := first | assumption | omega | rfl | (refine id ?_; simp only [gxD, ne_eq, reduceCtorEq, not_false_eq_true, Nat.reduceAdd, *]; done) | (refine id ?_; simp only [gxD]; omega)) only [↓gxPre, gxPost, ↓reduceIte, Nat.reduceEqDiff, reduceCtorEq, Nat.reduceAdd, Int.lt_irrefl, ares_0]
      exact ⟨by omega, hga, hgb, hF⟩
    · rintro j G hj ⟨hG, hga, hgb, hx, hy, hF⟩
      have lo := updF_length (wE ev od w') ev j
      have lo' : ((updF (wE ev od w') ev j).map fv).length = ev.length := by rw [lMapN, lo]
      have gj : (updF (wE ev od w') ev j).getD j 0 = ev.getD j 0 := by
        have := updF_at (g := wE ev od w') hj
        simp [List.getD_eq_getElem?_getD, fv, lo, hj] at this
        simpa [List.getD_eq_getElem?_getD, lo, hj] using this
      simp (disch := first | assumption | omega | rfl | (refine id ?_; simp only [gxD, ne_eq, reduceCtorEq, not_false_eq_true, Nat.reduceAdd, *]; done) | (refine id ?_; simp only [gxD]; omega)) only [↓gxPre, gxPost, ↓reduceIte, Nat.reduceEqDiff, reduceCtorEq, Nat.reduceAdd]
      refine callR_pure (i_besideEven_f_ok (FS.own hgb (by omega) rfl) (by omega) (by omega) (by omega)) (by first | exact .inl rfl | (simp (disch := first | assumption | omega | rfl | (refine id ?_; simp only [gxD, ne_eq, reduceCtorEq, not_false_eq_true, Nat.reduceAdd, *]; done) | (refine id ?_; simp only [gxD]; omega)) only [↓gxPre, gxPost, ↓reduceIte, Nat.reduceEqDiff, reduceCtorEq, Nat.reduceAdd]; done)) ?_
      simp (disch := first | assumption | omega | rfl | (refine id ?_; simp only [gxD, ne_eq, reduceCtorEq, not_false_eq_true, Nat.reduceAdd, *]; done) | (refine id ?_; simp only [gxD]; omega)) only [↓gxPre, gxPost, ↓reduceIte, Nat.reduceEqDiff, reduceCtorEq, Nat.reduceAdd, hga]
      refine callR_of (i_weigh_1_ok hga lo hj hx hy hw) ?_
      rw [← hw', gj, show addF (ev.getD j 0) (mulF w' (addF (od.getD (j - 1) 0) (od.getD (min j (od.length - 1)) 0))) = wE ev od w' j from rfl, updF_set]
      rintro _ _ ⟨rfl, rfl⟩
      simp (disch := first | assumption | omega | rfl | (refine id ?_; simp only [gxD, ne_eq, reduceCtorEq, not_false_eq_true, Nat.reduceAdd, *]; done) | (refine id ?_; simp only [gxD]; omega)) only [↓gxPre, gxPost, ↓reduceIte, Nat.reduceEqDiff, reduceCtorEq, Nat.reduceAdd]
      refine ⟨by simp, hG, ?_, ?_, ?_, fun i h1 h2 h3 => ?_⟩
      · first | exact hgb | rw [hput_other _ _ _ _ (Ne.symm hab), hgb]
      · first | exact hx | rw [hput_other _ _ _ _ (by omega), hx]
      · first | exact hy | rw [hput_other _ _ _ _ (by omega), hy]
      · first | exact hF i h1 h2 h3 | rw [hput_other _ _ _ _ h2, hF i h1 h2 h3]
theorem s_l02Weigh_ok {H : Heap} {a b k w : Nat} {ev od : List Nat} (ha : H.blk a = some ⟨true, t_float32, ev.map fv⟩) (hb : H.blk b = some ⟨true, t_float32, od.map fv⟩) (hab : a ≠ b) (han : a < H.n) (hbn : b < H.n) (h1 : 1 ≤ od.length) (h2 : od.length ≤ ev.length) (h3 : ev.length ≤ od.length + 1) (h4 : ev.length ≤ 2 ^ 30) (hk : k ≤ 2 ^ 30) :
    ACalls Try.prog n_s_l02Weigh [.slice (some ⟨a, 0, none⟩) ev.length ev.length, .slice (some ⟨b, 0, none⟩) od.length od.length, .int .i64 k, .float .f32 w] H fun r H' => r = .tuple #[] ∧ H.n ≤ H'.n ∧
      H'.blk a = some ⟨true, t_float32, (weighF k w (ev, od)).1.map fv⟩ ∧ H'.blk b = some ⟨true, t_float32, (weighF k w (ev, od)).2.map fv⟩ ∧ ∀ i, i < H.n → i ≠ a → i ≠ b → H'.blk i = H.blk i := by
  refine k_s_l02Weigh.run rfl ?_
  unfold c_s_l02Weigh
  by_cases hp : k % 2 = 0
  · have hp' : ((k % 2 : Nat) : Int) = 0 := by omega
    have hW : weighF k w (ev, od) = (ev, (List.range od.length).map (wO ev od w)) := by unfold weighF; rw [if_pos hp]
    rw [hW]
    simp (disch := first | assumption | omega | rfl | (refine id ?_; simp only [gxD, ne_eq, reduceCtorEq, not_false_eq_true, Nat.reduceAdd, *]; done) | (refine id ?_; simp only [gxD]; omega)) only [↓gxPre, gxPost, ↓reduceIte, Nat.reduceEqDiff, reduceCtorEq, Nat.reduceAdd, tmod2, hp']
    have hu0 : updF (wO ev od w) od 0 = od := updF_zero _ _
    refine loop_forH od.length (fun j => [.slice (some ⟨a, 0, none⟩) ev.length ev.length, .slice (some ⟨b, 0, none⟩) od.length od.length, .float .f32 w, .int .i64 j])
      (fun j G => G.n = H.n ∧ G.blk a = some ⟨true, t_float32, ev.map fv⟩ ∧ G.blk b = some ⟨true, t_float32, (updF (wO ev od w) od j).map fv⟩ ∧ ∀ i, i < H.n → i ≠ a → i ≠ b → G.blk i = H.blk i) rfl
      ⟨rfl, ha, by rw [hu0]; exact hb, fun i h1 _ _ => rfl⟩ ?_ ?_
    · rintro G ⟨hG, hga, hgb, hF⟩
      rw [updF_all] at hgb
      simp (disch := first | assumption | omega | rfl | (refine id ?_; simp only [gxD, ne_eq, reduceCtorEq, not_false_eq_true, Nat.reduceAdd, *]; done) | (refine id ?_; simp only [gxD]; omega)) only [↓gxPre, gxPost, ↓reduceIte, Nat.reduceEqDiff, reduceCtorEq, Nat.reduceAdd, Int.lt_irrefl, ares_0]
      exact ⟨by omega, hga, hgb, hF⟩
    · rintro j G hj ⟨hG, hga, hgb, hF⟩
      have lo := updF_length (wO ev od w) od j
      have lo' : ((updF (wO ev od w) od j).map fv).length = od.length := by rw [lMapN, lo]
      have hat := updF_at (g := wO ev od w) hj
      have he : (ev.map fv)[j]? = some (.float .f32 (ev.getD j 0)) := by
        have : j < ev.length := by omega
        simp [List.getD_eq_getElem?_getD, this, fv]
      have e2 : (max 0 (min ((ev.length : Int) - 1) ((j : Int) + 1))).toNat = min (j + 1) (ev.length - 1) := by omega
      have hs : ((updF (wO ev od w) od j).map fv).set j (.float .f32 (wO ev od w j)) = (updF (wO ev od w) od (j + 1)).map fv := by rw [fv_set', updF_set]
      simp (disch := first | assumption | omega | rfl | (refine id ?_; simp only [gxD, ne_eq, reduceCtorEq, not_false_eq_true, Nat.reduceAdd, *]; done) | (refine id ?_; simp only [gxD]; omega)) only [↓gxPre, gxPost, ↓reduceIte, Nat.reduceEqDiff, reduceCtorEq, Nat.reduceAdd, hgb, hga, hat, he]
      refine callR_pure (s_l02Beside_ok (FS.own hga (by omega) rfl) (by omega) (by omega) (by omega) (by omega)) (by first | exact .inl rfl | (simp (disch := first | assumption | omega | rfl | (refine id ?_; simp only [gxD, ne_eq, reduceCtorEq, not_false_eq_true, Nat.reduceAdd, *]; done) | (refine id ?_; simp only [gxD]; omega)) only [↓gxPre, gxPost, ↓reduceIte, Nat.reduceEqDiff, reduceCtorEq, Nat.reduceAdd, hgb, hga, hat, he]; done)) ?_
      simp (disch := first | assumption | omega | rfl | (refine id ?_; simp only [gxD, ne_eq, reduceCtorEq, not_false_eq_true, Nat.reduceAdd, *]; done) | (refine id ?_; simp only [gxD]; omega)) only [↓gxPre, gxPost, ↓reduceIte, Nat.reduceEqDiff, reduceCtorEq, Nat.reduceAdd, hgb, hga, hat, he, e2]
      refine ⟨by simp, hG, ?_, fun i h1 h2 h3 => ?_⟩
      · first | exact congrArg (fun l => some (Blk.mk true t_float32 l)) hs | (rw [hput_self]; exact congrArg (fun l => some (Blk.mk true t_float32 l)) hs)
      · first | exact hF i h1 h2 h3 | rw [hput_other _ _ _ _ h3, hF i h1 h2 h3]
  · have hp' : ¬ ((k % 2 : Nat) : Int) = 0 := by omega
    have hW : weighF k w (ev, od) = ((List.range ev.length).map (wE ev od w), od) := by unfold weighF; rw [if_neg hp]
    rw [hW]
    simp (disch := first | assumption | omega | rfl | (refine id ?_; simp only [gxD, ne_eq, reduceCtorEq, not_false_eq_true, Nat.reduceAdd, *]; done) | (refine id ?_; simp only [gxD]; omega)) only [↓gxPre, gxPost, ↓reduceIte, Nat.reduceEqDiff, reduceCtorEq, Nat.reduceAdd, tmod2, hp']
    have hu0 : updF (wE ev od w) ev 0 = ev := updF_zero _ _
    refine loop_forH ev.length (fun j => [.slice (some ⟨a, 0, none⟩) ev.length ev.length, .slice (some ⟨b, 0, none⟩) od.length od.length, .float .f32 w, .int .i64 j])
      (fun j G => G.n = H.n ∧ G.blk a = some ⟨true, t_float32, (updF (wE ev od w) ev j).map fv⟩ ∧ G.blk b = some ⟨true, t_float32, od.map fv⟩ ∧ ∀ i, i < H.n → i ≠ a → i ≠ b → G.blk i = H.blk i) rfl
      ⟨rfl, by rw [hu0]; exact ha, hb, fun i h1 _ _ => rfl⟩ ?_ ?_
    · rintro G ⟨hG, hga, hgb, hF⟩
      rw [updF_all] at hga
      simp (disch := first | assumption | omega | rfl | (refine id ?_; simp only [gxD, ne_eq, reduceCtorEq, not_false_eq_true, Nat.reduceAdd, *]; done) | (refine id ?_; simp only [gxD]; omega)) only [↓gxPre, gxPost, ↓reduceIte, Nat.reduceEqDiff, reduceCtorEq, Nat.reduceAdd, Int.lt_irrefl, ares_0]
      exact ⟨by omega, hga, hgb, hF⟩
    · rintro j G hj ⟨hG, hga, hgb, hF⟩
      have lo := updF_length (wE ev od w) ev j
      have lo' : ((updF (wE ev od w) ev j).map fv).length = ev.length := by rw [lMapN, lo]
      have hat := updF_at (g := wE ev od w) hj
      have e1 : (max 0 (min ((od.length : Int) - 1) ((j : Int) - 1))).toNat = j - 1 := by omega
      have e2 : (max 0 (min ((od.length : Int) - 1) (j : Int))).toNat = min j (od.length - 1) := by omega
      have hs : ((updF (wE ev od w) ev j).map fv).set j (.float .f32 (wE ev od w j)) = (updF (wE ev od w) ev (j + 1)).map fv := by rw [fv_set', updF_set]
      simp (disch := first | assumption | omega | rfl | (refine id ?_; simp only [gxD, ne_eq, reduceCtorEq, not_false_eq_true, Nat.reduceAdd, *]; done) | (refine id ?_; simp only [gxD]; omega)) only [↓gxPre, gxPost, ↓reduceIte, Nat.reduceEqDiff, reduceCtorEq, Nat.reduceAdd, hgb, hga, hat]
      refine callR_pure (s_l02Beside_ok (FS.own hgb (by omega) rfl) (by omega) (by omega) (by omega) (by omega)) (by first | exact .inl rfl | (simp (disch := first | assumption | omega | rfl | (refine id ?_; simp only [gxD, ne_eq, reduceCtorEq, not_false_eq_true, Nat.reduceAdd, *]; done) | (refine id ?_; simp only [gxD]; omega)) only [↓gxPre, gxPost, ↓reduceIte, Nat.reduceEqDiff, reduceCtorEq, Nat.reduceAdd, hgb, hga, hat]; done)) ?_
      simp (disch := first | assumption | omega | rfl | (refine id ?_; simp only [gxD, ne_eq, reduceCtorEq, not_false_eq_true, Nat.reduceAdd, *]; done) | (refine id ?_; simp only [gxD]; omega)) only [↓gxPre, gxPost, ↓reduceIte, Nat.reduceEqDiff, reduceCtorEq, Nat.reduceAdd, hgb, hga, hat, e1]
      refine callR_pure (s_l02Beside_ok (FS.own hgb (by omega) rfl) (by omega) (by omega) (by omega) (by omega)) (by first | exact .inl rfl | (simp (disch := first | assumption | omega | rfl | (refine id ?_; simp only [gxD, ne_eq, reduceCtorEq, not_false_eq_true, Nat.reduceAdd, *]; done) | (refine id ?_; simp only [gxD]; omega)) only [↓gxPre, gxPost, ↓reduceIte, Nat.reduceEqDiff, reduceCtorEq, Nat.reduceAdd, hgb, hga, hat]; done)) ?_
      simp (disch := first | assumption | omega | rfl | (refine id ?_; simp only [gxD, ne_eq, reduceCtorEq, not_false_eq_true, Nat.reduceAdd, *]; done) | (refine id ?_; simp only [gxD]; omega)) only [↓gxPre, gxPost, ↓reduceIte, Nat.reduceEqDiff, reduceCtorEq, Nat.reduceAdd, hgb, hga, hat, e2]
      refine ⟨by simp, hG, ?_, fun i h1 h2 h3 => ?_⟩
      · first | exact congrArg (fun l => some (Blk.mk true t_float32 l)) hs | (rw [hput_self]; exact congrArg (fun l => some (Blk.mk true t_float32 l)) hs)
      · first | exact hF i h1 h2 h3 | rw [hput_other _ _ _ _ h2, hF i h1 h2 h3]
theorem i_weigh_at {H : Heap} {a b k w n m : Nat} {bk : Bool} {ev od : List Nat} (ha : H.blk a = some ⟨true, t_float32, ev.map fv⟩) (hb : H.blk b = some ⟨true, t_float32, od.map fv⟩) (hn : ev.length = n) (hm : od.length = m) (hab : a ≠ b) (han : a < H.n) (hbn : b < H.n) (h1 : 1 ≤ m) (h2 : m ≤ n) (h3 : n ≤ m + 1) (h4 : n ≤ 2 ^ 30) (hw : nanB .f32 w = false) (hk : k ≤ 2 ^ 30) :
    ACalls Try.prog n_i_weigh [.slice (some ⟨a, 0, none⟩) n n, .slice (some ⟨b, 0, none⟩) m m, .int .i64 k, .float .f32 w, .bool bk] H fun r H' => r = .tuple #[] ∧ H.n ≤ H'.n ∧
      H'.blk a = some ⟨true, t_float32, (weighF k (if bk = true then fneg .f32 w else w) (ev, od)).1.map fv⟩ ∧ H'.blk b = some ⟨true, t_float32, (weighF k (if bk = true then fneg .f32 w else w) (ev, od)).2.map fv⟩ ∧ ∀ i, i < H.n → i ≠ a → i ≠ b → H'.blk i = H.blk i := by
  subst hn hm
  exact i_weigh_ok ha hb hab han hbn h1 h2 h3 h4 hw hk
theorem s_l02Weigh_at {H : Heap} {a b k w n m : Nat} {ev od : List Nat} (ha : H.blk a = some ⟨true, t_float32, ev.map fv⟩) (hb : H.blk b = some ⟨true, t_float32, od.map fv⟩) (hn : ev.length = n) (hm : od.length = m) (hab : a ≠ b) (han : a < H.n) (hbn : b < H.n) (h1 : 1 ≤ m) (h2 : m ≤ n) (h3 : n ≤ m + 1) (h4 : n ≤ 2 ^ 30) (hk : k ≤ 2 ^ 30) :
    ACalls Try.prog n_s_l02Weigh [.slice (some ⟨a, 0, none⟩) n n, .slice (some ⟨b, 0, none⟩) m m, .int .i64 k, .float .f32 w] H fun r H' => r = .tuple #[] ∧ H.n ≤ H'.n ∧
      H'.blk a = some ⟨true, t_float32, (weighF k w (ev, od)).1.map fv⟩ ∧ H'.blk b = some ⟨true, t_float32, (weighF k w (ev, od)).2.map fv⟩ ∧ ∀ i, i < H.n → i ≠ a → i ≠ b → H'.blk i = H.blk i := by
  subst hn hm
  exact s_l02Weigh_ok ha hb hab han hbn h1 h2 h3 h4 hk
theorem isLong_len {xs : List Nat} (h : isLongF xs = true) : xs.length ≤ 128 ∧ 1 ≤ xs.length := by
  simp only [isLongF, Bool.and_eq_true] at h
  have := within_true.1 h.1
  omega
def mulL (sc : Nat) (xs : List Nat) : Nat → List Nat := updF (fun k => fbin .mul .f32 (xs.getD k 0) sc) xs
def quoL (sc : Nat) (xs : List Nat) : Nat → List Nat := updF (fun k => fbin .quo .f32 (xs.getD k 0) sc) xs
theorem range_getD_map (f : Nat → Nat) (xs : List Nat) : (List.range xs.length).map (fun k => f (xs.getD k 0)) = xs.map f := by
  refine List.ext_getElem (by simp) fun i h1 h2 => ?_
  have h : i < xs.length := by simpa using h2
  simp [List.getD_eq_getElem?_getD, h]
theorem mulL_all (sc : Nat) (xs : List Nat) : mulL sc xs xs.length = xs.map fun x => fbin .mul .f32 x sc := by
  rw [mulL, updF_all]; exact range_getD_map (fun x => fbin .mul .f32 x sc) xs
theorem quoL_all (sc : Nat) (xs : List Nat) : quoL sc xs xs.length = xs.map fun x => fbin .quo .f32 x sc := by
  rw [quoL, updF_all]; exact range_getD_map (fun x => fbin .quo .f32 x sc) xs
theorem mulL_length (sc : Nat) (xs : List Nat) (i : Nat) : (mulL sc xs i).length = xs.length := updF_length _ _ _
theorem quoL_length (sc : Nat) (xs : List Nat) (i : Nat) : (quoL sc xs i).length = xs.length := updF_length _ _ _
theorem mulL_zero (sc : Nat) (xs : List Nat) : mulL sc xs 0 = xs := updF_zero _ _
theorem quoL_zero (sc : Nat) (xs : List Nat) : quoL sc xs 0 = xs := updF_zero _ _
theorem mulL_at {sc : Nat} {xs : List Nat} {i : Nat} (h : i < xs.length) : ((mulL sc xs i).map fv)[i]? = some (.float .f32 (xs.getD i 0)) := updF_at h
theorem quoL_at {sc : Nat} {xs : List Nat} {i : Nat} (h : i < xs.length) : ((quoL sc xs i).map fv)[i]? = some (.float .f32 (xs.getD i 0)) := updF_at h
theorem mulL_set {sc : Nat} {xs : List Nat} {i : Nat} : ((mulL sc xs i).map fv).set i (.float .f32 (fbin .mul .f32 (xs.getD i 0) sc)) = (mulL sc xs (i + 1)).map fv := by rw [fv_set']; exact congrArg (List.map fv) updF_set
theorem quoL_set {sc : Nat} {xs : List Nat} {i : Nat} : ((quoL sc xs i).map fv).set i (.float .f32 (fbin .quo .f32 (xs.getD i 0) sc)) = (quoL sc xs (i + 1)).map fv := by rw [fv_set']; exact congrArg (List.map fv) updF_set
theorem weighUp_zero (ws : List Nat) (p : List Nat × List Nat) : weighUp ws p 0 = p := rfl
theorem weighUp_succ (ws : List Nat) (p : List Nat × List Nat) (i : Nat) : weighUp ws p (i + 1) = weighF i (ws.getD i 0) (weighUp ws p i) := rfl
structure RF (H : Heap) (v : Value) (xs : List Nat) : Prop where
  rd : FS H v xs
  le : xs.length ≤ 2 ^ 40
end Go.Proofs.Ytkojmlpaamdhoae
