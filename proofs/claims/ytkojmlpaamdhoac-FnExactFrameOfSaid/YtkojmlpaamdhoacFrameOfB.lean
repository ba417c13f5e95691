/- What the small functions of the program do. -/
import Derived.Test.YtkojmlpaamdhoacFrameOfA
namespace Go.Proofs.Ytkojmlpaamdhoac
open Go.Gx
set_option maxRecDepth 100000
set_option linter.unusedSimpArgs false
set_option linter.unusedVariables false

theorem i_within_ok {H : Heap} {a b c : Int} :
    ACalls Try.prog n_i_within [.int .i64 a, .int .i64 b, .int .i64 c] H fun r H' => r = .bool (within a b c) ∧ H' = H := by
  refine k_i_within.run rfl ?_
  unfold c_i_within
  ((try simp (disch := first | assumption | omega | rfl | (refine id ?_; simp only [gxD, ne_eq, reduceCtorEq, not_false_eq_true, Nat.reduceAdd, *]; done) | (refine id ?_; simp only [gxD]; omega)) only [↓gxPre, gxPost, ↓reduceIte, Nat.reduceEqDiff, reduceCtorEq, Nat.reduceAdd, *]); repeat' (first | (refine grdR_split (fun _ => ?_) (fun _ => ?_) <;> simp (disch := first | assumption | omega | rfl | (refine id ?_; simp only [gxD, ne_eq, reduceCtorEq, not_false_eq_true, Nat.reduceAdd, *]; done) | (refine id ?_; simp only [gxD]; omega)) only [↓gxPre, gxPost, ↓reduceIte, Nat.reduceEqDiff, reduceCtorEq, Nat.reduceAdd, *]) | (refine condR_split (fun _ => ?_) (fun _ => ?_) <;> simp (disch := first | assumption | omega | rfl | (refine id ?_; simp only [gxD, ne_eq, reduceCtorEq, not_false_eq_true, Nat.reduceAdd, *]; done) | (refine id ?_; simp only [gxD]; omega)) only [↓gxPre, gxPost, ↓reduceIte, Nat.reduceEqDiff, reduceCtorEq, Nat.reduceAdd, *])))
  all_goals (simp_all [within]; try omega)
theorem s_l00In_ok {H : Heap} {a b c : Int} :
    ACalls Try.prog n_s_l00In [.int .i64 a, .int .i64 b, .int .i64 c] H fun r H' => r = .bool (within a b c) ∧ H' = H := by
  refine k_s_l00In.run rfl ?_
  unfold c_s_l00In
  ((try simp (disch := first | assumption | omega | rfl | (refine id ?_; simp only [gxD, ne_eq, reduceCtorEq, not_false_eq_true, Nat.reduceAdd, *]; done) | (refine id ?_; simp only [gxD]; omega)) only [↓gxPre, gxPost, ↓reduceIte, Nat.reduceEqDiff, reduceCtorEq, Nat.reduceAdd, *]); repeat' (first | (refine grdR_split (fun _ => ?_) (fun _ => ?_) <;> simp (disch := first | assumption | omega | rfl | (refine id ?_; simp only [gxD, ne_eq, reduceCtorEq, not_false_eq_true, Nat.reduceAdd, *]; done) | (refine id ?_; simp only [gxD]; omega)) only [↓gxPre, gxPost, ↓reduceIte, Nat.reduceEqDiff, reduceCtorEq, Nat.reduceAdd, *]) | (refine condR_split (fun _ => ?_) (fun _ => ?_) <;> simp (disch := first | assumption | omega | rfl | (refine id ?_; simp only [gxD, ne_eq, reduceCtorEq, not_false_eq_true, Nat.reduceAdd, *]; done) | (refine id ?_; simp only [gxD]; omega)) only [↓gxPre, gxPost, ↓reduceIte, Nat.reduceEqDiff, reduceCtorEq, Nat.reduceAdd, *])))
  all_goals (simp_all [within]; try omega)
theorem i_IsFinite_ok {H : Heap} {x : Nat} : ACalls Try.prog n_i_IsFinite [.float .f32 x] H fun r H' => r = .bool (finF x) ∧ H' = H := by
  refine k_i_IsFinite.run rfl ?_
  unfold c_i_IsFinite
  ((try simp (disch := first | assumption | omega | rfl | (refine id ?_; simp only [gxD, ne_eq, reduceCtorEq, not_false_eq_true, Nat.reduceAdd, *]; done) | (refine id ?_; simp only [gxD]; omega)) only [↓gxPre, gxPost, ↓reduceIte, Nat.reduceEqDiff, reduceCtorEq, Nat.reduceAdd, finF, *]); repeat' (first | (refine grdR_split (fun _ => ?_) (fun _ => ?_) <;> simp (disch := first | assumption | omega | rfl | (refine id ?_; simp only [gxD, ne_eq, reduceCtorEq, not_false_eq_true, Nat.reduceAdd, *]; done) | (refine id ?_; simp only [gxD]; omega)) only [↓gxPre, gxPost, ↓reduceIte, Nat.reduceEqDiff, reduceCtorEq, Nat.reduceAdd, finF, *]) | (refine condR_split (fun _ => ?_) (fun _ => ?_) <;> simp (disch := first | assumption | omega | rfl | (refine id ?_; simp only [gxD, ne_eq, reduceCtorEq, not_false_eq_true, Nat.reduceAdd, *]; done) | (refine id ?_; simp only [gxD]; omega)) only [↓gxPre, gxPost, ↓reduceIte, Nat.reduceEqDiff, reduceCtorEq, Nat.reduceAdd, finF, *])))
theorem s_l01Finite_ok {H : Heap} {x : Nat} : ACalls Try.prog n_s_l01Finite [.float .f32 x] H fun r H' => r = .bool (finF x) ∧ H' = H := by
  refine k_s_l01Finite.run rfl ?_
  unfold c_s_l01Finite
  ((try simp (disch := first | assumption | omega | rfl | (refine id ?_; simp only [gxD, ne_eq, reduceCtorEq, not_false_eq_true, Nat.reduceAdd, *]; done) | (refine id ?_; simp only [gxD]; omega)) only [↓gxPre, gxPost, ↓reduceIte, Nat.reduceEqDiff, reduceCtorEq, Nat.reduceAdd, finF, *]); repeat' (first | (refine grdR_split (fun _ => ?_) (fun _ => ?_) <;> simp (disch := first | assumption | omega | rfl | (refine id ?_; simp only [gxD, ne_eq, reduceCtorEq, not_false_eq_true, Nat.reduceAdd, *]; done) | (refine id ?_; simp only [gxD]; omega)) only [↓gxPre, gxPost, ↓reduceIte, Nat.reduceEqDiff, reduceCtorEq, Nat.reduceAdd, finF, *]) | (refine condR_split (fun _ => ?_) (fun _ => ?_) <;> simp (disch := first | assumption | omega | rfl | (refine id ?_; simp only [gxD, ne_eq, reduceCtorEq, not_false_eq_true, Nat.reduceAdd, *]; done) | (refine id ?_; simp only [gxD]; omega)) only [↓gxPre, gxPost, ↓reduceIte, Nat.reduceEqDiff, reduceCtorEq, Nat.reduceAdd, finF, *])))
theorem s_l02Finite_ok {H : Heap} {v : Value} {xs : List Nat} (hv : FS H v xs) (hn : xs.length ≤ 2 ^ 40) : ACalls Try.prog n_s_l02Finite [v] H fun r H' => r = .bool (xs.all finF) ∧ H' = H := by
  refine k_s_l02Finite.run rfl ?_
  unfold c_s_l02Finite
  simp (disch := first | assumption | omega | rfl | (refine id ?_; simp only [gxD, ne_eq, reduceCtorEq, not_false_eq_true, Nat.reduceAdd, *]; done) | (refine id ?_; simp only [gxD]; omega)) only [↓gxPre, gxPost, ↓reduceIte, Nat.reduceEqDiff, reduceCtorEq, Nat.reduceAdd, hv.len]
  refine loop_forH xs.length (fun i => [v, .int .i64 i]) (fun i H' => H = H' ∧ ∀ j, j < i → finF (xs.getD j 0) = true) rfl ⟨rfl, by intros; omega⟩ ?_ ?_
  · rintro _ ⟨rfl, hJ⟩
    ((try simp (disch := first | assumption | omega | rfl | (refine id ?_; simp only [gxD, ne_eq, reduceCtorEq, not_false_eq_true, Nat.reduceAdd, *]; done) | (refine id ?_; simp only [gxD]; omega)) only [↓gxPre, gxPost, ↓reduceIte, Nat.reduceEqDiff, reduceCtorEq, Nat.reduceAdd, hv.len, Int.lt_irrefl, *]); repeat' (first | (refine grdR_split (fun _ => ?_) (fun _ => ?_) <;> simp (disch := first | assumption | omega | rfl | (refine id ?_; simp only [gxD, ne_eq, reduceCtorEq, not_false_eq_true, Nat.reduceAdd, *]; done) | (refine id ?_; simp only [gxD]; omega)) only [↓gxPre, gxPost, ↓reduceIte, Nat.reduceEqDiff, reduceCtorEq, Nat.reduceAdd, hv.len, Int.lt_irrefl, *]) | (refine condR_split (fun _ => ?_) (fun _ => ?_) <;> simp (disch := first | assumption | omega | rfl | (refine id ?_; simp only [gxD, ne_eq, reduceCtorEq, not_false_eq_true, Nat.reduceAdd, *]; done) | (refine id ?_; simp only [gxD]; omega)) only [↓gxPre, gxPost, ↓reduceIte, Nat.reduceEqDiff, reduceCtorEq, Nat.reduceAdd, hv.len, Int.lt_irrefl, *])))
    rw [all_getD.2 hJ]
  · rintro i _ hi ⟨rfl, hJ⟩
    ((try simp (disch := first | assumption | omega | rfl | (refine id ?_; simp only [gxD, ne_eq, reduceCtorEq, not_false_eq_true, Nat.reduceAdd, *]; done) | (refine id ?_; simp only [gxD]; omega)) only [↓gxPre, gxPost, ↓reduceIte, Nat.reduceEqDiff, reduceCtorEq, Nat.reduceAdd, hv.len, hv.ia, hv.ld, *]); repeat' (first | (refine grdR_split (fun _ => ?_) (fun _ => ?_) <;> simp (disch := first | assumption | omega | rfl | (refine id ?_; simp only [gxD, ne_eq, reduceCtorEq, not_false_eq_true, Nat.reduceAdd, *]; done) | (refine id ?_; simp only [gxD]; omega)) only [↓gxPre, gxPost, ↓reduceIte, Nat.reduceEqDiff, reduceCtorEq, Nat.reduceAdd, hv.len, hv.ia, hv.ld, *]) | (refine condR_split (fun _ => ?_) (fun _ => ?_) <;> simp (disch := first | assumption | omega | rfl | (refine id ?_; simp only [gxD, ne_eq, reduceCtorEq, not_false_eq_true, Nat.reduceAdd, *]; done) | (refine id ?_; simp only [gxD]; omega)) only [↓gxPre, gxPost, ↓reduceIte, Nat.reduceEqDiff, reduceCtorEq, Nat.reduceAdd, hv.len, hv.ia, hv.ld, *]) | (refine callR_pure (s_l01Finite_ok) (by first | exact Or.inl rfl | (simp (disch := first | assumption | omega | rfl | (refine id ?_; simp only [gxD, ne_eq, reduceCtorEq, not_false_eq_true, Nat.reduceAdd, *]; done) | (refine id ?_; simp only [gxD]; omega)) only [↓gxPre, gxPost, ↓reduceIte, Nat.reduceEqDiff, reduceCtorEq, Nat.reduceAdd, hv.len, hv.ia, hv.ld, *]; done)) ?_; simp (disch := first | assumption | omega | rfl | (refine id ?_; simp only [gxD, ne_eq, reduceCtorEq, not_false_eq_true, Nat.reduceAdd, *]; done) | (refine id ?_; simp only [gxD]; omega)) only [↓gxPre, gxPost, ↓reduceIte, Nat.reduceEqDiff, reduceCtorEq, Nat.reduceAdd, hv.len, hv.ia, hv.ld, *])))
    · rename_i h; simp only [Bool.not_eq_true'] at h
      rw [all_false hi h]
    · rename_i h; simp only [Bool.not_eq_false'] at h
      exact ⟨by simp, Nat.forall_lt_succ_right.2 ⟨hJ, h⟩⟩
theorem i_areFinite_ok {H : Heap} {w : Value} {xss : List (List Nat)} (hw : SS H w xss) (hn : xss.length ≤ 2 ^ 40) (hx : ∀ j, j < xss.length → (xss.getD j []).length ≤ 2 ^ 40) :
    ACalls Try.prog n_i_areFinite [w] H fun r H' => r = .bool (xss.all fun xs => xs.all finF) ∧ H' = H := by
  obtain ⟨vs, hv, hl, hvs⟩ := hw
  refine k_i_areFinite.run rfl ?_
  unfold c_i_areFinite
  simp (disch := first | assumption | omega | rfl | (refine id ?_; simp only [gxD, ne_eq, reduceCtorEq, not_false_eq_true, Nat.reduceAdd, *]; done) | (refine id ?_; simp only [gxD]; omega)) only [↓gxPre, gxPost, ↓reduceIte, Nat.reduceEqDiff, reduceCtorEq, Nat.reduceAdd, hv.len, hl]
  refine loop_forH xss.length (fun i => [w, .int .i64 xss.length, .int .i64 i]) (fun i H' => H = H' ∧ ∀ j, j < i → (xss.getD j []).all finF = true) rfl ⟨rfl, by intros; omega⟩ ?_ ?_
  · rintro _ ⟨rfl, hJ⟩
    ((try simp (disch := first | assumption | omega | rfl | (refine id ?_; simp only [gxD, ne_eq, reduceCtorEq, not_false_eq_true, Nat.reduceAdd, *]; done) | (refine id ?_; simp only [gxD]; omega)) only [↓gxPre, gxPost, ↓reduceIte, Nat.reduceEqDiff, reduceCtorEq, Nat.reduceAdd, Int.lt_irrefl, *]); repeat' (first | (refine grdR_split (fun _ => ?_) (fun _ => ?_) <;> simp (disch := first | assumption | omega | rfl | (refine id ?_; simp only [gxD, ne_eq, reduceCtorEq, not_false_eq_true, Nat.reduceAdd, *]; done) | (refine id ?_; simp only [gxD]; omega)) only [↓gxPre, gxPost, ↓reduceIte, Nat.reduceEqDiff, reduceCtorEq, Nat.reduceAdd, Int.lt_irrefl, *]) | (refine condR_split (fun _ => ?_) (fun _ => ?_) <;> simp (disch := first | assumption | omega | rfl | (refine id ?_; simp only [gxD, ne_eq, reduceCtorEq, not_false_eq_true, Nat.reduceAdd, *]; done) | (refine id ?_; simp only [gxD]; omega)) only [↓gxPre, gxPost, ↓reduceIte, Nat.reduceEqDiff, reduceCtorEq, Nat.reduceAdd, Int.lt_irrefl, *])))
    rw [(allD []).2 hJ]
  · rintro i _ hi ⟨rfl, hJ⟩
    have hu := hvs i hi
    have hxi := hx i hi
    simp (disch := first | assumption | omega | rfl | (refine id ?_; simp only [gxD, ne_eq, reduceCtorEq, not_false_eq_true, Nat.reduceAdd, *]; done) | (refine id ?_; simp only [gxD]; omega)) only [↓gxPre, gxPost, ↓reduceIte, Nat.reduceEqDiff, reduceCtorEq, Nat.reduceAdd, hi, hv.ia, hv.ldD, hl, hu.len]
    refine loop_forH (xss.getD i []).length (fun j => [w, .int .i64 xss.length, .int .i64 i, vs.getD i undef, .int .i64 (xss.getD i []).length, .int .i64 j]) (fun j H' => H = H' ∧ ∀ k, k < j → finF ((xss.getD i []).getD k 0) = true) rfl ⟨rfl, by intros; omega⟩ ?_ ?_
    · rintro _ ⟨rfl, hK⟩
      simp (disch := first | assumption | omega | rfl | (refine id ?_; simp only [gxD, ne_eq, reduceCtorEq, not_false_eq_true, Nat.reduceAdd, *]; done) | (refine id ?_; simp only [gxD]; omega)) only [↓gxPre, gxPost, ↓reduceIte, Nat.reduceEqDiff, reduceCtorEq, Nat.reduceAdd, Int.lt_irrefl]
      exact ⟨by simp, Nat.forall_lt_succ_right.2 ⟨hJ, all_getD.2 hK⟩⟩
    · rintro j _ hj ⟨rfl, hK⟩
      ((try simp (disch := first | assumption | omega | rfl | (refine id ?_; simp only [gxD, ne_eq, reduceCtorEq, not_false_eq_true, Nat.reduceAdd, *]; done) | (refine id ?_; simp only [gxD]; omega)) only [↓gxPre, gxPost, ↓reduceIte, Nat.reduceEqDiff, reduceCtorEq, Nat.reduceAdd, hj, hu.ia, hu.ld, *]); repeat' (first | (refine grdR_split (fun _ => ?_) (fun _ => ?_) <;> simp (disch := first | assumption | omega | rfl | (refine id ?_; simp only [gxD, ne_eq, reduceCtorEq, not_false_eq_true, Nat.reduceAdd, *]; done) | (refine id ?_; simp only [gxD]; omega)) only [↓gxPre, gxPost, ↓reduceIte, Nat.reduceEqDiff, reduceCtorEq, Nat.reduceAdd, hj, hu.ia, hu.ld, *]) | (refine condR_split (fun _ => ?_) (fun _ => ?_) <;> simp (disch := first | assumption | omega | rfl | (refine id ?_; simp only [gxD, ne_eq, reduceCtorEq, not_false_eq_true, Nat.reduceAdd, *]; done) | (refine id ?_; simp only [gxD]; omega)) only [↓gxPre, gxPost, ↓reduceIte, Nat.reduceEqDiff, reduceCtorEq, Nat.reduceAdd, hj, hu.ia, hu.ld, *]) | (refine callR_pure (i_IsFinite_ok) (by first | exact Or.inl rfl | (simp (disch := first | assumption | omega | rfl | (refine id ?_; simp only [gxD, ne_eq, reduceCtorEq, not_false_eq_true, Nat.reduceAdd, *]; done) | (refine id ?_; simp only [gxD]; omega)) only [↓gxPre, gxPost, ↓reduceIte, Nat.reduceEqDiff, reduceCtorEq, Nat.reduceAdd, hj, hu.ia, hu.ld, *]; done)) ?_; simp (disch := first | assumption | omega | rfl | (refine id ?_; simp only [gxD, ne_eq, reduceCtorEq, not_false_eq_true, Nat.reduceAdd, *]; done) | (refine id ?_; simp only [gxD]; omega)) only [↓gxPre, gxPost, ↓reduceIte, Nat.reduceEqDiff, reduceCtorEq, Nat.reduceAdd, hj, hu.ia, hu.ld, *])))
      · rename_i h; simp only [Bool.not_eq_true'] at h
        rw [allD_false [] hi (all_false hj h)]
      · rename_i h; simp only [Bool.not_eq_false'] at h
        exact ⟨by simp, Nat.forall_lt_succ_right.2 ⟨hK, h⟩⟩
theorem i_areFinite1_ok {H : Heap} {h : Nat} {own : Bool} {ty : TypeId} {v : Value} {xs : List Nat} (hb : H.blk h = some ⟨own, ty, [v]⟩) (hh : h < H.n) (hv : FS H v xs) (hn : xs.length ≤ 2 ^ 40) :
    ACalls Try.prog n_i_areFinite [.slice (some ⟨h, 0, none⟩) 1 1] H fun r H' => r = .bool (xs.all finF) ∧ H' = H := by
  refine (i_areFinite_ok (SS.one hb hh hv) (by simp) ?_).mono ?_
  · intro j hj
    have : j = 0 := by simpa using hj
    subst this; exact hn
  · rintro _ _ ⟨rfl, rfl⟩
    simp
theorem i_areFinite2_ok {H : Heap} {h : Nat} {own : Bool} {ty : TypeId} {v u : Value} {xs ys : List Nat} (hb : H.blk h = some ⟨own, ty, [v, u]⟩) (hh : h < H.n) (hv : FS H v xs) (hu : FS H u ys) (hn : xs.length ≤ 2 ^ 40) (hm : ys.length ≤ 2 ^ 40) :
    ACalls Try.prog n_i_areFinite [.slice (some ⟨h, 0, none⟩) 2 2] H fun r H' => r = .bool (xs.all finF && ys.all finF) ∧ H' = H := by
  refine (i_areFinite_ok (SS.two hb hh hv hu) (by simp) ?_).mono ?_
  · intro j hj
    have : j = 0 ∨ j = 1 := by have : j < 2 := by simpa using hj
                               omega
    rcases this with rfl | rfl
    · exact hn
    · exact hm
  · rintro _ _ ⟨rfl, rfl⟩
    simp
end Go.Proofs.Ytkojmlpaamdhoac
