/- What the functions of the program do: contracts that are proved. -/
import Derived.Test.YtddekdgggpifmaaFnBandTreesCode
import Derived.Test.YtddekdgggpifmaaGxTrig
import Derived.Test.YtddekdgggpifmaaGxBytes
import Derived.Test.YtddekdgggpifmaaGxLiftW
import Derived.Test.YtddekdgggpifmaaGxRing
namespace Go.Proofs.Ytddekdgggpifmaa
open Go.Gx
set_option maxRecDepth 100000
set_option linter.unusedSimpArgs false
set_option linter.unusedVariables false

theorem i_within_ok {H : Heap} {a b c : Int} :
    ACalls Try.prog n_i_within [.int .i64 a, .int .i64 b, .int .i64 c] H fun r H' => r = .bool (within a b c) ∧ H' = H := by
  refine k_i_within.run rfl ?_
  unfold c_i_within
  ((try simp (disch := first | assumption | omega | rfl | (refine id ?_; simp only [gxD, ne_eq, reduceCtorEq, not_false_eq_true, Nat.reduceAdd, *]; done) | (refine id ?_; simp only [gxD]; omega)) only [↓gxPre, gxPost, ↓reduceIte, Nat.reduceEqDiff, reduceCtorEq, Nat.reduceAdd, *]); repeat' (first | (refine grdR_split (fun _ => ?_) (fun _ => ?_) <;> simp (disch := first | assumption | omega | rfl | (refine id ?_; simp only [gxD, ne_eq, reduceCtorEq, not_false_eq_true, Nat.reduceAdd, *]; done) | (refine id ?_; simp only [gxD]; omega)) only [↓gxPre, gxPost, ↓reduceIte, Nat.reduceEqDiff, reduceCtorEq, Nat.reduceAdd, *]) | (refine condR_split (fun _ => ?_) (fun _ => ?_) <;> simp (disch := first | assumption | omega | rfl | (refine id ?_; simp only [gxD, ne_eq, reduceCtorEq, not_false_eq_true, Nat.reduceAdd, *]; done) | (refine id ?_; simp only [gxD]; omega)) only [↓gxPre, gxPost, ↓reduceIte, Nat.reduceEqDiff, reduceCtorEq, Nat.reduceAdd, *])))
  all_goals (simp_all [within]; try omega)
theorem i_IsFinite_ok {H : Heap} {x : Nat} : ACalls Try.prog n_i_IsFinite [.float .f32 x] H fun r H' => r = .bool (finF x) ∧ H' = H := by
  refine k_i_IsFinite.run rfl ?_
  unfold c_i_IsFinite
  ((try simp (disch := first | assumption | omega | rfl | (refine id ?_; simp only [gxD, ne_eq, reduceCtorEq, not_false_eq_true, Nat.reduceAdd, *]; done) | (refine id ?_; simp only [gxD]; omega)) only [↓gxPre, gxPost, ↓reduceIte, Nat.reduceEqDiff, reduceCtorEq, Nat.reduceAdd, finF, *]); repeat' (first | (refine grdR_split (fun _ => ?_) (fun _ => ?_) <;> simp (disch := first | assumption | omega | rfl | (refine id ?_; simp only [gxD, ne_eq, reduceCtorEq, not_false_eq_true, Nat.reduceAdd, *]; done) | (refine id ?_; simp only [gxD]; omega)) only [↓gxPre, gxPost, ↓reduceIte, Nat.reduceEqDiff, reduceCtorEq, Nat.reduceAdd, finF, *]) | (refine condR_split (fun _ => ?_) (fun _ => ?_) <;> simp (disch := first | assumption | omega | rfl | (refine id ?_; simp only [gxD, ne_eq, reduceCtorEq, not_false_eq_true, Nat.reduceAdd, *]; done) | (refine id ?_; simp only [gxD]; omega)) only [↓gxPre, gxPost, ↓reduceIte, Nat.reduceEqDiff, reduceCtorEq, Nat.reduceAdd, finF, *])))
theorem s_l01Finite_ok {H : Heap} {x : Nat} : ACalls Try.prog n_s_l01Finite [.float .f32 x] H fun r H' => r = .bool (finF x) ∧ H' = H := by
  refine k_s_l01Finite.run rfl ?_
  unfold c_s_l01Finite
  ((try simp (disch := first | assumption | omega | rfl | (refine id ?_; simp only [gxD, ne_eq, reduceCtorEq, not_false_eq_true, Nat.reduceAdd, *]; done) | (refine id ?_; simp only [gxD]; omega)) only [↓gxPre, gxPost, ↓reduceIte, Nat.reduceEqDiff, reduceCtorEq, Nat.reduceAdd, finF, *]); repeat' (first | (refine grdR_split (fun _ => ?_) (fun _ => ?_) <;> simp (disch := first | assumption | omega | rfl | (refine id ?_; simp only [gxD, ne_eq, reduceCtorEq, not_false_eq_true, Nat.reduceAdd, *]; done) | (refine id ?_; simp only [gxD]; omega)) only [↓gxPre, gxPost, ↓reduceIte, Nat.reduceEqDiff, reduceCtorEq, Nat.reduceAdd, finF, *]) | (refine condR_split (fun _ => ?_) (fun _ => ?_) <;> simp (disch := first | assumption | omega | rfl | (refine id ?_; simp only [gxD, ne_eq, reduceCtorEq, not_false_eq_true, Nat.reduceAdd, *]; done) | (refine id ?_; simp only [gxD]; omega)) only [↓gxPre, gxPost, ↓reduceIte, Nat.reduceEqDiff, reduceCtorEq, Nat.reduceAdd, finF, *])))
theorem s_l02Finite_ok {H : Heap} {v : Value} {xs : List Nat} (hv : FS H v xs) (hn : xs.length ≤ 2 ^ 40) : ACalls Try.prog n_s_l02Finite [v] H fun r H' => r = .bool (xs.all finF) ∧ H' = H := by
  refine k_s_l02Finite.run rfl ?_
  unfold c_s_l02Finite
  simp (disch := first | assumption | omega | rfl | (refine id ?_; simp only [gxD, ne_eq, reduceCtorEq, not_false_eq_true, Nat.reduceAdd, *]; done) | (refine id ?_; simp only [gxD]; omega)) only [↓gxPre, gxPost, ↓reduceIte, Nat.reduceEqDiff, reduceCtorEq, Nat.reduceAdd, hv.len]
  refine loop_forH xs.length (fun i => [v, .int .i64 i]) (fun i H' => H = H' ∧ ∀ j, j < i → finF (xs.getD j 0) = true) rfl ⟨rfl, by intros; omega⟩ ?_ ?_
  · rintro _ ⟨rfl, hJ⟩
    ((try simp (disch := first | assumption | omega | rfl | (refine id ?_; simp only [gxD, ne_eq, reduceCtorEq, not_false_eq_true, Nat.reduceAdd, *]; done) | (refine id ?_; simp only [gxD]; omega)) only [↓gxPre, gxPost, ↓reduceIte, Nat.reduceEqDiff, reduceCtorEq, Nat.reduceAdd, hv.len, Int.lt_irrefl, *]); repeat' (first | (refine grdR_split (fun _ => ?_) (fun _ => ?_) <;> simp (disch := first | assumption | omega | rfl | (refine id ?_; simp only [gxD, ne_eq, reduceCtorEq, not_false_eq_true, Nat.reduceAdd, *]; done) | (refine id ?_; simp only [gxD]; omega)) only [↓gxPre, gxPost, ↓reduceIte, Nat.reduceEqDiff, reduceCtorEq, Nat.reduceAdd, hv.len, Int.lt_irrefl, *]) | (refine condR_split (fun _ => ?_) (fun _ => ?_) <;> simp (disch := first | assumption | omega | rfl | (refine id ?_; simp only [gxD, ne_eq, reduceCtorEq, not_false_eq_true, Nat.reduceAdd, *]; done) | (refine id ?_; simp only [gxD]; omega)) only [↓gxPre, gxPost, ↓reduceIte, Nat.reduceEqDiff, reduceCtorEq, Nat.reduceAdd, hv.len, Int.lt_irrefl, *])))
    rw [all_getD.2 hJ]
  · rintro i _ hi ⟨rfl, hJ⟩
    ((try simp (disch := first | assumption | omega | rfl | (refine id ?_; simp only [gxD, ne_eq, reduceCtorEq, not_false_eq_true, Nat.reduceAdd, *]; done) | (refine id ?_; simp only [gxD]; omega)) only [↓gxPre, gxPost, ↓reduceIte, Nat.reduceEqDiff, reduceCtorEq, Nat.reduceAdd, hv.len, hv.ia, hv.ld, *]); repeat' (first | (refine grdR_split (fun _ => ?_) (fun _ => ?_) <;> simp (disch := first | assumption | omega | rfl | (refine id ?_; simp only [gxD, ne_eq, reduceCtorEq, not_false_eq_true, Nat.reduceAdd, *]; done) | (refine id ?_; simp only [gxD]; omega)) only [↓gxPre, gxPost, ↓reduceIte, Nat.reduceEqDiff, reduceCtorEq, Nat.reduceAdd, hv.len, hv.ia, hv.ld, *]) | (refine condR_split (fun _ => ?_) (fun _ => ?_) <;> simp (disch := first | assumption | omega | rfl | (refine id ?_; simp only [gxD, ne_eq, reduceCtorEq, not_false_eq_true, Nat.reduceAdd, *]; done) | (refine id ?_; simp only [gxD]; omega)) only [↓gxPre, gxPost, ↓reduceIte, Nat.reduceEqDiff, reduceCtorEq, Nat.reduceAdd, hv.len, hv.ia, hv.ld, *]) | (refine callR_pure (s_l01Finite_ok) (by first | exact Or.inl rfl | (simp (disch := first | assumption | omega | rfl | (refine id ?_; simp only [gxD, ne_eq, reduceCtorEq, not_false_eq_true, Nat.reduceAdd, *]; done) | (refine id ?_; simp only [gxD]; omega)) only [↓gxPre, gxPost, ↓reduceIte, Nat.reduceEqDiff, reduceCtorEq, Nat.reduceAdd, hv.len, hv.ia, hv.ld, *]; done)) ?_; simp (disch := first | assumption | omega | rfl | (refine id ?_; simp only [gxD, ne_eq, reduceCtorEq, not_false_eq_true, Nat.reduceAdd, *]; done) | (refine id ?_; simp only [gxD]; omega)) only [↓gxPre, gxPost, ↓reduceIte, Nat.reduceEqDiff, reduceCtorEq, Nat.reduceAdd, hv.len, hv.ia, hv.ld, *])))
    · rename_i h; simp only [Bool.not_eq_true'] at h
      rw [all_false hi h]
    · rename_i h; simp only [Bool.not_eq_false'] at h
      exact ⟨by simp, Nat.forall_lt_succ_right.2 ⟨hJ, h⟩⟩
theorem i_areFinite_ok {H : Heap} {w : Value} {xss : List (List Nat)} (hw : SS H w xss) (hn : xss.length ≤ 2 ^ 40) (hx : ∀ j, j < xss.length → (xss.getD j []).length ≤ 2 ^ 40) :
    ACalls Try.prog n_i_areFinite [w] H fun r H' => r = .bool (xss.all fun xs => xs.all finF) ∧ H' = H := by
  obtain ⟨vs, hv, hl, hvs⟩ := hw
  refine k_i_areFinite.run rfl ?_
  unfold c_i_areFinite
  simp (disch := first | assumption | omega | rfl | (refine id ?_; simp only [gxD, ne_eq, reduceCtorEq, not_false_eq_true, Nat.reduceAdd, *]; done) | (refine id ?_; simp only [gxD]; omega)) only [↓gxPre, gxPost, ↓reduceIte, Nat.reduceEqDiff, reduceCtorEq, Nat.reduceAdd, hv.len, hl]
  refine loop_forH xss.length (fun i => [w, .int .i64 xss.length, .int .i64 i]) (fun i H' => H = H' ∧ ∀ j, j < i → (xss.getD j []).all finF = true) rfl ⟨rfl, by intros; omega⟩ ?_ ?_
  · rintro _ ⟨rfl, hJ⟩
    ((try simp (disch := first | assumption | omega | rfl | (refine id ?_; simp only [gxD, ne_eq, reduceCtorEq, not_false_eq_true, Nat.reduceAdd, *]; done) | (refine id ?_; simp only [gxD]; omega)) only [↓gxPre, gxPost, ↓reduceIte, Nat.reduceEqDiff, reduceCtorEq, Nat.reduceAdd, Int.lt_irrefl, *]); repeat' (first | (refine grdR_split (fun _ => ?_) (fun _ => ?_) <;> simp (disch := first | assumption | omega | rfl | (refine id ?_; simp only [gxD, ne_eq, reduceCtorEq, not_false_eq_true, Nat.reduceAdd, *]; done) | (refine id ?_; simp only [gxD]; omega)) only [↓gxPre, gxPost, ↓reduceIte, Nat.reduceEqDiff, reduceCtorEq, Nat.reduceAdd, Int.lt_irrefl, *]) | (refine condR_split (fun _ => ?_) (fun _ => ?_) <;> simp (disch := first | assumption | omega | rfl | (refine id ?_; simp only [gxD, ne_eq, reduceCtorEq, not_false_eq_true, Nat.reduceAdd, *]; done) | (refine id ?_; simp only [gxD]; omega)) only [↓gxPre, gxPost, ↓reduceIte, Nat.reduceEqDiff, reduceCtorEq, Nat.reduceAdd, Int.lt_irrefl, *])))
    rw [(allD []).2 hJ]
  · rintro i _ hi ⟨rfl, hJ⟩
    have hu := hvs i hi
    have hxi := hx i hi
    simp (disch := first | assumption | omega | rfl | (refine id ?_; simp only [gxD, ne_eq, reduceCtorEq, not_false_eq_true, Nat.reduceAdd, *]; done) | (refine id ?_; simp only [gxD]; omega)) only [↓gxPre, gxPost, ↓reduceIte, Nat.reduceEqDiff, reduceCtorEq, Nat.reduceAdd, hi, hv.ia, hv.ldD, hl, hu.len]
    refine loop_forH (xss.getD i []).length (fun j => [w, .int .i64 xss.length, .int .i64 i, vs.getD i undef, .int .i64 (xss.getD i []).length, .int .i64 j]) (fun j H' => H = H' ∧ ∀ k, k < j → finF ((xss.getD i []).getD k 0) = true) rfl ⟨rfl, by intros; omega⟩ ?_ ?_
    · rintro _ ⟨rfl, hK⟩
      simp (disch := first | assumption | omega | rfl | (refine id ?_; simp only [gxD, ne_eq, reduceCtorEq, not_false_eq_true, Nat.reduceAdd, *]; done) | (refine id ?_; simp only [gxD]; omega)) only [↓gxPre, gxPost, ↓reduceIte, Nat.reduceEqDiff, reduceCtorEq, Nat.reduceAdd, Int.lt_irrefl]
      exact ⟨by simp, Nat.forall_lt_succ_right.2 ⟨hJ, all_getD.2 hK⟩⟩
    · rintro j _ hj ⟨rfl, hK⟩
      ((try simp (disch := first | assumption | omega | rfl | (refine id ?_; simp only [gxD, ne_eq, reduceCtorEq, not_false_eq_true, Nat.reduceAdd, *]; done) | (refine id ?_; simp only [gxD]; omega)) only [↓gxPre, gxPost, ↓reduceIte, Nat.reduceEqDiff, reduceCtorEq, Nat.reduceAdd, hj, hu.ia, hu.ld, *]); repeat' (first | (refine grdR_split (fun _ => ?_) (fun _ => ?_) <;> simp (disch := first | assumption | omega | rfl | (refine id ?_; simp only [gxD, ne_eq, reduceCtorEq, not_false_eq_true, Nat.reduceAdd, *]; done) | (refine id ?_; simp only [gxD]; omega)) only [↓gxPre, gxPost, ↓reduceIte, Nat.reduceEqDiff, reduceCtorEq, Nat.reduceAdd, hj, hu.ia, hu.ld, *]) | (refine condR_split (fun _ => ?_) (fun _ => ?_) <;> simp (disch := first | assumption | omega | rfl | (refine id ?_; simp only [gxD, ne_eq, reduceCtorEq, not_false_eq_true, Nat.reduceAdd, *]; done) | (refine id ?_; simp only [gxD]; omega)) only [↓gxPre, gxPost, ↓reduceIte, Nat.reduceEqDiff, reduceCtorEq, Nat.reduceAdd, hj, hu.ia, hu.ld, *]) | (refine callR_pure (i_IsFinite_ok) (by first | exact Or.inl rfl | (simp (disch := first | assumption | omega | rfl | (refine id ?_; simp only [gxD, ne_eq, reduceCtorEq, not_false_eq_true, Nat.reduceAdd, *]; done) | (refine id ?_; simp only [gxD]; omega)) only [↓gxPre, gxPost, ↓reduceIte, Nat.reduceEqDiff, reduceCtorEq, Nat.reduceAdd, hj, hu.ia, hu.ld, *]; done)) ?_; simp (disch := first | assumption | omega | rfl | (refine id ?_; simp only [gxD, ne_eq, reduceCtorEq, not_false_eq_true, Nat.reduceAdd, *]; done) | (refine id ?_; simp only [gxD]; omega)) only [↓gxPre, gxPost, ↓reduceIte, Nat.reduceEqDiff, reduceCtorEq, Nat.reduceAdd, hj, hu.ia, hu.ld, *])))
      · rename_i h; simp only [Bool.not_eq_true'] at h
        rw [allD_false [] hi (all_false hj h)]
      · rename_i h; simp only [Bool.not_eq_false'] at h
        exact ⟨by simp, Nat.forall_lt_succ_right.2 ⟨hK, h⟩⟩
theorem i_areFinite1_ok {H : Heap} {h : Nat} {own : Bool} {ty : TypeId} {v : Value} {xs : List Nat} (hb : H.blk h = some ⟨own, ty, [v]⟩) (hh : h < H.n) (hv : FS H v xs) (hn : xs.length ≤ 2 ^ 40) :
    ACalls Try.prog n_i_areFinite [.slice (some ⟨h, 0, none⟩) 1 1] H fun r H' => r = .bool (xs.all finF) ∧ H' = H := by
  refine (i_areFinite_ok (SS.one hb hh hv) (by simp) ?_).mono ?_
  · intro j hj
    have : j = 0 := by simpa using hj
    subst this; exact hn
  · rintro _ _ ⟨rfl, rfl⟩
    simp
theorem i_areFinite2_ok {H : Heap} {h : Nat} {own : Bool} {ty : TypeId} {v u : Value} {xs ys : List Nat} (hb : H.blk h = some ⟨own, ty, [v, u]⟩) (hh : h < H.n) (hv : FS H v xs) (hu : FS H u ys) (hn : xs.length ≤ 2 ^ 40) (hm : ys.length ≤ 2 ^ 40) :
    ACalls Try.prog n_i_areFinite [.slice (some ⟨h, 0, none⟩) 2 2] H fun r H' => r = .bool (xs.all finF && ys.all finF) ∧ H' = H := by
  refine (i_areFinite_ok (SS.two hb hh hv hu) (by simp) ?_).mono ?_
  · intro j hj
    have : j = 0 ∨ j = 1 := by have : j < 2 := by simpa using hj
                               omega
    rcases this with rfl | rfl
    · exact hn
    · exact hm
  · rintro _ _ ⟨rfl, rfl⟩
    simp
theorem i_squares_ok {H : Heap} {v : Value} {xs : List Nat} (hv : FS H v xs) (hn : xs.length ≤ 2 ^ 40) :
    ACalls Try.prog n_i_squares [v] H fun r H' => r = .float .f32 (squaresF xs) ∧ H' = H := by
  refine k_i_squares.run rfl ?_
  unfold c_i_squares
  simp (disch := first | assumption | omega | rfl | (refine id ?_; simp only [gxD, ne_eq, reduceCtorEq, not_false_eq_true, Nat.reduceAdd, *]; done) | (refine id ?_; simp only [gxD]; omega)) only [↓gxPre, gxPost, ↓reduceIte, Nat.reduceEqDiff, reduceCtorEq, Nat.reduceAdd, hv.len]
  refine loop_for xs.length (fun i => [.float .f32 (foldI (fun i s => fbin .add .f32 s (fbin .mul .f32 (xs.getD i 0) (xs.getD i 0))) 0 i), v, .int .i64 xs.length, .int .i64 i]) rfl ?_ ?_
  · simp (disch := first | assumption | omega | rfl | (refine id ?_; simp only [gxD, ne_eq, reduceCtorEq, not_false_eq_true, Nat.reduceAdd, *]; done) | (refine id ?_; simp only [gxD]; omega)) only [↓gxPre, gxPost, ↓reduceIte, Nat.reduceEqDiff, reduceCtorEq, Nat.reduceAdd, Int.lt_irrefl]
    rfl
  · intro i hi
    simp (disch := first | assumption | omega | rfl | (refine id ?_; simp only [gxD, ne_eq, reduceCtorEq, not_false_eq_true, Nat.reduceAdd, *]; done) | (refine id ?_; simp only [gxD]; omega)) only [↓gxPre, gxPost, ↓reduceIte, Nat.reduceEqDiff, reduceCtorEq, Nat.reduceAdd, hv.ia, hv.ld, hi]
    simp [foldI_succ]
theorem i_size_ok {H : Heap} {x : Nat} : ACalls Try.prog n_i_size [.float .f32 x] H fun r H' => r = .float .f32 (sizeF x) ∧ H' = H := by
  refine k_i_size.run rfl ?_
  unfold c_i_size
  ((try simp (disch := first | assumption | omega | rfl | (refine id ?_; simp only [gxD, ne_eq, reduceCtorEq, not_false_eq_true, Nat.reduceAdd, *]; done) | (refine id ?_; simp only [gxD]; omega)) only [↓gxPre, gxPost, ↓reduceIte, Nat.reduceEqDiff, reduceCtorEq, Nat.reduceAdd, *]); repeat' (first | (refine grdR_split (fun _ => ?_) (fun _ => ?_) <;> simp (disch := first | assumption | omega | rfl | (refine id ?_; simp only [gxD, ne_eq, reduceCtorEq, not_false_eq_true, Nat.reduceAdd, *]; done) | (refine id ?_; simp only [gxD]; omega)) only [↓gxPre, gxPost, ↓reduceIte, Nat.reduceEqDiff, reduceCtorEq, Nat.reduceAdd, *]) | (refine condR_split (fun _ => ?_) (fun _ => ?_) <;> simp (disch := first | assumption | omega | rfl | (refine id ?_; simp only [gxD, ne_eq, reduceCtorEq, not_false_eq_true, Nat.reduceAdd, *]; done) | (refine id ?_; simp only [gxD]; omega)) only [↓gxPre, gxPost, ↓reduceIte, Nat.reduceEqDiff, reduceCtorEq, Nat.reduceAdd, *])))
  all_goals simp_all [sizeF]
theorem m_Signbit_ok {H : Heap} {x : Nat} (hx : nanB .f64 x = false) : ACalls Try.prog n_m_Signbit [.float .f64 x] H fun r H' => r = .bool (signB x) ∧ H' = H := by
  refine k_m_Signbit.run rfl ?_
  unfold c_m_Signbit
  have hb : aBits64 (.float .f64 x) = some (.int .u64 x) := by simp [aBits64, hx]
  simp (disch := first | assumption | omega | rfl | (refine id ?_; simp only [gxD, ne_eq, reduceCtorEq, not_false_eq_true, Nat.reduceAdd, *]; done) | (refine id ?_; simp only [gxD]; omega)) only [↓gxPre, gxPost, ↓reduceIte, Nat.reduceEqDiff, reduceCtorEq, Nat.reduceAdd, hb]
  rfl
theorem i_SameNumber_ok {H : Heap} {x y : Nat} (hx : x < 2 ^ 32) (hy : y < 2 ^ 32) : ACalls Try.prog n_i_SameNumber [.float .f32 x, .float .f32 y] H fun r H' => r = .bool (decide (bitsF x = bitsF y)) ∧ H' = H := by
  refine k_i_SameNumber.run rfl ?_
  unfold c_i_SameNumber
  have hnx : isn x = false → nanB .f64 (f64 x) = false := nan_wide
  have hny : isn y = false → nanB .f64 (f64 y) = false := nan_wide
  ((try simp (disch := first | assumption | omega | rfl | (refine id ?_; simp only [gxD, ne_eq, reduceCtorEq, not_false_eq_true, Nat.reduceAdd, *]; done) | (refine id ?_; simp only [gxD]; omega)) only [↓gxPre, gxPost, ↓reduceIte, Nat.reduceEqDiff, reduceCtorEq, Nat.reduceAdd, isn_def, *]); repeat' (first | (refine grdR_split (fun _ => ?_) (fun _ => ?_) <;> simp (disch := first | assumption | omega | rfl | (refine id ?_; simp only [gxD, ne_eq, reduceCtorEq, not_false_eq_true, Nat.reduceAdd, *]; done) | (refine id ?_; simp only [gxD]; omega)) only [↓gxPre, gxPost, ↓reduceIte, Nat.reduceEqDiff, reduceCtorEq, Nat.reduceAdd, isn_def, *]) | (refine condR_split (fun _ => ?_) (fun _ => ?_) <;> simp (disch := first | assumption | omega | rfl | (refine id ?_; simp only [gxD, ne_eq, reduceCtorEq, not_false_eq_true, Nat.reduceAdd, *]; done) | (refine id ?_; simp only [gxD]; omega)) only [↓gxPre, gxPost, ↓reduceIte, Nat.reduceEqDiff, reduceCtorEq, Nat.reduceAdd, isn_def, *]) | (refine callR_pure (m_Signbit_ok (by simp_all)) (by first | exact Or.inl rfl | (simp (disch := first | assumption | omega | rfl | (refine id ?_; simp only [gxD, ne_eq, reduceCtorEq, not_false_eq_true, Nat.reduceAdd, *]; done) | (refine id ?_; simp only [gxD]; omega)) only [↓gxPre, gxPost, ↓reduceIte, Nat.reduceEqDiff, reduceCtorEq, Nat.reduceAdd, isn_def, *]; done)) ?_; simp (disch := first | assumption | omega | rfl | (refine id ?_; simp only [gxD, ne_eq, reduceCtorEq, not_false_eq_true, Nat.reduceAdd, *]; done) | (refine id ?_; simp only [gxD]; omega)) only [↓gxPre, gxPost, ↓reduceIte, Nat.reduceEqDiff, reduceCtorEq, Nat.reduceAdd, isn_def, *])))
  · rename_i h; rw [same_nan h]
  · rename_i h h'; rw [same_nan' h h']
  · rename_i h h' h''; rw [same_sign h h' hx hy h'']
  · rename_i h h' h''; rw [same_ne h h' h'']
theorem i_sameNumbers_ok {H : Heap} {v u : Value} {xs ys : List Nat} (hv : FS H v xs) (hu : FS H u ys) (hn : xs.length ≤ 2 ^ 40) (hm : ys.length ≤ 2 ^ 40) (hx : W32 xs) (hy : W32 ys) :
    ACalls Try.prog n_i_sameNumbers [v, u] H fun r H' => r = .bool (sameL xs ys) ∧ H' = H := by
  refine k_i_sameNumbers.run rfl ?_
  unfold c_i_sameNumbers
  by_cases hl : xs.length = ys.length
  · simp (disch := first | assumption | omega | rfl | (refine id ?_; simp only [gxD, ne_eq, reduceCtorEq, not_false_eq_true, Nat.reduceAdd, *]; done) | (refine id ?_; simp only [gxD]; omega)) only [↓gxPre, gxPost, ↓reduceIte, Nat.reduceEqDiff, reduceCtorEq, Nat.reduceAdd, hv.len, hu.len, hl, ne_eq, not_true]
    refine loop_forH ys.length (fun i => [v, u, .int .i64 ys.length, .int .i64 i]) (fun i H' => H = H' ∧ ∀ j, j < i → decide (bitsF (xs.getD j 0) = bitsF (ys.getD j 0)) = true) rfl ⟨rfl, by intros; omega⟩ ?_ ?_
    · rintro _ ⟨rfl, hJ⟩
      simp (disch := first | assumption | omega | rfl | (refine id ?_; simp only [gxD, ne_eq, reduceCtorEq, not_false_eq_true, Nat.reduceAdd, *]; done) | (refine id ?_; simp only [gxD]; omega)) only [↓gxPre, gxPost, ↓reduceIte, Nat.reduceEqDiff, reduceCtorEq, Nat.reduceAdd, hv.len, hl, Int.lt_irrefl]
      simp only [sameL, hl, decide_true, Bool.true_and]
      rw [allR.2 hJ]
    · rintro i _ hi ⟨rfl, hJ⟩
      ((try simp (disch := first | assumption | omega | rfl | (refine id ?_; simp only [gxD, ne_eq, reduceCtorEq, not_false_eq_true, Nat.reduceAdd, *]; done) | (refine id ?_; simp only [gxD]; omega)) only [↓gxPre, gxPost, ↓reduceIte, Nat.reduceEqDiff, reduceCtorEq, Nat.reduceAdd, hv.len, hl, hv.ia, hu.ia, hv.ld, hu.ld, *]); repeat' (first | (refine grdR_split (fun _ => ?_) (fun _ => ?_) <;> simp (disch := first | assumption | omega | rfl | (refine id ?_; simp only [gxD, ne_eq, reduceCtorEq, not_false_eq_true, Nat.reduceAdd, *]; done) | (refine id ?_; simp only [gxD]; omega)) only [↓gxPre, gxPost, ↓reduceIte, Nat.reduceEqDiff, reduceCtorEq, Nat.reduceAdd, hv.len, hl, hv.ia, hu.ia, hv.ld, hu.ld, *]) | (refine condR_split (fun _ => ?_) (fun _ => ?_) <;> simp (disch := first | assumption | omega | rfl | (refine id ?_; simp only [gxD, ne_eq, reduceCtorEq, not_false_eq_true, Nat.reduceAdd, *]; done) | (refine id ?_; simp only [gxD]; omega)) only [↓gxPre, gxPost, ↓reduceIte, Nat.reduceEqDiff, reduceCtorEq, Nat.reduceAdd, hv.len, hl, hv.ia, hu.ia, hv.ld, hu.ld, *]) | (refine callR_pure (i_SameNumber_ok (hx.get _) (hy.get _)) (by first | exact Or.inl rfl | (simp (disch := first | assumption | omega | rfl | (refine id ?_; simp only [gxD, ne_eq, reduceCtorEq, not_false_eq_true, Nat.reduceAdd, *]; done) | (refine id ?_; simp only [gxD]; omega)) only [↓gxPre, gxPost, ↓reduceIte, Nat.reduceEqDiff, reduceCtorEq, Nat.reduceAdd, hv.len, hl, hv.ia, hu.ia, hv.ld, hu.ld, *]; done)) ?_; simp (disch := first | assumption | omega | rfl | (refine id ?_; simp only [gxD, ne_eq, reduceCtorEq, not_false_eq_true, Nat.reduceAdd, *]; done) | (refine id ?_; simp only [gxD]; omega)) only [↓gxPre, gxPost, ↓reduceIte, Nat.reduceEqDiff, reduceCtorEq, Nat.reduceAdd, hv.len, hl, hv.ia, hu.ia, hv.ld, hu.ld, *])))
      · rename_i h; simp only [Bool.not_eq_true'] at h
        simp only [sameL, hl, decide_true, Bool.true_and]
        rw [allR_false hi h]
      · rename_i h; simp only [Bool.not_eq_false'] at h
        exact ⟨by simp, Nat.forall_lt_succ_right.2 ⟨hJ, h⟩⟩
  · have : ¬ ((xs.length : Int) = ys.length) := by omega
    simp (disch := first | assumption | omega | rfl | (refine id ?_; simp only [gxD, ne_eq, reduceCtorEq, not_false_eq_true, Nat.reduceAdd, *]; done) | (refine id ?_; simp only [gxD]; omega)) only [↓gxPre, gxPost, ↓reduceIte, Nat.reduceEqDiff, reduceCtorEq, Nat.reduceAdd, hv.len, hu.len, ne_eq, this, not_false_eq_true]
    simp [sameL, hl]
theorem s_HaarPair_ok {H : Heap} : ACalls Try.prog n_s_HaarPair [] H fun r H' => Ext H H' ∧ ∃ h, H.n ≤ h ∧ h < H'.n ∧ r = .agg #[.slice (some ⟨h, 0, none⟩) 2 2] ∧ H'.blk h = some ⟨true, t_float32, [1060439283, 1060439283].map fv⟩ := by
  refine k_s_HaarPair.run rfl ?_
  unfold c_s_HaarPair
  ((try simp (disch := first | assumption | omega | rfl | (refine id ?_; simp only [gxD, ne_eq, reduceCtorEq, not_false_eq_true, Nat.reduceAdd, *]; done) | (refine id ?_; simp only [gxD]; omega)) only [↓gxPre, gxPost, ↓reduceIte, Nat.reduceEqDiff, reduceCtorEq, Nat.reduceAdd, eBsl_4, *]); repeat' (first | (refine grdR_split (fun _ => ?_) (fun _ => ?_) <;> simp (disch := first | assumption | omega | rfl | (refine id ?_; simp only [gxD, ne_eq, reduceCtorEq, not_false_eq_true, Nat.reduceAdd, *]; done) | (refine id ?_; simp only [gxD]; omega)) only [↓gxPre, gxPost, ↓reduceIte, Nat.reduceEqDiff, reduceCtorEq, Nat.reduceAdd, eBsl_4, *]) | (refine condR_split (fun _ => ?_) (fun _ => ?_) <;> simp (disch := first | assumption | omega | rfl | (refine id ?_; simp only [gxD, ne_eq, reduceCtorEq, not_false_eq_true, Nat.reduceAdd, *]; done) | (refine id ?_; simp only [gxD]; omega)) only [↓gxPre, gxPost, ↓reduceIte, Nat.reduceEqDiff, reduceCtorEq, Nat.reduceAdd, eBsl_4, *])))
  exact ⟨⟨by first | omega | (simp only [new_n, put_n]; omega) | (simp only [new_n, put_n] at *; omega), fun i hi => by simp (disch := first | assumption | omega | rfl | (refine id ?_; simp only [gxD, ne_eq, reduceCtorEq, not_false_eq_true, Nat.reduceAdd, *]; done) | (refine id ?_; simp only [gxD]; omega)) only [↓gxPre, gxPost, ↓reduceIte, Nat.reduceEqDiff, reduceCtorEq, Nat.reduceAdd, *]⟩, H.n + 1, by omega, by omega, rfl, by simp (disch := first | assumption | omega | rfl | (refine id ?_; simp only [gxD, ne_eq, reduceCtorEq, not_false_eq_true, Nat.reduceAdd, *]; done) | (refine id ?_; simp only [gxD]; omega)) only [↓gxPre, gxPost, ↓reduceIte, Nat.reduceEqDiff, reduceCtorEq, Nat.reduceAdd, fv]⟩
theorem s_FourPair_ok {H : Heap} : ACalls Try.prog n_s_FourPair [] H fun r H' => Ext H H' ∧ ∃ h, H.n ≤ h ∧ h < H'.n ∧ r = .agg #[.slice (some ⟨h, 0, none⟩) 4 4] ∧ H'.blk h = some ⟨true, t_float32, [1056392938, 1062610415, 1046840824, 3187966958].map fv⟩ := by
  refine k_s_FourPair.run rfl ?_
  unfold c_s_FourPair
  ((try simp (disch := first | assumption | omega | rfl | (refine id ?_; simp only [gxD, ne_eq, reduceCtorEq, not_false_eq_true, Nat.reduceAdd, *]; done) | (refine id ?_; simp only [gxD]; omega)) only [↓gxPre, gxPost, ↓reduceIte, Nat.reduceEqDiff, reduceCtorEq, Nat.reduceAdd, eBsl_4, *]); repeat' (first | (refine grdR_split (fun _ => ?_) (fun _ => ?_) <;> simp (disch := first | assumption | omega | rfl | (refine id ?_; simp only [gxD, ne_eq, reduceCtorEq, not_false_eq_true, Nat.reduceAdd, *]; done) | (refine id ?_; simp only [gxD]; omega)) only [↓gxPre, gxPost, ↓reduceIte, Nat.reduceEqDiff, reduceCtorEq, Nat.reduceAdd, eBsl_4, *]) | (refine condR_split (fun _ => ?_) (fun _ => ?_) <;> simp (disch := first | assumption | omega | rfl | (refine id ?_; simp only [gxD, ne_eq, reduceCtorEq, not_false_eq_true, Nat.reduceAdd, *]; done) | (refine id ?_; simp only [gxD]; omega)) only [↓gxPre, gxPost, ↓reduceIte, Nat.reduceEqDiff, reduceCtorEq, Nat.reduceAdd, eBsl_4, *])))
  exact ⟨⟨by first | omega | (simp only [new_n, put_n]; omega) | (simp only [new_n, put_n] at *; omega), fun i hi => by simp (disch := first | assumption | omega | rfl | (refine id ?_; simp only [gxD, ne_eq, reduceCtorEq, not_false_eq_true, Nat.reduceAdd, *]; done) | (refine id ?_; simp only [gxD]; omega)) only [↓gxPre, gxPost, ↓reduceIte, Nat.reduceEqDiff, reduceCtorEq, Nat.reduceAdd, *]⟩, H.n + 1, by omega, by omega, rfl, by simp (disch := first | assumption | omega | rfl | (refine id ?_; simp only [gxD, ne_eq, reduceCtorEq, not_false_eq_true, Nat.reduceAdd, *]; done) | (refine id ?_; simp only [gxD]; omega)) only [↓gxPre, gxPost, ↓reduceIte, Nat.reduceEqDiff, reduceCtorEq, Nat.reduceAdd, fv]⟩
end Go.Proofs.Ytddekdgggpifmaa

namespace Go.Proofs.Ytddekdgggpifmaa
open Go.Gx
set_option maxRecDepth 100000
set_option linter.unusedSimpArgs false
set_option linter.unusedVariables false

theorem i_ValidPair_ok {H : Heap} {v : Value} {xs : List Nat} (hv : FS H v xs) (hn : xs.length ≤ 2 ^ 40) :
    ACalls Try.prog n_i_ValidPair [.agg #[v]] H fun r H' => r = .bool (validPairF xs) ∧ Ext H H' := by
  refine k_i_ValidPair.run rfl ?_
  unfold c_i_ValidPair
  have hv1 := hv.one
  cases h2 : within xs.length 2 8
  · simp (disch := first | assumption | omega | rfl | (refine id ?_; simp only [gxD, ne_eq, reduceCtorEq, not_false_eq_true, Nat.reduceAdd, *]; done) | (refine id ?_; simp only [gxD]; omega)) only [↓gxPre, gxPost, ↓reduceIte, Nat.reduceEqDiff, reduceCtorEq, Nat.reduceAdd, hv.len]
    refine callR_pure i_within_ok (.inl rfl) ?_
    simp (disch := first | assumption | omega | rfl | (refine id ?_; simp only [gxD, ne_eq, reduceCtorEq, not_false_eq_true, Nat.reduceAdd, *]; done) | (refine id ?_; simp only [gxD]; omega)) only [↓gxPre, gxPost, ↓reduceIte, Nat.reduceEqDiff, reduceCtorEq, Nat.reduceAdd, h2]
    exact ⟨by simp [validPairF, h2], ⟨by first | omega | (simp only [new_n, put_n]; omega) | (simp only [new_n, put_n] at *; omega), fun i hi => by simp (disch := first | assumption | omega | rfl | (refine id ?_; simp only [gxD, ne_eq, reduceCtorEq, not_false_eq_true, Nat.reduceAdd, *]; done) | (refine id ?_; simp only [gxD]; omega)) only [↓gxPre, gxPost, ↓reduceIte, Nat.reduceEqDiff, reduceCtorEq, Nat.reduceAdd, *]⟩⟩
  have h1 := within_true.1 h2
  by_cases h3 : xs.length % 2 = 0
  rotate_left
  · have h4 : ((xs.length % 2 : Nat) : Int) = 1 := by omega
    simp (disch := first | assumption | omega | rfl | (refine id ?_; simp only [gxD, ne_eq, reduceCtorEq, not_false_eq_true, Nat.reduceAdd, *]; done) | (refine id ?_; simp only [gxD]; omega)) only [↓gxPre, gxPost, ↓reduceIte, Nat.reduceEqDiff, reduceCtorEq, Nat.reduceAdd, hv.len]
    refine callR_pure i_within_ok (.inl rfl) ?_
    simp (disch := first | assumption | omega | rfl | (refine id ?_; simp only [gxD, ne_eq, reduceCtorEq, not_false_eq_true, Nat.reduceAdd, *]; done) | (refine id ?_; simp only [gxD]; omega)) only [↓gxPre, gxPost, ↓reduceIte, Nat.reduceEqDiff, reduceCtorEq, Nat.reduceAdd, h2, tmod2, h4]
    exact ⟨by simp [validPairF, h3], ⟨by first | omega | (simp only [new_n, put_n]; omega) | (simp only [new_n, put_n] at *; omega), fun i hi => by simp (disch := first | assumption | omega | rfl | (refine id ?_; simp only [gxD, ne_eq, reduceCtorEq, not_false_eq_true, Nat.reduceAdd, *]; done) | (refine id ?_; simp only [gxD]; omega)) only [↓gxPre, gxPost, ↓reduceIte, Nat.reduceEqDiff, reduceCtorEq, Nat.reduceAdd, *]⟩⟩
  have h4 : ((xs.length % 2 : Nat) : Int) = 0 := by omega
  simp (disch := first | assumption | omega | rfl | (refine id ?_; simp only [gxD, ne_eq, reduceCtorEq, not_false_eq_true, Nat.reduceAdd, *]; done) | (refine id ?_; simp only [gxD]; omega)) only [↓gxPre, gxPost, ↓reduceIte, Nat.reduceEqDiff, reduceCtorEq, Nat.reduceAdd, hv.len]
  refine callR_pure i_within_ok (.inl rfl) ?_
  simp (disch := first | assumption | omega | rfl | (refine id ?_; simp only [gxD, ne_eq, reduceCtorEq, not_false_eq_true, Nat.reduceAdd, *]; done) | (refine id ?_; simp only [gxD]; omega)) only [↓gxPre, gxPost, ↓reduceIte, Nat.reduceEqDiff, reduceCtorEq, Nat.reduceAdd, h2, tmod2, h4, hv.len]
  have e : Ext H ((H.new ⟨true, t_Pair, [v]⟩).new ⟨true, t_sfloat32, [v]⟩) := ⟨by first | omega | (simp only [new_n, put_n]; omega) | (simp only [new_n, put_n] at *; omega), fun i hi => by simp (disch := first | assumption | omega | rfl | (refine id ?_; simp only [gxD, ne_eq, reduceCtorEq, not_false_eq_true, Nat.reduceAdd, *]; done) | (refine id ?_; simp only [gxD]; omega)) only [↓gxPre, gxPost, ↓reduceIte, Nat.reduceEqDiff, reduceCtorEq, Nat.reduceAdd, *]⟩
  refine callR_pure (i_areFinite1_ok (by simp (disch := first | assumption | omega | rfl | (refine id ?_; simp only [gxD, ne_eq, reduceCtorEq, not_false_eq_true, Nat.reduceAdd, *]; done) | (refine id ?_; simp only [gxD]; omega)) only [↓gxPre, gxPost, ↓reduceIte, Nat.reduceEqDiff, reduceCtorEq, Nat.reduceAdd, *]; rfl) (by first | omega | (simp only [new_n, put_n]; omega)) (hv.ext ⟨by first | omega | (simp only [new_n, put_n]; omega) | (simp only [new_n, put_n] at *; omega), fun i hi => by simp (disch := first | assumption | omega | rfl | (refine id ?_; simp only [gxD, ne_eq, reduceCtorEq, not_false_eq_true, Nat.reduceAdd, *]; done) | (refine id ?_; simp only [gxD]; omega)) only [↓gxPre, gxPost, ↓reduceIte, Nat.reduceEqDiff, reduceCtorEq, Nat.reduceAdd, *]⟩) hn) (.inl rfl) ?_
  cases hf : xs.all finF
  · simp (disch := first | assumption | omega | rfl | (refine id ?_; simp only [gxD, ne_eq, reduceCtorEq, not_false_eq_true, Nat.reduceAdd, *]; done) | (refine id ?_; simp only [gxD]; omega)) only [↓gxPre, gxPost, ↓reduceIte, Nat.reduceEqDiff, reduceCtorEq, Nat.reduceAdd]
    exact ⟨by simp [validPairF, hf], ⟨by first | omega | (simp only [new_n, put_n]; omega) | (simp only [new_n, put_n] at *; omega), fun i hi => by simp (disch := first | assumption | omega | rfl | (refine id ?_; simp only [gxD, ne_eq, reduceCtorEq, not_false_eq_true, Nat.reduceAdd, *]; done) | (refine id ?_; simp only [gxD]; omega)) only [↓gxPre, gxPost, ↓reduceIte, Nat.reduceEqDiff, reduceCtorEq, Nat.reduceAdd, *]⟩⟩
  have hn0 : 0 < xs.length / 2 := by omega
  simp (disch := first | assumption | omega | rfl | (refine id ?_; simp only [gxD, ne_eq, reduceCtorEq, not_false_eq_true, Nat.reduceAdd, *]; done) | (refine id ?_; simp only [gxD]; omega)) only [↓gxPre, gxPost, ↓reduceIte, Nat.reduceEqDiff, reduceCtorEq, Nat.reduceAdd]
  refine callR_pure (i_squares_ok (hv.ext ⟨by first | omega | (simp only [new_n, put_n]; omega) | (simp only [new_n, put_n] at *; omega), fun i hi => by simp (disch := first | assumption | omega | rfl | (refine id ?_; simp only [gxD, ne_eq, reduceCtorEq, not_false_eq_true, Nat.reduceAdd, *]; done) | (refine id ?_; simp only [gxD]; omega)) only [↓gxPre, gxPost, ↓reduceIte, Nat.reduceEqDiff, reduceCtorEq, Nat.reduceAdd, *]⟩) hn) (.inl rfl) ?_
  simp (disch := first | assumption | omega | rfl | (refine id ?_; simp only [gxD, ne_eq, reduceCtorEq, not_false_eq_true, Nat.reduceAdd, *]; done) | (refine id ?_; simp only [gxD]; omega)) only [↓gxPre, gxPost, ↓reduceIte, Nat.reduceEqDiff, reduceCtorEq, Nat.reduceAdd]
  refine callR_pure i_size_ok (.inl rfl) ?_
  simp (disch := first | assumption | omega | rfl | (refine id ?_; simp only [gxD, ne_eq, reduceCtorEq, not_false_eq_true, Nat.reduceAdd, *]; done) | (refine id ?_; simp only [gxD]; omega)) only [↓gxPre, gxPost, ↓reduceIte, Nat.reduceEqDiff, reduceCtorEq, Nat.reduceAdd, size_le]
  cases h0 : chkP xs 0
  · have h0' : (fcB .leq .f32 (fbin .sub .f32 (squaresF xs) 1065353216) 981668463 && fcB .geq .f32 (fbin .sub .f32 (squaresF xs) 1065353216) 3129152111) = false := by simpa [chkP, okSum, corr_squares] using h0
    simp (disch := first | assumption | omega | rfl | (refine id ?_; simp only [gxD, ne_eq, reduceCtorEq, not_false_eq_true, Nat.reduceAdd, *]; done) | (refine id ?_; simp only [gxD]; omega)) only [↓gxPre, gxPost, ↓reduceIte, Nat.reduceEqDiff, reduceCtorEq, Nat.reduceAdd, h0']
    exact ⟨by rw [vp_false hn0 h0], ⟨by first | omega | (simp only [new_n, put_n]; omega) | (simp only [new_n, put_n] at *; omega), fun i hi => by simp (disch := first | assumption | omega | rfl | (refine id ?_; simp only [gxD, ne_eq, reduceCtorEq, not_false_eq_true, Nat.reduceAdd, *]; done) | (refine id ?_; simp only [gxD]; omega)) only [↓gxPre, gxPost, ↓reduceIte, Nat.reduceEqDiff, reduceCtorEq, Nat.reduceAdd, *]⟩⟩
  have h0' : (fcB .leq .f32 (fbin .sub .f32 (squaresF xs) 1065353216) 981668463 && fcB .geq .f32 (fbin .sub .f32 (squaresF xs) 1065353216) 3129152111) = true := by simpa [chkP, okSum, corr_squares] using h0
  simp (disch := first | assumption | omega | rfl | (refine id ?_; simp only [gxD, ne_eq, reduceCtorEq, not_false_eq_true, Nat.reduceAdd, *]; done) | (refine id ?_; simp only [gxD]; omega)) only [↓gxPre, gxPost, ↓reduceIte, Nat.reduceEqDiff, reduceCtorEq, Nat.reduceAdd, h0']
  have hb : ((H.new ⟨true, t_Pair, [v]⟩).new ⟨true, t_sfloat32, [v]⟩).blk H.n = some ⟨true, t_Pair, [v]⟩ := by simp (disch := first | assumption | omega | rfl | (refine id ?_; simp only [gxD, ne_eq, reduceCtorEq, not_false_eq_true, Nat.reduceAdd, *]; done) | (refine id ?_; simp only [gxD]; omega)) only [↓gxPre, gxPost, ↓reduceIte, Nat.reduceEqDiff, reduceCtorEq, Nat.reduceAdd]
  have hw := hv.ext e
  have hJ0 : ∀ i, i < 0 + 1 → chkP xs i = true := by
    intro i hi
    have : i = 0 := by omega
    subst this; exact h0
  generalize ((H.new ⟨true, t_Pair, [v]⟩).new ⟨true, t_sfloat32, [v]⟩) = G at hb hw e ⊢
  refine loop_forH (xs.length / 2 - 1) (fun j => [.pointer (some ⟨H.n, 0, some 1⟩), .int .i64 xs.length, .int .i64 ((2 * (j + 1) : Nat) : Int)]) (fun j H' => G = H' ∧ ∀ i, i < j + 1 → chkP xs i = true) (by simp) ⟨rfl, hJ0⟩ ?_ ?_
  · rintro _ ⟨rfl, hJ⟩
    have h5 : ¬ (((2 * (xs.length / 2 - 1 + 1) : Nat) : Int) < xs.length) := by omega
    have h6 : xs.length / 2 - 1 + 1 = xs.length / 2 := by omega
    simp (disch := first | assumption | omega | rfl | (refine id ?_; simp only [gxD, ne_eq, reduceCtorEq, not_false_eq_true, Nat.reduceAdd, *]; done) | (refine id ?_; simp only [gxD]; omega)) only [↓gxPre, gxPost, ↓reduceIte, Nat.reduceEqDiff, reduceCtorEq, Nat.reduceAdd, *]
    rw [h6] at hJ
    simp [validPairF, h2, h3, hf]
    exact hJ
  · rintro j _ hj ⟨rfl, hJ⟩
    have hj1 : j + 1 < xs.length / 2 := by omega
    have h5 : ((2 * (j + 1) : Nat) : Int) < xs.length := by omega
    simp (disch := first | assumption | omega | rfl | (refine id ?_; simp only [gxD, ne_eq, reduceCtorEq, not_false_eq_true, Nat.reduceAdd, *]; done) | (refine id ?_; simp only [gxD]; omega)) only [↓gxPre, gxPost, ↓reduceIte, Nat.reduceEqDiff, reduceCtorEq, Nat.reduceAdd, *]
    refine loop_for (xs.length - 2 * (j + 1)) (fun k => [.pointer (some ⟨H.n, 0, some 1⟩), .int .i64 xs.length, .int .i64 ((2 * (j + 1) : Nat) : Int), .float .f32 (corrK xs (2 * (j + 1)) k), .int .i64 k]) (by simp [corrK, foldI_zero]) ?_ ?_
    · have h6 : ¬ (((xs.length - 2 * (j + 1) : Nat) : Int) + ((2 * (j + 1) : Nat) : Int) < xs.length) := by omega
      simp (disch := first | assumption | omega | rfl | (refine id ?_; simp only [gxD, ne_eq, reduceCtorEq, not_false_eq_true, Nat.reduceAdd, *]; done) | (refine id ?_; simp only [gxD]; omega)) only [↓gxPre, gxPost, ↓reduceIte, Nat.reduceEqDiff, reduceCtorEq, Nat.reduceAdd, hw.len]
      refine callR_pure i_size_ok (.inl rfl) ?_
      simp (disch := first | assumption | omega | rfl | (refine id ?_; simp only [gxD, ne_eq, reduceCtorEq, not_false_eq_true, Nat.reduceAdd, *]; done) | (refine id ?_; simp only [gxD]; omega)) only [↓gxPre, gxPost, ↓reduceIte, Nat.reduceEqDiff, reduceCtorEq, Nat.reduceAdd, size_le]
      have hk : chkP xs (j + 1) = (fcB .leq .f32 (corrK xs (2 * (j + 1)) (xs.length - 2 * (j + 1))) 981668463 && fcB .geq .f32 (corrK xs (2 * (j + 1)) (xs.length - 2 * (j + 1))) 3129152111) := by simp [chkP, okSum]
      rw [← hk]
      cases hc : chkP xs (j + 1)
      · simp (disch := first | assumption | omega | rfl | (refine id ?_; simp only [gxD, ne_eq, reduceCtorEq, not_false_eq_true, Nat.reduceAdd, *]; done) | (refine id ?_; simp only [gxD]; omega)) only [↓gxPre, gxPost, ↓reduceIte, Nat.reduceEqDiff, reduceCtorEq, Nat.reduceAdd]
        exact ⟨by rw [vp_false hj1 hc], e⟩
      · simp (disch := first | assumption | omega | rfl | (refine id ?_; simp only [gxD, ne_eq, reduceCtorEq, not_false_eq_true, Nat.reduceAdd, *]; done) | (refine id ?_; simp only [gxD]; omega)) only [↓gxPre, gxPost, ↓reduceIte, Nat.reduceEqDiff, reduceCtorEq, Nat.reduceAdd]
        exact ⟨by simp; omega, Nat.forall_lt_succ_right.2 ⟨hJ, hc⟩⟩
    · intro k hk
      have h6 : ((k : Int) + ((2 * (j + 1) : Nat) : Int) < xs.length) := by omega
      have h9 : (((k : Int) + ((2 * (j + 1) : Nat) : Int)).toNat) = k + 2 * (j + 1) := by omega
      simp (disch := first | assumption | omega | rfl | (refine id ?_; simp only [gxD, ne_eq, reduceCtorEq, not_false_eq_true, Nat.reduceAdd, *]; done) | (refine id ?_; simp only [gxD]; omega)) only [↓gxPre, gxPost, ↓reduceIte, Nat.reduceEqDiff, reduceCtorEq, Nat.reduceAdd, *, hw.ia, hw.ld]
      simp [corrK, foldI_succ]
end Go.Proofs.Ytddekdgggpifmaa

namespace Go.Proofs.Ytddekdgggpifmaa
open Go.Gx
set_option maxRecDepth 100000
set_option linter.unusedSimpArgs false
set_option linter.unusedVariables false

theorem i_isLong_ok {H : Heap} {v : Value} {xs : List Nat} (hv : FS H v xs) (hn : xs.length ≤ 2 ^ 40) : ACalls Try.prog n_i_isLong [v] H fun r H' => r = .bool (isLongF xs) ∧ Ext H H' := by
  refine k_i_isLong.run rfl ?_
  unfold c_i_isLong
  have hv1 := hv.one
  ((try simp (disch := first | assumption | omega | rfl | (refine id ?_; simp only [gxD, ne_eq, reduceCtorEq, not_false_eq_true, Nat.reduceAdd, *]; done) | (refine id ?_; simp only [gxD]; omega)) only [↓gxPre, gxPost, ↓reduceIte, Nat.reduceEqDiff, reduceCtorEq, Nat.reduceAdd, hv.len, *]); repeat' (first | (refine grdR_split (fun _ => ?_) (fun _ => ?_) <;> simp (disch := first | assumption | omega | rfl | (refine id ?_; simp only [gxD, ne_eq, reduceCtorEq, not_false_eq_true, Nat.reduceAdd, *]; done) | (refine id ?_; simp only [gxD]; omega)) only [↓gxPre, gxPost, ↓reduceIte, Nat.reduceEqDiff, reduceCtorEq, Nat.reduceAdd, hv.len, *]) | (refine condR_split (fun _ => ?_) (fun _ => ?_) <;> simp (disch := first | assumption | omega | rfl | (refine id ?_; simp only [gxD, ne_eq, reduceCtorEq, not_false_eq_true, Nat.reduceAdd, *]; done) | (refine id ?_; simp only [gxD]; omega)) only [↓gxPre, gxPost, ↓reduceIte, Nat.reduceEqDiff, reduceCtorEq, Nat.reduceAdd, hv.len, *]) | (refine callR_pure (i_within_ok) (by first | exact Or.inl rfl | (simp (disch := first | assumption | omega | rfl | (refine id ?_; simp only [gxD, ne_eq, reduceCtorEq, not_false_eq_true, Nat.reduceAdd, *]; done) | (refine id ?_; simp only [gxD]; omega)) only [↓gxPre, gxPost, ↓reduceIte, Nat.reduceEqDiff, reduceCtorEq, Nat.reduceAdd, hv.len, *]; done)) ?_; simp (disch := first | assumption | omega | rfl | (refine id ?_; simp only [gxD, ne_eq, reduceCtorEq, not_false_eq_true, Nat.reduceAdd, *]; done) | (refine id ?_; simp only [gxD]; omega)) only [↓gxPre, gxPost, ↓reduceIte, Nat.reduceEqDiff, reduceCtorEq, Nat.reduceAdd, hv.len, *]) | (refine callR_pure (i_areFinite1_ok (by simp (disch := first | assumption | omega | rfl | (refine id ?_; simp only [gxD, ne_eq, reduceCtorEq, not_false_eq_true, Nat.reduceAdd, *]; done) | (refine id ?_; simp only [gxD]; omega)) only [↓gxPre, gxPost, ↓reduceIte, Nat.reduceEqDiff, reduceCtorEq, Nat.reduceAdd, *]; rfl) (by first | omega | (simp only [new_n, put_n]; omega)) (hv.ext ⟨by first | omega | (simp only [new_n, put_n]; omega) | (simp only [new_n, put_n] at *; omega), fun i hi => by simp (disch := first | assumption | omega | rfl | (refine id ?_; simp only [gxD, ne_eq, reduceCtorEq, not_false_eq_true, Nat.reduceAdd, *]; done) | (refine id ?_; simp only [gxD]; omega)) only [↓gxPre, gxPost, ↓reduceIte, Nat.reduceEqDiff, reduceCtorEq, Nat.reduceAdd, *]⟩) hn) (by first | exact Or.inl rfl | (simp (disch := first | assumption | omega | rfl | (refine id ?_; simp only [gxD, ne_eq, reduceCtorEq, not_false_eq_true, Nat.reduceAdd, *]; done) | (refine id ?_; simp only [gxD]; omega)) only [↓gxPre, gxPost, ↓reduceIte, Nat.reduceEqDiff, reduceCtorEq, Nat.reduceAdd, hv.len, *]; done)) ?_; simp (disch := first | assumption | omega | rfl | (refine id ?_; simp only [gxD, ne_eq, reduceCtorEq, not_false_eq_true, Nat.reduceAdd, *]; done) | (refine id ?_; simp only [gxD]; omega)) only [↓gxPre, gxPost, ↓reduceIte, Nat.reduceEqDiff, reduceCtorEq, Nat.reduceAdd, hv.len, *])))
  all_goals exact ⟨by simp_all [isLongF], ⟨by first | omega | (simp only [new_n, put_n]; omega) | (simp only [new_n, put_n] at *; omega), fun i hi => by simp (disch := first | assumption | omega | rfl | (refine id ?_; simp only [gxD, ne_eq, reduceCtorEq, not_false_eq_true, Nat.reduceAdd, *]; done) | (refine id ?_; simp only [gxD]; omega)) only [↓gxPre, gxPost, ↓reduceIte, Nat.reduceEqDiff, reduceCtorEq, Nat.reduceAdd, *]⟩⟩
end Go.Proofs.Ytddekdgggpifmaa

namespace Go.Proofs.Ytddekdgggpifmaa
open Go.Gx
set_option maxRecDepth 100000
set_option linter.unusedSimpArgs false
set_option linter.unusedVariables false

theorem acalls_ext {P : Program} {f : FuncId} {args : List Value} {H : Heap} {v : Value} (h : ACalls P f args H fun r H' => r = v ∧ H' = H) : ACalls P f args H fun r H' => r = v ∧ Ext H H' :=
  h.mono (by rintro _ _ ⟨rfl, rfl⟩; exact ⟨rfl, .refl _⟩)
end Go.Proofs.Ytddekdgggpifmaa

namespace Go.Proofs.Ytddekdgggpifmaa
open Go.Gx
set_option maxRecDepth 100000
set_option linter.unusedSimpArgs false
set_option linter.unusedVariables false

theorem i_copyOf_ok {H : Heap} {v : Value} {xs : List Nat} (hv : FS H v xs) (hn : xs.length ≤ 2 ^ 40) :
    ACalls Try.prog n_i_copyOf [v] H fun r H' => r = .slice (some ⟨H.n, 0, none⟩) xs.length xs.length ∧ H' = H.new ⟨true, t_float32, xs.map fv⟩ := by
  refine k_i_copyOf.run rfl ?_
  unfold c_i_copyOf
  have hr := (hv.ext (.new H ⟨true, t_float32, []⟩)).read
  simp (disch := first | assumption | omega | rfl | (refine id ?_; simp only [gxD, ne_eq, reduceCtorEq, not_false_eq_true, Nat.reduceAdd, *]; done) | (refine id ?_; simp only [gxD]; omega)) only [↓gxPre, gxPost, ↓reduceIte, Nat.reduceEqDiff, reduceCtorEq, Nat.reduceAdd, hr, List.nil_append, lMapN]
theorem i_finiteList_ok {H : Heap} {v : Value} {xs : List Nat} (hv : FS H v xs) (hn : xs.length ≤ 2 ^ 40) : ACalls Try.prog n_i_finiteList [v] H fun r H' => r = listV (xs.all finF) v ∧ Ext H H' := by
  refine k_i_finiteList.run rfl ?_
  unfold c_i_finiteList
  have hv1 := hv.one
  simp (disch := first | assumption | omega | rfl | (refine id ?_; simp only [gxD, ne_eq, reduceCtorEq, not_false_eq_true, Nat.reduceAdd, *]; done) | (refine id ?_; simp only [gxD]; omega)) only [↓gxPre, gxPost, ↓reduceIte, Nat.reduceEqDiff, reduceCtorEq, Nat.reduceAdd]
  refine callR_pure (i_areFinite1_ok (by simp (disch := first | assumption | omega | rfl | (refine id ?_; simp only [gxD, ne_eq, reduceCtorEq, not_false_eq_true, Nat.reduceAdd, *]; done) | (refine id ?_; simp only [gxD]; omega)) only [↓gxPre, gxPost, ↓reduceIte, Nat.reduceEqDiff, reduceCtorEq, Nat.reduceAdd, *]; rfl) (by first | omega | (simp only [new_n, put_n]; omega)) (hv.ext ⟨by first | omega | (simp only [new_n, put_n]; omega) | (simp only [new_n, put_n] at *; omega), fun i hi => by simp (disch := first | assumption | omega | rfl | (refine id ?_; simp only [gxD, ne_eq, reduceCtorEq, not_false_eq_true, Nat.reduceAdd, *]; done) | (refine id ?_; simp only [gxD]; omega)) only [↓gxPre, gxPost, ↓reduceIte, Nat.reduceEqDiff, reduceCtorEq, Nat.reduceAdd, *]⟩) hn) (.inl rfl) ?_
  cases h : xs.all finF
  · simp (disch := first | assumption | omega | rfl | (refine id ?_; simp only [gxD, ne_eq, reduceCtorEq, not_false_eq_true, Nat.reduceAdd, *]; done) | (refine id ?_; simp only [gxD]; omega)) only [↓gxPre, gxPost, ↓reduceIte, Nat.reduceEqDiff, reduceCtorEq, Nat.reduceAdd]
    exact ⟨rfl, ⟨by first | omega | (simp only [new_n, put_n]; omega) | (simp only [new_n, put_n] at *; omega), fun i hi => by simp (disch := first | assumption | omega | rfl | (refine id ?_; simp only [gxD, ne_eq, reduceCtorEq, not_false_eq_true, Nat.reduceAdd, *]; done) | (refine id ?_; simp only [gxD]; omega)) only [↓gxPre, gxPost, ↓reduceIte, Nat.reduceEqDiff, reduceCtorEq, Nat.reduceAdd, *]⟩⟩
  · simp (disch := first | assumption | omega | rfl | (refine id ?_; simp only [gxD, ne_eq, reduceCtorEq, not_false_eq_true, Nat.reduceAdd, *]; done) | (refine id ?_; simp only [gxD]; omega)) only [↓gxPre, gxPost, ↓reduceIte, Nat.reduceEqDiff, reduceCtorEq, Nat.reduceAdd]
    exact ⟨rfl, ⟨by first | omega | (simp only [new_n, put_n]; omega) | (simp only [new_n, put_n] at *; omega), fun i hi => by simp (disch := first | assumption | omega | rfl | (refine id ?_; simp only [gxD, ne_eq, reduceCtorEq, not_false_eq_true, Nat.reduceAdd, *]; done) | (refine id ?_; simp only [gxD]; omega)) only [↓gxPre, gxPost, ↓reduceIte, Nat.reduceEqDiff, reduceCtorEq, Nat.reduceAdd, *]⟩⟩
end Go.Proofs.Ytddekdgggpifmaa

namespace Go.Proofs.Ytddekdgggpifmaa
open Go.Gx
set_option maxRecDepth 100000
set_option linter.unusedSimpArgs false
set_option linter.unusedVariables false

theorem i_sameLists_ok {H : Heap} {v u : Value} {xss yss : List (List Nat)} (hv : SS H v xss) (hu : SS H u yss) (hn : totL xss ≤ 2 ^ 40) (hm : totL yss ≤ 2 ^ 40) (hx : W32S xss) (hy : W32S yss) :
    ACalls Try.prog n_i_sameLists [v, u] H fun r H' => r = .bool (sameRowsF xss yss) ∧ H' = H := by
  obtain ⟨vs, hv, hvl, hvs⟩ := hv
  obtain ⟨us, hu, hul, hus⟩ := hu
  have hnx : xss.length ≤ 2 ^ 40 := by unfold totL at hn; omega
  have hny : yss.length ≤ 2 ^ 40 := by unfold totL at hm; omega
  refine k_i_sameLists.run rfl ?_
  unfold c_i_sameLists
  by_cases hl : xss.length = yss.length
  · simp (disch := first | assumption | omega | rfl | (refine id ?_; simp only [gxD, ne_eq, reduceCtorEq, not_false_eq_true, Nat.reduceAdd, *]; done) | (refine id ?_; simp only [gxD]; omega)) only [↓gxPre, gxPost, ↓reduceIte, Nat.reduceEqDiff, reduceCtorEq, Nat.reduceAdd, hv.len, hu.len, hvl, hul, hl, ne_eq, not_true]
    refine loop_forH yss.length (fun i => [v, u, .int .i64 yss.length, .int .i64 i]) (fun i H' => H = H' ∧ ∀ j, j < i → sameL (xss.getD j []) (yss.getD j []) = true) rfl ⟨rfl, by intros; omega⟩ ?_ ?_
    · rintro _ ⟨rfl, hJ⟩
      simp (disch := first | assumption | omega | rfl | (refine id ?_; simp only [gxD, ne_eq, reduceCtorEq, not_false_eq_true, Nat.reduceAdd, *]; done) | (refine id ?_; simp only [gxD]; omega)) only [↓gxPre, gxPost, ↓reduceIte, Nat.reduceEqDiff, reduceCtorEq, Nat.reduceAdd, Int.lt_irrefl]
      simp only [sameRowsF, hl, decide_true, Bool.true_and]
      rw [allR.2 hJ]
    · rintro i _ hi ⟨rfl, hJ⟩
      simp (disch := first | assumption | omega | rfl | (refine id ?_; simp only [gxD, ne_eq, reduceCtorEq, not_false_eq_true, Nat.reduceAdd, *]; done) | (refine id ?_; simp only [gxD]; omega)) only [↓gxPre, gxPost, ↓reduceIte, Nat.reduceEqDiff, reduceCtorEq, Nat.reduceAdd, hv.ia, hu.ia, hv.ldD, hu.ldD, hvl, hul]
      refine callR_pure (i_sameNumbers_ok (hvs i (by omega)) (hus i hi) (totL_row hn i) (totL_row hm i) (hx i) (hy i)) (.inl rfl) ?_
      cases hs : sameL (xss.getD i []) (yss.getD i [])
      · simp (disch := first | assumption | omega | rfl | (refine id ?_; simp only [gxD, ne_eq, reduceCtorEq, not_false_eq_true, Nat.reduceAdd, *]; done) | (refine id ?_; simp only [gxD]; omega)) only [↓gxPre, gxPost, ↓reduceIte, Nat.reduceEqDiff, reduceCtorEq, Nat.reduceAdd]
        simp only [sameRowsF, hl, decide_true, Bool.true_and]
        rw [allR_false hi hs]
      · simp (disch := first | assumption | omega | rfl | (refine id ?_; simp only [gxD, ne_eq, reduceCtorEq, not_false_eq_true, Nat.reduceAdd, *]; done) | (refine id ?_; simp only [gxD]; omega)) only [↓gxPre, gxPost, ↓reduceIte, Nat.reduceEqDiff, reduceCtorEq, Nat.reduceAdd]
        exact ⟨by simp, Nat.forall_lt_succ_right.2 ⟨hJ, hs⟩⟩
  · have : ¬ ((xss.length : Int) = yss.length) := by omega
    simp (disch := first | assumption | omega | rfl | (refine id ?_; simp only [gxD, ne_eq, reduceCtorEq, not_false_eq_true, Nat.reduceAdd, *]; done) | (refine id ?_; simp only [gxD]; omega)) only [↓gxPre, gxPost, ↓reduceIte, Nat.reduceEqDiff, reduceCtorEq, Nat.reduceAdd, hv.len, hu.len, hvl, hul, ne_eq, this, not_false_eq_true]
    simp [sameRowsF, hl]
theorem i_SameBands_law {H : Heap} {v0 u0 v1 u1 : Value} {xs0 xs1 : List Nat} {ys0 ys1 : List (List Nat)} (A : AF H v0 xs0) (B : AS H u0 ys0) (C : AF H v1 xs1) (D : AS H u1 ys1) :
    ACalls Try.prog n_i_SameBands [.agg #[v0, u0], .agg #[v1, u1]] H fun r H' => r = .bool (sameL xs0 xs1 && sameRowsF ys0 ys1) ∧ Ext H H' := by
  refine k_i_SameBands.run rfl ?_
  unfold c_i_SameBands
  have o1 := A.rd.one
  have o2 := B.rd.one'
  have o3 := C.rd.one
  have o4 := D.rd.one'
  have e : Ext H ((H.new ⟨true, t_Bands, [v0, u0]⟩).new ⟨true, t_Bands, [v1, u1]⟩) := (Ext.new _ _).trans (.new _ _)
  simp (disch := first | assumption | omega | rfl | (refine id ?_; simp only [gxD, ne_eq, reduceCtorEq, not_false_eq_true, Nat.reduceAdd, *]; done) | (refine id ?_; simp only [gxD]; omega)) only [↓gxPre, gxPost, ↓reduceIte, Nat.reduceEqDiff, reduceCtorEq, Nat.reduceAdd]
  refine callR_pure (i_sameNumbers_ok (A.rd.ext e) (C.rd.ext e) A.le C.le A.w C.w) (by first | exact Or.inl rfl | (simp (disch := first | assumption | omega | rfl | (refine id ?_; simp only [gxD, ne_eq, reduceCtorEq, not_false_eq_true, Nat.reduceAdd, *]; done) | (refine id ?_; simp only [gxD]; omega)) only [↓gxPre, gxPost, ↓reduceIte, Nat.reduceEqDiff, reduceCtorEq, Nat.reduceAdd, *]; done)) ?_
  simp (disch := first | assumption | omega | rfl | (refine id ?_; simp only [gxD, ne_eq, reduceCtorEq, not_false_eq_true, Nat.reduceAdd, *]; done) | (refine id ?_; simp only [gxD]; omega)) only [↓gxPre, gxPost, ↓reduceIte, Nat.reduceEqDiff, reduceCtorEq, Nat.reduceAdd, *]
  cases h : sameL xs0 xs1
  · simp (disch := first | assumption | omega | rfl | (refine id ?_; simp only [gxD, ne_eq, reduceCtorEq, not_false_eq_true, Nat.reduceAdd, *]; done) | (refine id ?_; simp only [gxD]; omega)) only [↓gxPre, gxPost, ↓reduceIte, Nat.reduceEqDiff, reduceCtorEq, Nat.reduceAdd]
    exact ⟨rfl, e⟩
  simp (disch := first | assumption | omega | rfl | (refine id ?_; simp only [gxD, ne_eq, reduceCtorEq, not_false_eq_true, Nat.reduceAdd, *]; done) | (refine id ?_; simp only [gxD]; omega)) only [↓gxPre, gxPost, ↓reduceIte, Nat.reduceEqDiff, reduceCtorEq, Nat.reduceAdd]
  refine callR_pure (i_sameLists_ok (B.rd.ext e) (D.rd.ext e) B.le D.le B.w D.w) (by first | exact Or.inl rfl | (simp (disch := first | assumption | omega | rfl | (refine id ?_; simp only [gxD, ne_eq, reduceCtorEq, not_false_eq_true, Nat.reduceAdd, *]; done) | (refine id ?_; simp only [gxD]; omega)) only [↓gxPre, gxPost, ↓reduceIte, Nat.reduceEqDiff, reduceCtorEq, Nat.reduceAdd, *]; done)) ?_
  simp (disch := first | assumption | omega | rfl | (refine id ?_; simp only [gxD, ne_eq, reduceCtorEq, not_false_eq_true, Nat.reduceAdd, *]; done) | (refine id ?_; simp only [gxD]; omega)) only [↓gxPre, gxPost, ↓reduceIte, Nat.reduceEqDiff, reduceCtorEq, Nat.reduceAdd, *]
  first | exact e | rfl | exact ⟨rfl, e⟩
theorem i_highOf_ok {H : Heap} {v : Value} {xs : List Nat} (hv : FS H v xs) (hn : xs.length ≤ 2 ^ 40) :
    ACalls Try.prog n_i_highOf [.agg #[v]] H fun r H' => Ext H H' ∧ r = .slice (some ⟨H.n + 1, 0, none⟩) xs.length xs.length ∧ H.n + 2 ≤ H'.n ∧ H'.blk (H.n + 1) = some ⟨true, t_float32, (highL xs).map fv⟩ := by
  refine k_i_highOf.run rfl ?_
  unfold c_i_highOf
  have o1 := hv.one
  have e : Ext H (H.new ⟨true, t_Pair, [v]⟩) := .new _ _
  simp (disch := first | assumption | omega | rfl | (refine id ?_; simp only [gxD, ne_eq, reduceCtorEq, not_false_eq_true, Nat.reduceAdd, *]; done) | (refine id ?_; simp only [gxD]; omega)) only [↓gxPre, gxPost, ↓reduceIte, Nat.reduceEqDiff, reduceCtorEq, Nat.reduceAdd, (hv.ext (e.news ⟨true, t_float32, []⟩)).len]
  refine loop_forH xs.length (fun i => [.pointer (some ⟨H.n, 0, some 1⟩), .slice (some ⟨H.n + 1, 0, none⟩) i i, .int .i64 xs.length, .int .i64 i])
    (fun i G => H.n + 2 ≤ G.n ∧ Ext H G ∧ G.blk H.n = some ⟨true, t_Pair, [v]⟩ ∧ G.blk (H.n + 1) = some ⟨true, t_float32, (tabL i (highF xs)).map fv⟩) rfl ⟨by simp only [new_n]; omega, ⟨by first | omega | (simp only [new_n, put_n]; omega) | (simp only [new_n, put_n] at *; omega), fun i hi => by simp (disch := first | assumption | omega | rfl | (refine id ?_; simp only [gxD, ne_eq, reduceCtorEq, not_false_eq_true, Nat.reduceAdd, *]; done) | (refine id ?_; simp only [gxD]; omega)) only [↓gxPre, gxPost, ↓reduceIte, Nat.reduceEqDiff, reduceCtorEq, Nat.reduceAdd, *]⟩, by simp (disch := first | assumption | omega | rfl | (refine id ?_; simp only [gxD, ne_eq, reduceCtorEq, not_false_eq_true, Nat.reduceAdd, *]; done) | (refine id ?_; simp only [gxD]; omega)) only [↓gxPre, gxPost, ↓reduceIte, Nat.reduceEqDiff, reduceCtorEq, Nat.reduceAdd], by simp (disch := first | assumption | omega | rfl | (refine id ?_; simp only [gxD, ne_eq, reduceCtorEq, not_false_eq_true, Nat.reduceAdd, *]; done) | (refine id ?_; simp only [gxD]; omega)) only [↓gxPre, gxPost, ↓reduceIte, Nat.reduceEqDiff, reduceCtorEq, Nat.reduceAdd]; rfl⟩ ?_ ?_
  · rintro G ⟨hG, hE, hb, hc⟩
    simp (disch := first | assumption | omega | rfl | (refine id ?_; simp only [gxD, ne_eq, reduceCtorEq, not_false_eq_true, Nat.reduceAdd, *]; done) | (refine id ?_; simp only [gxD]; omega)) only [↓gxPre, gxPost, ↓reduceIte, Nat.reduceEqDiff, reduceCtorEq, Nat.reduceAdd, Int.lt_irrefl]
    exact ⟨hE, hG, hc⟩
  · rintro i G hi ⟨hG, hE, hb, hc⟩
    have hv' := hv.ext hE
    have e1 : ((xs.length : Int) - 1 - i).toNat = xs.length - 1 - i := by omega
    have ht := tabL_length i (highF xs)
    have hs := tabL_succ i (highF xs)
    have f := (hE.news ⟨true, t_float32, [.float .f32 (highF xs i)]⟩).put (i := H.n + 1) (by omega) ⟨true, t_float32, (tabL (i + 1) (highF xs)).map fv⟩
    rw [hs, ← fv_snoc'] at f
    by_cases h2 : i % 2 = 1
    · have hc2 : ((i % 2 : Nat) : Int) = 1 := by omega
      have hf : highF xs i = fneg .f32 (xs.getD (xs.length - 1 - i) 0) := if_pos h2
      rw [hf] at f
      simp (disch := first | assumption | omega | rfl | (refine id ?_; simp only [gxD, ne_eq, reduceCtorEq, not_false_eq_true, Nat.reduceAdd, *]; done) | (refine id ?_; simp only [gxD]; omega)) only [↓gxPre, gxPost, ↓reduceIte, Nat.reduceEqDiff, reduceCtorEq, Nat.reduceAdd, hb, hc, hv'.len, hv'.ia, hv'.ld, e1, tmod2, hc2, lMapN, ht]
      exact ⟨by simp, by omega, f, by rw [hs, ← fv_snoc', hf]⟩
    · have hc2 : ¬ ((i % 2 : Nat) : Int) = 1 := by omega
      have hf : highF xs i = xs.getD (xs.length - 1 - i) 0 := if_neg h2
      rw [hf] at f
      simp (disch := first | assumption | omega | rfl | (refine id ?_; simp only [gxD, ne_eq, reduceCtorEq, not_false_eq_true, Nat.reduceAdd, *]; done) | (refine id ?_; simp only [gxD]; omega)) only [↓gxPre, gxPost, ↓reduceIte, Nat.reduceEqDiff, reduceCtorEq, Nat.reduceAdd, hb, hc, hv'.len, hv'.ia, hv'.ld, e1, tmod2, hc2, lMapN, ht]
      exact ⟨by simp, by omega, f, by rw [hs, ← fv_snoc', hf]⟩
end Go.Proofs.Ytddekdgggpifmaa

namespace Go.Proofs.Ytddekdgggpifmaa
open Go.Gx
set_option maxRecDepth 100000
set_option linter.unusedSimpArgs false
set_option linter.unusedVariables false

theorem i_ValidBands_ok {H : Heap} {v u : Value} {xs : List Nat} {yss : List (List Nat)} (hv : FS H v xs) (hu0 : SS H u yss) (hn : xs.length ≤ 2 ^ 40) (hm : totL yss ≤ 2 ^ 40) :
    ACalls Try.prog n_i_ValidBands [.agg #[v, u]] H fun r H' => r = .bool (validBandsF xs yss) ∧ Ext H H' := by
  have o1 := hv.one
  have o2 := hu0.one'
  obtain ⟨us, hu, hul, hus⟩ := hu0
  have hu0 : SS H u yss := ⟨us, hu, hul, hus⟩
  have e : Ext H (H.new ⟨true, t_Bands, [v, u]⟩) := .new _ _
  have e2 : Ext H ((H.new ⟨true, t_Bands, [v, u]⟩).new ⟨true, t_sfloat32, [v]⟩) := e.news _
  have hu' := hu.ext e
  have hb2 : ((H.new ⟨true, t_Bands, [v, u]⟩).new ⟨true, t_sfloat32, [v]⟩).blk H.n = some ⟨true, t_Bands, [v, u]⟩ := by simp (disch := first | assumption | omega | rfl | (refine id ?_; simp only [gxD, ne_eq, reduceCtorEq, not_false_eq_true, Nat.reduceAdd, *]; done) | (refine id ?_; simp only [gxD]; omega)) only [↓gxPre, gxPost, ↓reduceIte, Nat.reduceEqDiff, reduceCtorEq, Nat.reduceAdd]
  have hny : yss.length ≤ 2 ^ 40 := by unfold totL at hm; omega
  refine k_i_ValidBands.run rfl ?_
  unfold c_i_ValidBands
  simp (disch := first | assumption | omega | rfl | (refine id ?_; simp only [gxD, ne_eq, reduceCtorEq, not_false_eq_true, Nat.reduceAdd, *]; done) | (refine id ?_; simp only [gxD]; omega)) only [↓gxPre, gxPost, ↓reduceIte, Nat.reduceEqDiff, reduceCtorEq, Nat.reduceAdd, hu'.len, hul]
  refine callR_pure (i_within_ok) (by first | exact Or.inl rfl | (simp (disch := first | assumption | omega | rfl | (refine id ?_; simp only [gxD, ne_eq, reduceCtorEq, not_false_eq_true, Nat.reduceAdd, *]; done) | (refine id ?_; simp only [gxD]; omega)) only [↓gxPre, gxPost, ↓reduceIte, Nat.reduceEqDiff, reduceCtorEq, Nat.reduceAdd, *]; done)) ?_
  simp (disch := first | assumption | omega | rfl | (refine id ?_; simp only [gxD, ne_eq, reduceCtorEq, not_false_eq_true, Nat.reduceAdd, *]; done) | (refine id ?_; simp only [gxD]; omega)) only [↓gxPre, gxPost, ↓reduceIte, Nat.reduceEqDiff, reduceCtorEq, Nat.reduceAdd, *]
  cases h1 : within yss.length 1 6
  · simp (disch := first | assumption | omega | rfl | (refine id ?_; simp only [gxD, ne_eq, reduceCtorEq, not_false_eq_true, Nat.reduceAdd, *]; done) | (refine id ?_; simp only [gxD]; omega)) only [↓gxPre, gxPost, ↓reduceIte, Nat.reduceEqDiff, reduceCtorEq, Nat.reduceAdd]
    exact ⟨by simp only [validBandsF, h1, Bool.false_and], e⟩
  have h1' := within_true.1 h1
  by_cases h2 : (yss.getD 0 []).length ≤ 64
  rotate_left
  · have h2' : (64 : Int) < (yss.getD 0 []).length := by omega
    simp (disch := first | assumption | omega | rfl | (refine id ?_; simp only [gxD, ne_eq, reduceCtorEq, not_false_eq_true, Nat.reduceAdd, *]; done) | (refine id ?_; simp only [gxD]; omega)) only [↓gxPre, gxPost, ↓reduceIte, Nat.reduceEqDiff, reduceCtorEq, Nat.reduceAdd, hu'.ia, hu'.ldD, hul, (hus 0 (by omega)).len, h2', Int.reduceToNat]
    exact ⟨by simp only [validBandsF, decide_eq_false h2, Bool.and_false, Bool.false_and], e⟩
  have h2' : ¬ (64 : Int) < (yss.getD 0 []).length := by omega
  simp (disch := first | assumption | omega | rfl | (refine id ?_; simp only [gxD, ne_eq, reduceCtorEq, not_false_eq_true, Nat.reduceAdd, *]; done) | (refine id ?_; simp only [gxD]; omega)) only [↓gxPre, gxPost, ↓reduceIte, Nat.reduceEqDiff, reduceCtorEq, Nat.reduceAdd, hu'.ia, hu'.ldD, hul, (hus 0 (by omega)).len, h2', Int.reduceToNat]
  refine callR_pure (i_areFinite_ok (hu0.ext e) hny fun j _ => totL_row hm j) (.inl rfl) ?_
  cases h3 : (yss.all fun ys => ys.all finF)
  · simp (disch := first | assumption | omega | rfl | (refine id ?_; simp only [gxD, ne_eq, reduceCtorEq, not_false_eq_true, Nat.reduceAdd, *]; done) | (refine id ?_; simp only [gxD]; omega)) only [↓gxPre, gxPost, ↓reduceIte, Nat.reduceEqDiff, reduceCtorEq, Nat.reduceAdd]
    exact ⟨by simp only [validBandsF, h3, Bool.and_false, Bool.false_and], e⟩
  simp (disch := first | assumption | omega | rfl | (refine id ?_; simp only [gxD, ne_eq, reduceCtorEq, not_false_eq_true, Nat.reduceAdd, *]; done) | (refine id ?_; simp only [gxD]; omega)) only [↓gxPre, gxPost, ↓reduceIte, Nat.reduceEqDiff, reduceCtorEq, Nat.reduceAdd]
  refine callR_pure (i_areFinite1_ok (by simp (disch := first | assumption | omega | rfl | (refine id ?_; simp only [gxD, ne_eq, reduceCtorEq, not_false_eq_true, Nat.reduceAdd, *]; done) | (refine id ?_; simp only [gxD]; omega)) only [↓gxPre, gxPost, ↓reduceIte, Nat.reduceEqDiff, reduceCtorEq, Nat.reduceAdd, *]; rfl) (by first | omega | (simp only [new_n, put_n]; omega)) (hv.ext e2) hn) (.inl rfl) ?_
  cases h4 : xs.all finF
  · simp (disch := first | assumption | omega | rfl | (refine id ?_; simp only [gxD, ne_eq, reduceCtorEq, not_false_eq_true, Nat.reduceAdd, *]; done) | (refine id ?_; simp only [gxD]; omega)) only [↓gxPre, gxPost, ↓reduceIte, Nat.reduceEqDiff, reduceCtorEq, Nat.reduceAdd]
    exact ⟨by simp only [validBandsF, h4, Bool.and_false, Bool.false_and], e2⟩
  have hu2 := hu.ext e2
  simp (disch := first | assumption | omega | rfl | (refine id ?_; simp only [gxD, ne_eq, reduceCtorEq, not_false_eq_true, Nat.reduceAdd, *]; done) | (refine id ?_; simp only [gxD]; omega)) only [↓gxPre, gxPost, ↓reduceIte, Nat.reduceEqDiff, reduceCtorEq, Nat.reduceAdd, hu2.len, hul]
  generalize ((H.new ⟨true, t_Bands, [v, u]⟩).new ⟨true, t_sfloat32, [v]⟩) = G at *
  refine loop_forH yss.length (fun i => [.pointer (some ⟨H.n, 0, some 2⟩), .int .i64 yss.length, u, .int .i64 yss.length, .int .i64 i]) (fun i G' => G = G' ∧ ∀ j, j < i → detAt yss j = true) rfl ⟨rfl, by intros; omega⟩ ?_ ?_
  · rintro _ ⟨rfl, hJ⟩
    have e1 : ((yss.length : Int) - 1).toNat = yss.length - 1 := by omega
    simp (disch := first | assumption | omega | rfl | (refine id ?_; simp only [gxD, ne_eq, reduceCtorEq, not_false_eq_true, Nat.reduceAdd, *]; done) | (refine id ?_; simp only [gxD]; omega)) only [↓gxPre, gxPost, ↓reduceIte, Nat.reduceEqDiff, reduceCtorEq, Nat.reduceAdd, Int.lt_irrefl, hb2, (hv.ext e2).len, hu2.ia, hu2.ldD, hul, e1, (hus (yss.length - 1) (by omega)).len]
    refine ⟨?_, e2⟩
    congr 1
    rw [Bool.eq_iff_iff]
    simp only [validBandsF, h1, h3, h4, allR.2 hJ, decide_eq_true h2, Bool.and_true, Bool.true_and, decide_eq_true_eq]
    omega
  · rintro i _ hi ⟨rfl, hJ⟩
    by_cases c1 : (yss.getD i []).length = 0
    · have c1' : ((yss.getD i []).length : Int) = 0 := by omega
      simp (disch := first | assumption | omega | rfl | (refine id ?_; simp only [gxD, ne_eq, reduceCtorEq, not_false_eq_true, Nat.reduceAdd, *]; done) | (refine id ?_; simp only [gxD]; omega)) only [↓gxPre, gxPost, ↓reduceIte, Nat.reduceEqDiff, reduceCtorEq, Nat.reduceAdd, hu2.ia, hu2.ldD, hul, (hus i hi).len, c1']
      exact ⟨by rw [vb_no hi (by simp only [detAt, c1]; simp)], e2⟩
    have c1' : ¬ ((yss.getD i []).length : Int) = 0 := by omega
    have hd1 : decide (1 ≤ (yss.getD i []).length) = true := decide_eq_true (by omega)
    by_cases c2 : i = 0
    · have c2' : ¬ ((0 : Int) < i) := by omega
      simp (disch := first | assumption | omega | rfl | (refine id ?_; simp only [gxD, ne_eq, reduceCtorEq, not_false_eq_true, Nat.reduceAdd, *]; done) | (refine id ?_; simp only [gxD]; omega)) only [↓gxPre, gxPost, ↓reduceIte, Nat.reduceEqDiff, reduceCtorEq, Nat.reduceAdd, hu2.ia, hu2.ldD, hul, (hus i hi).len, c1', c2']
      refine ⟨by simp, Nat.forall_lt_succ_right.2 ⟨hJ, ?_⟩⟩
      simp only [detAt, hd1, decide_eq_true c2, Bool.true_or, Bool.and_true]
    have c2' : (0 : Int) < i := by omega
    have e1 : ((i : Int) - 1).toNat = i - 1 := by omega
    have hr1 := totL_row hm i
    have hr2 := totL_row hm (i - 1)
    by_cases c3 : (yss.getD (i - 1) []).length = 2 * (yss.getD i []).length
    · have c3' : 2 * ((yss.getD i []).length : Int) = (yss.getD (i - 1) []).length := by omega
      simp (disch := first | assumption | omega | rfl | (refine id ?_; simp only [gxD, ne_eq, reduceCtorEq, not_false_eq_true, Nat.reduceAdd, *]; done) | (refine id ?_; simp only [gxD]; omega)) only [↓gxPre, gxPost, ↓reduceIte, Nat.reduceEqDiff, reduceCtorEq, Nat.reduceAdd, hu2.ia, hu2.ldD, hul, (hus i hi).len, c1', c2', hb2, e1, (hus (i - 1) (by omega)).len, c3', ne_eq, not_true]
      refine ⟨by simp, Nat.forall_lt_succ_right.2 ⟨hJ, ?_⟩⟩
      simp only [detAt, hd1, decide_eq_true c3, Bool.or_true, Bool.and_true]
    · have c3' : ¬ 2 * ((yss.getD i []).length : Int) = (yss.getD (i - 1) []).length := by omega
      simp (disch := first | assumption | omega | rfl | (refine id ?_; simp only [gxD, ne_eq, reduceCtorEq, not_false_eq_true, Nat.reduceAdd, *]; done) | (refine id ?_; simp only [gxD]; omega)) only [↓gxPre, gxPost, ↓reduceIte, Nat.reduceEqDiff, reduceCtorEq, Nat.reduceAdd, hu2.ia, hu2.ldD, hul, (hus i hi).len, c1', c2', hb2, e1, (hus (i - 1) (by omega)).len, c3', ne_eq, not_false_eq_true]
      exact ⟨by rw [vb_no hi (by simp only [detAt, decide_eq_false c3, decide_eq_false c2, Bool.or_false, Bool.and_false])], e2⟩
theorem s_l03Bands_ok {H : Heap} {h : Nat} {own : Bool} {ty : TypeId} {v u : Value} {xs : List Nat} {yss : List (List Nat)} (hb : H.blk h = some ⟨own, ty, [v, u]⟩) (hv : FS H v xs) (hu0 : SS H u yss) (hn : xs.length ≤ 2 ^ 40) (hm : totL yss ≤ 2 ^ 40) :
    ACalls Try.prog n_s_l03Bands [.pointer (some ⟨h, 0, some 2⟩)] H fun r H' => r = .bool (validBandsF xs yss) ∧ H' = H := by
  obtain ⟨us, hu, hul, hus⟩ := hu0
  have hny : yss.length ≤ 2 ^ 40 := by unfold totL at hm; omega
  refine k_s_l03Bands.run rfl ?_
  unfold c_s_l03Bands
  by_cases h0 : (yss.length : Int) < 1
  · simp (disch := first | assumption | omega | rfl | (refine id ?_; simp only [gxD, ne_eq, reduceCtorEq, not_false_eq_true, Nat.reduceAdd, *]; done) | (refine id ?_; simp only [gxD]; omega)) only [↓gxPre, gxPost, ↓reduceIte, Nat.reduceEqDiff, reduceCtorEq, Nat.reduceAdd, hb, hu.len, hul]
    have : within yss.length 1 6 = false := by simp [within]; omega
    simp only [validBandsF, this, Bool.false_and]
  by_cases h6 : (6 : Int) < yss.length
  · simp (disch := first | assumption | omega | rfl | (refine id ?_; simp only [gxD, ne_eq, reduceCtorEq, not_false_eq_true, Nat.reduceAdd, *]; done) | (refine id ?_; simp only [gxD]; omega)) only [↓gxPre, gxPost, ↓reduceIte, Nat.reduceEqDiff, reduceCtorEq, Nat.reduceAdd, hb, hu.len, hul]
    have : within yss.length 1 6 = false := by simp [within]; omega
    simp only [validBandsF, this, Bool.false_and]
  have h1 : within yss.length 1 6 = true := within_true.2 ⟨by omega, by omega⟩
  by_cases h2 : (yss.getD 0 []).length ≤ 64
  rotate_left
  · have h2' : (64 : Int) < (yss.getD 0 []).length := by omega
    simp (disch := first | assumption | omega | rfl | (refine id ?_; simp only [gxD, ne_eq, reduceCtorEq, not_false_eq_true, Nat.reduceAdd, *]; done) | (refine id ?_; simp only [gxD]; omega)) only [↓gxPre, gxPost, ↓reduceIte, Nat.reduceEqDiff, reduceCtorEq, Nat.reduceAdd, hb, hu.len, hu.ia, hu.ldD, hul, (hus 0 (by omega)).len, h2', Int.reduceToNat]
    simp only [validBandsF, decide_eq_false h2, Bool.and_false, Bool.false_and]
  have h2' : ¬ (64 : Int) < (yss.getD 0 []).length := by omega
  simp (disch := first | assumption | omega | rfl | (refine id ?_; simp only [gxD, ne_eq, reduceCtorEq, not_false_eq_true, Nat.reduceAdd, *]; done) | (refine id ?_; simp only [gxD]; omega)) only [↓gxPre, gxPost, ↓reduceIte, Nat.reduceEqDiff, reduceCtorEq, Nat.reduceAdd, hb, hu.len, hu.ia, hu.ldD, hul, (hus 0 (by omega)).len, h2', Int.reduceToNat]
  refine callR_pure (s_l02Finite_ok hv hn) (.inl rfl) ?_
  cases h4 : xs.all finF
  · simp (disch := first | assumption | omega | rfl | (refine id ?_; simp only [gxD, ne_eq, reduceCtorEq, not_false_eq_true, Nat.reduceAdd, *]; done) | (refine id ?_; simp only [gxD]; omega)) only [↓gxPre, gxPost, ↓reduceIte, Nat.reduceEqDiff, reduceCtorEq, Nat.reduceAdd]
    simp only [validBandsF, h4, Bool.and_false, Bool.false_and]
  simp (disch := first | assumption | omega | rfl | (refine id ?_; simp only [gxD, ne_eq, reduceCtorEq, not_false_eq_true, Nat.reduceAdd, *]; done) | (refine id ?_; simp only [gxD]; omega)) only [↓gxPre, gxPost, ↓reduceIte, Nat.reduceEqDiff, reduceCtorEq, Nat.reduceAdd, hb, hu.len, hul]
  refine loop_forH yss.length (fun i => [.pointer (some ⟨h, 0, some 2⟩), .int .i64 yss.length, .int .i64 yss.length, .int .i64 i]) (fun i G' => H = G' ∧ ∀ j, j < i → detAt yss j = true ∧ (yss.getD j []).all finF = true) rfl ⟨rfl, by intros; omega⟩ ?_ ?_
  · rintro _ ⟨rfl, hJ⟩
    have e1 : ((yss.length : Int) - 1).toNat = yss.length - 1 := by omega
    simp (disch := first | assumption | omega | rfl | (refine id ?_; simp only [gxD, ne_eq, reduceCtorEq, not_false_eq_true, Nat.reduceAdd, *]; done) | (refine id ?_; simp only [gxD]; omega)) only [↓gxPre, gxPost, ↓reduceIte, Nat.reduceEqDiff, reduceCtorEq, Nat.reduceAdd, Int.lt_irrefl, hb, hv.len, hu.ia, hu.ldD, hul, e1, (hus (yss.length - 1) (by omega)).len]
    have h3 : (yss.all fun ys => ys.all finF) = true := (allD []).2 fun j hj => (hJ j hj).2
    congr 1
    rw [Bool.eq_iff_iff]
    simp only [validBandsF, h1, h3, h4, allR.2 fun j hj => (hJ j hj).1, decide_eq_true h2, Bool.and_true, Bool.true_and, decide_eq_true_eq]
    omega
  · rintro i _ hi ⟨rfl, hJ⟩
    by_cases c1 : (yss.getD i []).length = 0
    · have c1' : ((yss.getD i []).length : Int) < 1 := by omega
      simp (disch := first | assumption | omega | rfl | (refine id ?_; simp only [gxD, ne_eq, reduceCtorEq, not_false_eq_true, Nat.reduceAdd, *]; done) | (refine id ?_; simp only [gxD]; omega)) only [↓gxPre, gxPost, ↓reduceIte, Nat.reduceEqDiff, reduceCtorEq, Nat.reduceAdd, hb, hu.ia, hu.ldD, hul, (hus i hi).len, c1']
      rw [vb_no hi (by simp only [detAt, c1]; simp)]
    have c1' : ¬ ((yss.getD i []).length : Int) < 1 := by omega
    have hd1 : decide (1 ≤ (yss.getD i []).length) = true := decide_eq_true (by omega)
    simp (disch := first | assumption | omega | rfl | (refine id ?_; simp only [gxD, ne_eq, reduceCtorEq, not_false_eq_true, Nat.reduceAdd, *]; done) | (refine id ?_; simp only [gxD]; omega)) only [↓gxPre, gxPost, ↓reduceIte, Nat.reduceEqDiff, reduceCtorEq, Nat.reduceAdd, hb, hu.ia, hu.ldD, hul, (hus i hi).len, c1']
    refine callR_pure (s_l02Finite_ok (hus i hi) (totL_row hm i)) (.inl rfl) ?_
    cases h5 : (yss.getD i []).all finF
    · simp (disch := first | assumption | omega | rfl | (refine id ?_; simp only [gxD, ne_eq, reduceCtorEq, not_false_eq_true, Nat.reduceAdd, *]; done) | (refine id ?_; simp only [gxD]; omega)) only [↓gxPre, gxPost, ↓reduceIte, Nat.reduceEqDiff, reduceCtorEq, Nat.reduceAdd]
      have : (yss.all fun ys => ys.all finF) = false := allD_false [] hi h5
      simp only [validBandsF, this, Bool.and_false, Bool.false_and]
    by_cases c2 : i = 0
    · have c2' : ¬ ((0 : Int) < i) := by omega
      simp (disch := first | assumption | omega | rfl | (refine id ?_; simp only [gxD, ne_eq, reduceCtorEq, not_false_eq_true, Nat.reduceAdd, *]; done) | (refine id ?_; simp only [gxD]; omega)) only [↓gxPre, gxPost, ↓reduceIte, Nat.reduceEqDiff, reduceCtorEq, Nat.reduceAdd, c2']
      refine ⟨by simp, Nat.forall_lt_succ_right.2 ⟨hJ, ?_, h5⟩⟩
      simp only [detAt, hd1, decide_eq_true c2, Bool.true_or, Bool.and_true]
    have c2' : (0 : Int) < i := by omega
    have e1 : ((i : Int) - 1).toNat = i - 1 := by omega
    have hr1 := totL_row hm i
    have hr2 := totL_row hm (i - 1)
    by_cases c3 : (yss.getD (i - 1) []).length = 2 * (yss.getD i []).length
    · have c3' : ((yss.getD (i - 1) []).length : Int) = 2 * ((yss.getD i []).length : Int) := by omega
      simp (disch := first | assumption | omega | rfl | (refine id ?_; simp only [gxD, ne_eq, reduceCtorEq, not_false_eq_true, Nat.reduceAdd, *]; done) | (refine id ?_; simp only [gxD]; omega)) only [↓gxPre, gxPost, ↓reduceIte, Nat.reduceEqDiff, reduceCtorEq, Nat.reduceAdd, hb, hu.ia, hu.ldD, hul, (hus i hi).len, c2', e1, (hus (i - 1) (by omega)).len, c3', ne_eq, not_true]
      refine ⟨by simp, Nat.forall_lt_succ_right.2 ⟨hJ, ?_, h5⟩⟩
      simp only [detAt, hd1, decide_eq_true c3, Bool.or_true, Bool.and_true]
    · have c3' : ¬ ((yss.getD (i - 1) []).length : Int) = 2 * ((yss.getD i []).length : Int) := by omega
      simp (disch := first | assumption | omega | rfl | (refine id ?_; simp only [gxD, ne_eq, reduceCtorEq, not_false_eq_true, Nat.reduceAdd, *]; done) | (refine id ?_; simp only [gxD]; omega)) only [↓gxPre, gxPost, ↓reduceIte, Nat.reduceEqDiff, reduceCtorEq, Nat.reduceAdd, hb, hu.ia, hu.ldD, hul, (hus i hi).len, c2', e1, (hus (i - 1) (by omega)).len, c3', ne_eq, not_false_eq_true]
      rw [vb_no hi (by simp only [detAt, decide_eq_false c3, decide_eq_false c2, Bool.or_false, Bool.and_false])]
theorem i_ValidBands_law {H : Heap} {v0 u0 : Value} {xs0 : List Nat} {ys0 : List (List Nat)} (A : AF H v0 xs0) (B : AS H u0 ys0) :
    ACalls Try.prog n_i_ValidBands [.agg #[v0, u0]] H fun r H' => r = .bool (validBandsF xs0 ys0) ∧ Ext H H' := i_ValidBands_ok A.rd B.rd A.le B.le
theorem s_ValidBands_law {H : Heap} {v0 u0 : Value} {xs0 : List Nat} {ys0 : List (List Nat)} (A : AF H v0 xs0) (B : AS H u0 ys0) :
    ACalls Try.prog n_s_ValidBands [.agg #[v0, u0]] H fun r H' => r = .bool (validBandsF xs0 ys0) ∧ Ext H H' := by
  refine k_s_ValidBands.run rfl ?_
  unfold c_s_ValidBands
  have o1 := A.rd.one
  have o2 := B.rd.one'
  simp (disch := first | assumption | omega | rfl | (refine id ?_; simp only [gxD, ne_eq, reduceCtorEq, not_false_eq_true, Nat.reduceAdd, *]; done) | (refine id ?_; simp only [gxD]; omega)) only [↓gxPre, gxPost, ↓reduceIte, Nat.reduceEqDiff, reduceCtorEq, Nat.reduceAdd]
  refine callR_new ?_
  intro G e hb nn
  refine callR_pure (s_l03Bands_ok hb (A.rd.ext e) (B.rd.ext e) A.le B.le) (.inl rfl) ?_
  simp (disch := first | assumption | omega | rfl | (refine id ?_; simp only [gxD, ne_eq, reduceCtorEq, not_false_eq_true, Nat.reduceAdd, *]; done) | (refine id ?_; simp only [gxD]; omega)) only [↓gxPre, gxPost, ↓reduceIte, Nat.reduceEqDiff, reduceCtorEq, Nat.reduceAdd]
  exact e
end Go.Proofs.Ytddekdgggpifmaa

namespace Go.Proofs.Ytddekdgggpifmaa
open Go.Gx
set_option maxRecDepth 100000
set_option linter.unusedSimpArgs false
set_option linter.unusedVariables false

theorem i_PowersOfBands_law {H : Heap} {v0 u0 : Value} {xs0 : List Nat} {ys0 : List (List Nat)} (A : AF H v0 xs0) (B : AS H u0 ys0) :
    ACalls Try.prog n_i_PowersOfBands [.agg #[v0, u0]] H fun r H' => ListR fv t_float32 H (validBandsF xs0 ys0 && (powersF xs0 ys0).all finF) (powersF xs0 ys0) r H' := by
  have hm := B.le
  have hnx : ys0.length ≤ 2 ^ 40 := by unfold totL at hm; omega
  have o1 := A.rd.one
  have o2 := B.rd.one'
  obtain ⟨us, hu, hul, hus⟩ := B.rd
  refine k_i_PowersOfBands.run rfl ?_
  unfold c_i_PowersOfBands
  simp (disch := first | assumption | omega | rfl | (refine id ?_; simp only [gxD, ne_eq, reduceCtorEq, not_false_eq_true, Nat.reduceAdd, *]; done) | (refine id ?_; simp only [gxD]; omega)) only [↓gxPre, gxPost, ↓reduceIte, Nat.reduceEqDiff, reduceCtorEq, Nat.reduceAdd]
  refine callR_new ?_
  intro G e hb nn
  refine callR_ext (i_ValidBands_ok (A.rd.ext e) (B.rd.ext e) A.le B.le) ?_
  intro K n1 b1
  have eK : Ext H K := e.trans ⟨n1, b1⟩
  have hbK := (b1 H.n (by omega)).trans hb
  cases hk : validBandsF xs0 ys0
  · simp (disch := first | assumption | omega | rfl | (refine id ?_; simp only [gxD, ne_eq, reduceCtorEq, not_false_eq_true, Nat.reduceAdd, *]; done) | (refine id ?_; simp only [gxD]; omega)) only [↓gxPre, gxPost, ↓reduceIte, Nat.reduceEqDiff, reduceCtorEq, Nat.reduceAdd, Bool.false_and, Bool.true_and, Bool.and_true, Bool.and_false, Bool.or_true, Bool.true_or, Bool.false_or, Bool.or_false, Bool.and_self, Bool.or_self]
    exact .no rfl eK
  have hK0 : H.n < K.n := by omega
  simp (disch := first | assumption | omega | rfl | (refine id ?_; simp only [gxD, ne_eq, reduceCtorEq, not_false_eq_true, Nat.reduceAdd, *]; done) | (refine id ?_; simp only [gxD]; omega)) only [↓gxPre, gxPost, ↓reduceIte, Nat.reduceEqDiff, reduceCtorEq, Nat.reduceAdd, hbK, hu.len, hul]
  refine loop_forH ys0.length (fun i => [.pointer (some ⟨H.n, 0, some 2⟩), .slice (some ⟨K.n, 0, none⟩) i i, u0, .int .i64 ys0.length, .int .i64 i])
    (fun i G => K.n + 1 ≤ G.n ∧ Ext K G ∧ G.blk K.n = some ⟨true, t_float32, (tabL i (sqF ys0)).map fv⟩) rfl ⟨by simp only [new_n]; omega, ⟨by first | omega | (simp only [new_n, put_n]; omega) | (simp only [new_n, put_n] at *; omega), fun i hi => by simp (disch := first | assumption | omega | rfl | (refine id ?_; simp only [gxD, ne_eq, reduceCtorEq, not_false_eq_true, Nat.reduceAdd, *]; done) | (refine id ?_; simp only [gxD]; omega)) only [↓gxPre, gxPost, ↓reduceIte, Nat.reduceEqDiff, reduceCtorEq, Nat.reduceAdd, *]⟩, by simp (disch := first | assumption | omega | rfl | (refine id ?_; simp only [gxD, ne_eq, reduceCtorEq, not_false_eq_true, Nat.reduceAdd, *]; done) | (refine id ?_; simp only [gxD]; omega)) only [↓gxPre, gxPost, ↓reduceIte, Nat.reduceEqDiff, reduceCtorEq, Nat.reduceAdd]; rfl⟩ ?_ ?_
  · rintro G ⟨hG, hE, hc⟩
    have hv' := (A.rd.ext eK).ext hE
    have hb' := (hE.blk H.n hK0).trans hbK
    have ht := tabL_length ys0.length (sqF ys0)
    obtain ⟨f1, f2, f3, f4⟩ := push_at hE hc (Nat.le_refl _) (by omega) (fv_snoc' (tabL ys0.length (sqF ys0)) (squaresF xs0))
    have hl : (powersF xs0 ys0).length = ys0.length + 1 := by simp [powersF, tabL_length]
    have h6 := (vb_yes hk).1
    simp (disch := first | assumption | omega | rfl | (refine id ?_; simp only [gxD, ne_eq, reduceCtorEq, not_false_eq_true, Nat.reduceAdd, *]; done) | (refine id ?_; simp only [gxD]; omega)) only [↓gxPre, gxPost, ↓reduceIte, Nat.reduceEqDiff, reduceCtorEq, Nat.reduceAdd, Int.lt_irrefl, hb']
    refine callR_pure (i_squares_ok hv' A.le) (.inl rfl) ?_
    simp (disch := first | assumption | omega | rfl | (refine id ?_; simp only [gxD, ne_eq, reduceCtorEq, not_false_eq_true, Nat.reduceAdd, *]; done) | (refine id ?_; simp only [gxD]; omega)) only [↓gxPre, gxPost, ↓reduceIte, Nat.reduceEqDiff, reduceCtorEq, Nat.reduceAdd, hc, lMapN, tabL_length]
    refine callR_ext (i_finiteList_ok (xs := powersF xs0 ys0) (FS.own f2 (by first | omega | (simp only [new_n, put_n]; omega)) hl) (by omega)) ?_
    intro G2 n2 b2
    have e2 : Ext ((G.new ⟨true, t_float32, [.float .f32 (squaresF xs0)]⟩).put K.n ⟨true, t_float32, (tabL ys0.length (sqF ys0)).map fv ++ [.float .f32 (squaresF xs0)]⟩) G2 := ⟨n2, b2⟩
    rw [f3] at n2
    cases hf : (powersF xs0 ys0).all finF
    · simp (disch := first | assumption | omega | rfl | (refine id ?_; simp only [gxD, ne_eq, reduceCtorEq, not_false_eq_true, Nat.reduceAdd, *]; done) | (refine id ?_; simp only [gxD]; omega)) only [↓gxPre, gxPost, ↓reduceIte, Nat.reduceEqDiff, reduceCtorEq, Nat.reduceAdd, listV]
      exact .no rfl ((eK.trans f1).trans e2)
    · simp (disch := first | assumption | omega | rfl | (refine id ?_; simp only [gxD, ne_eq, reduceCtorEq, not_false_eq_true, Nat.reduceAdd, *]; done) | (refine id ?_; simp only [gxD]; omega)) only [↓gxPre, gxPost, ↓reduceIte, Nat.reduceEqDiff, reduceCtorEq, Nat.reduceAdd, listV]
      exact .yes rfl ((eK.trans f1).trans e2) (.mk ((e2.blk K.n (by first | omega | (simp only [new_n, put_n]; omega))).trans f2) (by simpa using hl) (by first | omega | (simp only [new_n, put_n]; omega)) (by first | omega | (simp only [new_n, put_n]; omega)) (by first | omega | (simp only [new_n, put_n]; omega))) (by omega)
  · rintro i G hi ⟨hG, hE, hc⟩
    have hu' := (hu.ext eK).ext hE
    have ht := tabL_length i (sqF ys0)
    have hm5 : (tabL i (sqF ys0)).map fv ++ [.float .f32 (squaresF (ys0.getD i []))] = (tabL (i + 1) (sqF ys0)).map fv := by rw [tabL_succ, ← fv_snoc']; rfl
    obtain ⟨f1, f2, f3, f4⟩ := push_at hE hc (Nat.le_refl _) (by omega) hm5
    simp (disch := first | assumption | omega | rfl | (refine id ?_; simp only [gxD, ne_eq, reduceCtorEq, not_false_eq_true, Nat.reduceAdd, *]; done) | (refine id ?_; simp only [gxD]; omega)) only [↓gxPre, gxPost, ↓reduceIte, Nat.reduceEqDiff, reduceCtorEq, Nat.reduceAdd, hu'.ia, hu'.ldD, hul]
    refine callR_pure (i_squares_ok (((hus i hi).ext eK).ext hE) (totL_row hm i)) (.inl rfl) ?_
    simp (disch := first | assumption | omega | rfl | (refine id ?_; simp only [gxD, ne_eq, reduceCtorEq, not_false_eq_true, Nat.reduceAdd, *]; done) | (refine id ?_; simp only [gxD]; omega)) only [↓gxPre, gxPost, ↓reduceIte, Nat.reduceEqDiff, reduceCtorEq, Nat.reduceAdd, hc, lMapN, tabL_length]
    exact ⟨by simp, by omega, f1, by rw [hm5]⟩
end Go.Proofs.Ytddekdgggpifmaa

namespace Go.Proofs.Ytddekdgggpifmaa
open Go.Gx
set_option maxRecDepth 100000
set_option linter.unusedSimpArgs false
set_option linter.unusedVariables false

def sizeL (xss : List (List Nat)) (i : Nat) : List Nat := (List.range i).map fun j => (xss.getD j []).length
theorem sizeL_length (xss : List (List Nat)) (i : Nat) : (sizeL xss i).length = i := by simp [sizeL]
theorem sizeL_succ (xss : List (List Nat)) (i : Nat) : sizeL xss (i + 1) = sizeL xss i ++ [(xss.getD i []).length] := by simp [sizeL, List.range_succ]
theorem sizeL_all (xss : List (List Nat)) : sizeL xss xss.length = xss.map List.length := by
  refine list_ext_getD 0 (by simp [sizeL]) fun j hj => ?_
  have hj' : j < xss.length := by simpa [sizeL] using hj
  rw [sizeL, getD_range_map hj']
  simp [List.getD_eq_getElem?_getD, hj']
theorem flat_len (xss : List (List Nat)) : ∀ t, t ≤ xss.length → (flatF xss t).length + offN xss (xss.length - t) = offN xss xss.length
  | 0, _ => by simp [flatF, foldI_zero]
  | t + 1, h => by
    have ih := flat_len xss t (by omega)
    have e : xss.length - t = (xss.length - (t + 1)) + 1 := by omega
    rw [e, offN_succ (by omega)] at ih
    have e2 : xss.length - 1 - t = xss.length - (t + 1) := by omega
    simp only [flatF, foldI_succ, List.length_append, e2] at ih ⊢
    omega
theorem flatF_succ (xss : List (List Nat)) (t : Nat) : flatF xss (t + 1) = flatF xss t ++ xss.getD (xss.length - 1 - t) [] := rfl
theorem size_fit {sz : List Nat} {k : Nat} (hk : k < sz.length) (h1 : 1 ≤ sufS sz (k + 1)) : (decide (1 ≤ sz.getD k 0) && fitF (sufS sz (k + 1)) (sz.getD k 0)) = sizeAt sz k := by
  have hs := sufS_succ hk
  rw [Bool.eq_iff_iff]
  simp only [sizeAt, fitF, Bool.and_eq_true, Bool.or_eq_true, decide_eq_true_eq]
  omega
theorem sizes_le {xss : List (List Nat)} (hm : totL xss ≤ 2 ^ 40) (j : Nat) : (xss.map List.length).getD j 0 ≤ 2 ^ 40 := by
  by_cases hj : j < xss.length
  · have := totL_row hm j
    simpa [List.getD_eq_getElem?_getD, hj] using this
  · simp [List.getD_eq_getElem?_getD, List.getElem?_eq_none (Nat.le_of_not_lt hj)]
theorem sizes_sum (xss : List (List Nat)) (hm : totL xss ≤ 2 ^ 40) : sufS (xss.map List.length) 0 ≤ 2 ^ 40 := by
  have : sufS (xss.map List.length) 0 = offN xss xss.length := by simp [sufS, offN]
  rw [this]
  unfold totL at hm
  omega
end Go.Proofs.Ytddekdgggpifmaa

namespace Go.Proofs.Ytddekdgggpifmaa
open Go.Gx
set_option maxRecDepth 100000
set_option linter.unusedSimpArgs false
set_option linter.unusedVariables false

theorem rows_yes {xss : List (List Nat)} {most : Int} (h : rowsF xss most = true) : (1 ≤ (xss.length : Int) ∧ (xss.length : Int) ≤ most) ∧ ∀ j, j < xss.length → isLongF (xss.getD j []) = true ∧ (xss.getD j []).length = (xss.getD 0 []).length := by
  unfold rowsF at h
  simp only [Bool.and_eq_true] at h
  refine ⟨within_true.1 h.1, fun j hj => ?_⟩
  have := allR.1 h.2 j hj
  simpa using this
theorem long_len {xs : List Nat} (h : isLongF xs = true) : (1 ≤ xs.length ∧ xs.length ≤ 128) ∧ xs.all finF = true := by
  unfold isLongF at h
  simp only [Bool.and_eq_true] at h
  have := within_true.1 h.1
  exact ⟨by omega, h.2⟩
theorem tab_set {m i a : Nat} {f g : Nat → Nat} (h1 : g i = a) (h2 : ∀ j, j < m → j ≠ i → g j = f j) : (tabL m f).set i a = tabL m g := by
  refine list_ext_getD 0 (by simp [tabL]) fun j hj => ?_
  have hj' : j < m := by simpa [tabL] using hj
  rw [tabL_getD hj']
  by_cases hji : j = i
  · subst hji
    rw [getD_set_self (by rw [tabL_length]; exact hj'), h1]
  · rw [Go.Gx.getD_set_ne (Ne.symm hji), tabL_getD hj', h2 j hj' hji]
theorem rep_tab (m : Nat) : List.replicate m (Value.float .f32 0) = (tabL m fun _ => 0).map fv := by
  simp [tabL, fv, List.map_const']
theorem tab_at {m i : Nat} {f : Nat → Nat} (h : i < m) : ((tabL m f).map fv)[i]? = some (.float .f32 (f i)) := by
  simp [tabL, h, fv]
def frameAt (xss : List (List Nat)) (t i j : Nat) : Nat := if j < i then frameSum xss j (t + 1) else frameSum xss j t
theorem frameAt_zero (xss : List (List Nat)) (t : Nat) : frameAt xss t 0 = fun j => frameSum xss j t := by funext j; simp [frameAt]
theorem frameAt_next (xss : List (List Nat)) (t m : Nat) : tabL m (frameAt xss t m) = tabL m (frameAt xss (t + 1) 0) := tabL_congr fun j hj => by simp [frameAt, hj]
theorem frameAt_set {xss : List (List Nat)} {t i m : Nat} : (tabL m (frameAt xss t i)).set i (fbin .add .f32 (frameAt xss t i i) ((xss.getD (xss.length - 1 - t) []).getD i 0)) = tabL m (frameAt xss t (i + 1)) := by
  refine tab_set ?_ fun j _ hne => ?_
  · simp [frameAt, frameSum, foldI_succ]
  · unfold frameAt
    by_cases h : j < i
    · rw [if_pos h, if_pos (by omega)]
    · rw [if_neg h, if_neg (by omega)]
def frameL (xss : List (List Nat)) : List Nat := tabL (xss.getD 0 []).length (frameAt xss xss.length 0)
theorem bestF_lt {xss : List (List Nat)} {i : Nat} (h : 0 < xss.length) : ∀ k, k ≤ xss.length → bestF xss i k < xss.length
  | 0, _ => h
  | k + 1, hk => by
    have ih := bestF_lt (i := i) h k (by omega)
    simp only [bestF, foldI_succ] at ih ⊢
    split
    · omega
    · exact ih
def ridgeL (xss : List (List Nat)) (i : Nat) : List Int := (List.range i).map fun j => ((bestF xss j xss.length : Nat) : Int)
theorem ridgeL_length (xss : List (List Nat)) (i : Nat) : (ridgeL xss i).length = i := by simp [ridgeL]
theorem ridgeL_snoc (xss : List (List Nat)) (i : Nat) : (ridgeL xss i).map iv ++ [.int .i64 ((bestF xss i xss.length : Nat) : Int)] = (ridgeL xss (i + 1)).map iv := by simp [ridgeL, List.range_succ, iv]
end Go.Proofs.Ytddekdgggpifmaa

namespace Go.Proofs.Ytddekdgggpifmaa
open Go.Gx
set_option maxRecDepth 100000
set_option linter.unusedSimpArgs false
set_option linter.unusedVariables false

theorem wr_range (n : Int) : -9223372036854775808 ≤ wr n ∧ wr n ≤ 9223372036854775807 := by
  unfold wr
  rw [IntKind.wrap_i64]
  omega
def updL (g : Nat → Int) (xs : List Int) (i : Nat) : List Int := (List.range xs.length).map fun k => if k < i then g k else xs.getD k 0
theorem updL_length (g : Nat → Int) (xs : List Int) (i : Nat) : (updL g xs i).length = xs.length := by simp [updL]
theorem updL_zero (g : Nat → Int) (xs : List Int) : updL g xs 0 = xs := by
  refine list_ext_getD 0 (updL_length _ _ _) fun j hj => ?_
  rw [updL_length] at hj
  rw [updL, getD_range_map hj]
  simp
theorem updL_all (g : Nat → Int) (xs : List Int) : updL g xs xs.length = (List.range xs.length).map g := by
  refine list_ext_getD 0 (by simp [updL]) fun j hj => ?_
  rw [updL_length] at hj
  rw [updL, getD_range_map hj, getD_range_map hj, if_pos hj]
theorem updL_at {g : Nat → Int} {xs : List Int} {i : Nat} (h : i < xs.length) : ((updL g xs i).map iv)[i]? = some (.int .i64 (xs.getD i 0)) := by
  simp [updL, h, iv]
theorem updL_set {g : Nat → Int} {xs : List Int} {i : Nat} : (updL g xs i).set i (g i) = updL g xs (i + 1) := by
  refine list_ext_getD 0 (by simp [updL]) fun j hj => ?_
  have hj' : j < xs.length := by simpa [updL] using hj
  by_cases hji : j = i
  · subst hji
    rw [getD_set_self (by rw [updL_length]; exact hj'), updL, getD_range_map hj', if_pos (by omega)]
  · rw [Go.Gx.getD_set_ne (Ne.symm hji), updL, updL, getD_range_map hj', getD_range_map hj']
    by_cases h : j < i
    · rw [if_pos h, if_pos (by omega)]
    · rw [if_neg h, if_neg (by omega)]
theorem i64_range (n : Nat) (f : Nat → Int) (h : ∀ j, -9223372036854775808 ≤ f j ∧ f j ≤ 9223372036854775807) : I64 ((List.range n).map f) := fun j => by
  by_cases hj : j < n
  · rw [getD_range_map hj]; exact h j
  · simp [List.getD_eq_getElem?_getD, List.getElem?_eq_none (l := List.range n) (i := j) (by simp; omega)]
theorem i64_ev {xs : List Int} (h : I64 xs) (n : Nat) : I64 (evL 0 xs n) := i64_range _ _ fun j => h _
theorem i64_od {xs : List Int} (h : I64 xs) (n : Nat) : I64 (odL 0 xs n) := i64_range _ _ fun j => h _
theorem liftO_length (kind : Int) (xs : List Int) : (liftO kind xs).length = xs.length / 2 := by simp [liftO, lowerO, odL_length]
theorem liftE_length (kind : Int) (xs : List Int) : (liftE kind xs).length = (xs.length + 1) / 2 := by simp [liftE, raiseE, evL_length]
theorem i64_liftO (kind : Int) (xs : List Int) : I64 (liftO kind xs) := i64_range _ _ fun j => wr_range _
theorem i64_liftE (kind : Int) (xs : List Int) : I64 (liftE kind xs) := i64_range _ _ fun j => wr_range _
end Go.Proofs.Ytddekdgggpifmaa

namespace Go.Proofs.Ytddekdgggpifmaa
open Go.Gx
set_option maxRecDepth 100000
set_option linter.unusedSimpArgs false
set_option linter.unusedVariables false

theorem OwN_init {lo hi : Nat} {H : Heap} {ty : TypeId} {vs : List Value} {ls : List (List Value)} {v : Value} {l : List Value} (o : OwN lo hi H ty (vs ++ [v]) (ls ++ [l])) : OwN lo hi H ty vs ls := by
  obtain ⟨h1, h2, h3⟩ := o
  have hl : vs.length = ls.length := by simpa using h1
  have ea : ∀ i, i < ls.length → (vs ++ [v]).getD i undef = vs.getD i undef := fun i hi' => getD_app_lt (by omega)
  refine ⟨hl, fun i hi' => ?_, fun i j h hi' hj hh hk => h3 i j h (by simp; omega) (by simp; omega) (by rw [ea i hi']; exact hh) (by rw [ea j hj]; exact hk)⟩
  have := h2 i (by simp; omega)
  rwa [ea i hi', getD_app_lt hi'] at this
theorem OwN_last {lo hi : Nat} {H : Heap} {ty : TypeId} {vs : List Value} {ls : List (List Value)} {v : Value} {l : List Value} (o : OwN lo hi H ty (vs ++ [v]) (ls ++ [l])) : OwL lo hi H ty v l := by
  obtain ⟨h1, h2, h3⟩ := o
  have hl : vs.length = ls.length := by simpa using h1
  have := h2 ls.length (by simp)
  rw [getD_app_at] at this
  rwa [← hl, getD_app_at] at this
theorem OwN_put {lo hi h : Nat} {H : Heap} {ty sty : TypeId} {vs : List Value} {ls : List (List Value)} {cs : List Value} {own : Bool} {b : Blk} (o : OwN lo hi H ty vs ls) (hb : H.blk h = some ⟨own, sty, cs⟩) (hne : sty ≠ ty) : OwN lo hi (H.put h b) ty vs ls :=
  o.keep (Nat.le_refl _) fun i k hi' hk => hput_other _ _ _ _ fun e => (o.2.1 i hi').ne hb hne (by rw [hk, e])
theorem OwL_put {lo hi h : Nat} {H : Heap} {ty sty : TypeId} {v : Value} {l cs : List Value} {own : Bool} {b : Blk} (o : OwL lo hi H ty v l) (hb : H.blk h = some ⟨own, sty, cs⟩) (hne : sty ≠ ty) : OwL lo hi (H.put h b) ty v l :=
  o.keep (Nat.le_refl _) fun k hk => hput_other _ _ _ _ fun e => o.ne hb hne (by rw [hk, e])
/-- Two lists made later. -/
theorem OwN_two {lo : Nat} {G G' : Heap} {ty : TypeId} {vs : List Value} {ls : List (List Value)} {a b : Value} {la lb : List Value} (o : OwN lo G.n G ty vs ls) (e : Ext G G') (hlo : lo ≤ G.n) (p : OwN G.n G'.n G' ty [a, b] [la, lb]) : OwN lo G'.n G' ty (vs ++ [b] ++ [a]) (ls ++ [lb] ++ [la]) := by
  have o1 := (o.ext e).wide (Nat.le_refl _) e.n
  have pa := p.fst
  have pb := p.snd
  have hab : ∀ h, hdl b = some h → hdl a ≠ some h := fun h h1 h2 => by
    have := p.2.2 0 1 h (by simp) (by simp) h2 h1
    omega
  have o2 := o1.snoc (pb.wide hlo (Nat.le_refl _)) fun i h hi' hh hk => by
    have h1 := (o.lt hi' hh).2.1
    have h2 := (pb.hdl hk).1
    omega
  refine o2.snoc (pa.wide hlo (Nat.le_refl _)) fun i h hi' hh hk => ?_
  by_cases hlt : i < ls.length
  · rw [getD_app_lt (by rw [o.1]; exact hlt)] at hh
    have h1 := (o.lt hlt hh).2.1
    have h2 := (pa.hdl hk).1
    omega
  · have hi2 : i = ls.length := by simp at hi'; omega
    rw [hi2, ← o.1, getD_app_at] at hh
    exact hab h hh hk
def nowI (kind : Int) (xs : List Int) : Nat → List Int := foldI (fun _ l => liftE kind l) xs
def outI (kind : Int) (xs : List Int) (t : Nat) : List (List Int) := (List.range t).map fun k => liftO kind (nowI kind xs k)
theorem outI_succ (kind : Int) (xs : List Int) (t : Nat) : outI kind xs (t + 1) = outI kind xs t ++ [liftO kind (nowI kind xs t)] := by simp [outI, List.range_succ]
theorem nowI_succ (kind : Int) (xs : List Int) (t : Nat) : nowI kind xs (t + 1) = liftE kind (nowI kind xs t) := rfl
theorem nowI_le (kind : Int) (xs : List Int) : ∀ t, (nowI kind xs t).length ≤ xs.length + 1
  | 0 => by simp [nowI, foldI_zero]
  | t + 1 => by have := nowI_le kind xs t; rw [nowI_succ, liftE_length]; omega
def stopN (p : Nat → Bool) : Nat → Nat
  | 0 => 0
  | n + 1 => if stopN p n = n ∧ p n = true then n + 1 else stopN p n
theorem stopN_le (p : Nat → Bool) : ∀ n, stopN p n ≤ n
  | 0 => Nat.le_refl _
  | n + 1 => by
    have := stopN_le p n
    unfold stopN
    split <;> omega
theorem stopN_full {p : Nat → Bool} : ∀ t, (∀ s, s < t → p s = true) → stopN p t = t
  | 0, _ => rfl
  | t + 1, h => by
    unfold stopN
    rw [if_pos ⟨stopN_full t fun s hs => h s (by omega), h t (by omega)⟩]
theorem stopN_eq {p : Nat → Bool} {t : Nat} (h : ∀ s, s < t → p s = true) : ∀ n, t ≤ n → (t < n → p t = false) → stopN p n = t
  | 0, hn, _ => by have : t = 0 := by omega
                   subst this; rfl
  | n + 1, hn, hp => by
    by_cases h1 : t = n + 1
    · subst h1; exact stopN_full _ h
    · have ih := stopN_eq h n (by omega) fun _ => hp (by omega)
      unfold stopN
      rw [ih]
      by_cases h2 : t = n
      · subst h2
        rw [hp (by omega)]
        simp
      · rw [if_neg (fun h => h2 h.1)]
def moreI (kind : Int) (xs : List Int) (t : Nat) : Bool := decide (1 < (nowI kind xs t).length)
def levelsI (kind : Int) (xs : List Int) (n : Nat) : List (List Int) := outI kind xs (stopN (moreI kind xs) n) ++ [nowI kind xs (stopN (moreI kind xs) n)]
theorem outI_len (kind : Int) (xs : List Int) (t : Nat) : (outI kind xs t).length = t := by simp [outI]
theorem outI_sum (kind : Int) (xs : List Int) (hx : xs.length ≤ 128) : ∀ t, offN (outI kind xs t) t ≤ 129 * t
  | 0 => by simp [offN_zero]
  | t + 1 => by
    have ih := outI_sum kind xs hx t
    have h1 := nowI_le kind xs t
    have h2 := liftO_length kind (nowI kind xs t)
    rw [outI_succ, offN_succ (by simp [outI_len])]
    have e1 : offN (outI kind xs t ++ [liftO kind (nowI kind xs t)]) t = offN (outI kind xs t) t := by
      unfold offN
      rw [List.take_append_of_le_length (by rw [outI_len]; exact Nat.le_refl _)]
    have e2 : (outI kind xs t ++ [liftO kind (nowI kind xs t)]).getD t [] = liftO kind (nowI kind xs t) := by
      have := @getD_app_at _ (outI kind xs t) (liftO kind (nowI kind xs t)) []
      rwa [outI_len] at this
    rw [e1, e2]
    omega
theorem levelsI_tot (kind : Int) (xs : List Int) (hx : xs.length ≤ 128) (n : Nat) (hn : n ≤ 6) : totL (levelsI kind xs n) ≤ 2 ^ 40 := by
  have hs := stopN_le (moreI kind xs) n
  obtain ⟨t, ht⟩ : ∃ t, t = stopN (moreI kind xs) n := ⟨_, rfl⟩
  unfold levelsI
  rw [← ht] at hs ⊢
  have h1 := outI_sum kind xs hx t
  have h2 := nowI_le kind xs t
  have hl : (outI kind xs t ++ [nowI kind xs t]).length = t + 1 := by simp [outI_len]
  unfold totL
  rw [hl, offN_succ (by rw [hl]; omega)]
  have e1 : offN (outI kind xs t ++ [nowI kind xs t]) t = offN (outI kind xs t) t := by
    unfold offN
    rw [List.take_append_of_le_length (by rw [outI_len]; exact Nat.le_refl _)]
  have e2 : (outI kind xs t ++ [nowI kind xs t]).getD t [] = nowI kind xs t := by
    have := @getD_app_at _ (outI kind xs t) (nowI kind xs t) []
    rwa [outI_len] at this
  rw [e1, e2]
  omega
theorem integers_len {xs : List Int} (h : integersF xs = true) : 1 ≤ xs.length ∧ xs.length ≤ 128 := by
  simp only [integersF, Bool.and_eq_true] at h
  have := within_true.1 h.1
  omega
theorem i64_nowI {kind : Int} {xs : List Int} (h : I64 xs) : ∀ t, I64 (nowI kind xs t)
  | 0 => h
  | t + 1 => i64_liftE _ _
end Go.Proofs.Ytddekdgggpifmaa

namespace Go.Proofs.Ytddekdgggpifmaa
open Go.Gx
set_option maxRecDepth 100000
set_option linter.unusedSimpArgs false
set_option linter.unusedVariables false

theorem rd1_at {H : Heap} {k : Nat} {ty : TypeId} {v : Value} (h : k = H.n) : readSl (H.new ⟨true, ty, [v]⟩) (.slice (some ⟨k, 0, none⟩) 1 1) = some [v] := by subst h; exact rd1_new
theorem tdiv2 (n : Nat) : ((n : Int)).tdiv 2 = ((n / 2 : Nat) : Int) := tdivN n 2
theorem ring_ix (n j k : Nat) : (2 * (j : Int) + (k : Int)).tmod (n : Int) = (((2 * j + k) % n : Nat) : Int) := by
  have : 2 * (j : Int) + (k : Int) = ((2 * j + k : Nat) : Int) := by omega
  rw [this, tmodN]
def tapF (xs ps : List Nat) (j : Nat) : Nat → Nat := foldI (fun k a => fbin .add .f32 a (fbin .mul .f32 (ps.getD k 0) (xs.getD ((2 * j + k) % xs.length) 0))) 0
theorem tapF_succ (xs ps : List Nat) (j k : Nat) : tapF xs ps j (k + 1) = fbin .add .f32 (tapF xs ps j k) (fbin .mul .f32 (ps.getD k 0) (xs.getD ((2 * j + k) % xs.length) 0)) := rfl
def tapL (xs ps : List Nat) : List Nat := tabL (xs.length / 2) fun j => tapF xs ps j ps.length
def splitOk (xs ps : List Nat) : Bool := isLongF xs && decide (xs.length % 2 = 0) && validPairF ps && ((tapL xs ps).all finF && (tapL xs (highL ps)).all finF)
def joinK (lo hi ps hp out : List Nat) (j k : Nat) : List Nat := out.set ((2 * j + k) % (2 * lo.length)) (fbin .add .f32 (out.getD ((2 * j + k) % (2 * lo.length)) 0) (fbin .add .f32 (fbin .mul .f32 (ps.getD k 0) (lo.getD j 0)) (fbin .mul .f32 (hp.getD k 0) (hi.getD j 0))))
def joinJ (lo hi ps hp out : List Nat) (j : Nat) : Nat → List Nat := foldI (fun k o => joinK lo hi ps hp o j k) out
def joinN (lo hi ps hp : List Nat) : Nat → List Nat := foldI (fun j o => joinJ lo hi ps hp o j ps.length) (List.replicate (2 * lo.length) 0)
theorem joinJ_len (lo hi ps hp out : List Nat) (j : Nat) : ∀ k, (joinJ lo hi ps hp out j k).length = out.length
  | 0 => rfl
  | k + 1 => by
    have := joinJ_len lo hi ps hp out j k
    simp only [joinJ, foldI_succ, joinK, List.length_set] at this ⊢
    exact this
theorem joinN_len (lo hi ps hp : List Nat) : ∀ j, (joinN lo hi ps hp j).length = 2 * lo.length
  | 0 => by simp [joinN, foldI_zero]
  | j + 1 => by
    have := joinN_len lo hi ps hp j
    simp only [joinN, foldI_succ] at this ⊢
    rw [joinJ_len]; exact this
theorem joinJ_succ (lo hi ps hp out : List Nat) (j k : Nat) : joinJ lo hi ps hp out j (k + 1) = joinK lo hi ps hp (joinJ lo hi ps hp out j k) j k := rfl
theorem joinN_succ (lo hi ps hp : List Nat) (j : Nat) : joinN lo hi ps hp (j + 1) = joinJ lo hi ps hp (joinN lo hi ps hp j) j ps.length := rfl
def joinL (lo hi ps : List Nat) : List Nat := joinN lo hi ps (highL ps) lo.length
def joinOk (lo hi ps : List Nat) : Bool := within lo.length 1 64 && decide (hi.length = lo.length) && (lo.all finF && hi.all finF) && validPairF ps && (joinL lo hi ps).all finF
theorem fv_at {xs : List Nat} {i : Nat} (h : i < xs.length) : (xs.map fv)[i]? = some (.float .f32 (xs.getD i 0)) := by simp [List.getD_eq_getElem?_getD, h, fv]
theorem rep_fv (n : Nat) : List.replicate n (Value.float .f32 0) = (List.replicate n 0).map fv := by simp [fv]
theorem i_SplitRing_law {H : Heap} {v0 v1 : Value} {xs0 xs1 : List Nat} (A : AF H v0 xs0) (B : AF H v1 xs1) : ACalls Try.prog n_i_SplitRing [v0, .agg #[v1]] H fun r H' => TwoR fv t_float32 H (splitOk xs0 xs1) (tapL xs0 xs1) (tapL xs0 (highL xs1)) r H' := by
  have o1 := A.rd.one
  have o2 := B.rd.one
  refine k_i_SplitRing.run rfl ?_
  unfold c_i_SplitRing
  simp (disch := first | assumption | omega | rfl | (refine id ?_; simp only [gxD, ne_eq, reduceCtorEq, not_false_eq_true, Nat.reduceAdd, *]; done) | (refine id ?_; simp only [gxD]; omega)) only [↓gxPre, gxPost, ↓reduceIte, Nat.reduceEqDiff, reduceCtorEq, Nat.reduceAdd, A.rd.len]
  refine callR_new ?_
  intro G e hb nn
  refine callR_ext (i_isLong_ok (A.rd.ext e) A.le) ?_
  intro G1 n1 b1
  have e1 : Ext H G1 := e.trans ⟨n1, b1⟩
  have hb1 := (b1 H.n (by omega)).trans hb
  cases h1 : isLongF xs0
  · simp (disch := first | assumption | omega | rfl | (refine id ?_; simp only [gxD, ne_eq, reduceCtorEq, not_false_eq_true, Nat.reduceAdd, *]; done) | (refine id ?_; simp only [gxD]; omega)) only [↓gxPre, gxPost, ↓reduceIte, Nat.reduceEqDiff, reduceCtorEq, Nat.reduceAdd]
    exact .no (by simp only [splitOk, h1, Bool.false_and]) e1
  have hl := long_len h1
  by_cases h2 : xs0.length % 2 = 0
  rotate_left
  · have h2' : ((xs0.length % 2 : Nat) : Int) = 1 := by omega
    simp (disch := first | assumption | omega | rfl | (refine id ?_; simp only [gxD, ne_eq, reduceCtorEq, not_false_eq_true, Nat.reduceAdd, *]; done) | (refine id ?_; simp only [gxD]; omega)) only [↓gxPre, gxPost, ↓reduceIte, Nat.reduceEqDiff, reduceCtorEq, Nat.reduceAdd, tmod2, h2']
    exact .no (by simp only [splitOk, decide_eq_false h2, Bool.and_false, Bool.false_and]) e1
  have h2' : ((xs0.length % 2 : Nat) : Int) = 0 := by omega
  simp (disch := first | assumption | omega | rfl | (refine id ?_; simp only [gxD, ne_eq, reduceCtorEq, not_false_eq_true, Nat.reduceAdd, *]; done) | (refine id ?_; simp only [gxD]; omega)) only [↓gxPre, gxPost, ↓reduceIte, Nat.reduceEqDiff, reduceCtorEq, Nat.reduceAdd, tmod2, h2', hb1]
  refine callR_ext (i_ValidPair_ok (B.rd.ext e1) B.le) ?_
  intro G2 n2 b2
  have e2 : Ext H G2 := e1.trans ⟨n2, b2⟩
  have hb2 := (b2 H.n (by omega)).trans hb1
  cases h3 : validPairF xs1
  · simp (disch := first | assumption | omega | rfl | (refine id ?_; simp only [gxD, ne_eq, reduceCtorEq, not_false_eq_true, Nat.reduceAdd, *]; done) | (refine id ?_; simp only [gxD]; omega)) only [↓gxPre, gxPost, ↓reduceIte, Nat.reduceEqDiff, reduceCtorEq, Nat.reduceAdd]
    exact .no (by simp only [splitOk, h3, Bool.and_false, Bool.false_and]) e2
  have hp := vp_len h3
  simp (disch := first | assumption | omega | rfl | (refine id ?_; simp only [gxD, ne_eq, reduceCtorEq, not_false_eq_true, Nat.reduceAdd, *]; done) | (refine id ?_; simp only [gxD]; omega)) only [↓gxPre, gxPost, ↓reduceIte, Nat.reduceEqDiff, reduceCtorEq, Nat.reduceAdd, hb2]
  refine callR_of (i_highOf_ok (B.rd.ext e2) B.le) ?_
  rintro _ K ⟨eK', rfl, nK, cK⟩
  have eK := e2.trans eK'
  have hbK := (eK'.blk H.n (by omega)).trans hb2
  have lh := highL_length xs1
  have hK0 : H.n < K.n := by omega
  have hQ : FS K (.slice (some ⟨G2.n + 1, 0, none⟩) xs1.length xs1.length) (highL xs1) := FS.own cK (by omega) lh
  simp (disch := first | assumption | omega | rfl | (refine id ?_; simp only [gxD, ne_eq, reduceCtorEq, not_false_eq_true, Nat.reduceAdd, *]; done) | (refine id ?_; simp only [gxD]; omega)) only [↓gxPre, gxPost, ↓reduceIte, Nat.reduceEqDiff, reduceCtorEq, Nat.reduceAdd, tdiv2]
  refine loop_forH (xs0.length / 2) (fun j => [v0, .pointer (some ⟨H.n, 0, some 1⟩), .int .i64 xs0.length, .slice (some ⟨G2.n + 1, 0, none⟩) xs1.length xs1.length, .slice (some ⟨K.n, 0, none⟩) j j, .slice (some ⟨K.n + 1, 0, none⟩) j j, .int .i64 ((xs0.length / 2 : Nat) : Int), .int .i64 j])
    (fun j G => K.n + 2 ≤ G.n ∧ Ext K G ∧ G.blk K.n = some ⟨true, t_float32, (tabL j fun j => tapF xs0 xs1 j xs1.length).map fv⟩ ∧ G.blk (K.n + 1) = some ⟨true, t_float32, (tabL j fun j => tapF xs0 (highL xs1) j xs1.length).map fv⟩) rfl ⟨by simp only [new_n]; omega, ⟨by first | omega | (simp only [new_n, put_n]; omega) | (simp only [new_n, put_n] at *; omega), fun i hi => by simp (disch := first | assumption | omega | rfl | (refine id ?_; simp only [gxD, ne_eq, reduceCtorEq, not_false_eq_true, Nat.reduceAdd, *]; done) | (refine id ?_; simp only [gxD]; omega)) only [↓gxPre, gxPost, ↓reduceIte, Nat.reduceEqDiff, reduceCtorEq, Nat.reduceAdd, *]⟩, by simp (disch := first | assumption | omega | rfl | (refine id ?_; simp only [gxD, ne_eq, reduceCtorEq, not_false_eq_true, Nat.reduceAdd, *]; done) | (refine id ?_; simp only [gxD]; omega)) only [↓gxPre, gxPost, ↓reduceIte, Nat.reduceEqDiff, reduceCtorEq, Nat.reduceAdd]; rfl, by simp (disch := first | assumption | omega | rfl | (refine id ?_; simp only [gxD, ne_eq, reduceCtorEq, not_false_eq_true, Nat.reduceAdd, *]; done) | (refine id ?_; simp only [gxD]; omega)) only [↓gxPre, gxPost, ↓reduceIte, Nat.reduceEqDiff, reduceCtorEq, Nat.reduceAdd]; rfl⟩ ?_ ?_
  · rintro G3 ⟨hG, hE, hc, hd⟩
    have q1 : tapL xs0 xs1 = tabL (xs0.length / 2) fun j => tapF xs0 xs1 j xs1.length := rfl
    have q2 : tapL xs0 (highL xs1) = tabL (xs0.length / 2) fun j => tapF xs0 (highL xs1) j xs1.length := by rw [tapL, lh]
    rw [← q1] at hc
    rw [← q2] at hd
    have l1 : (tapL xs0 xs1).length = xs0.length / 2 := tabL_length _ _
    have l2 : (tapL xs0 (highL xs1)).length = xs0.length / 2 := tabL_length _ _
    simp (disch := first | assumption | omega | rfl | (refine id ?_; simp only [gxD, ne_eq, reduceCtorEq, not_false_eq_true, Nat.reduceAdd, *]; done) | (refine id ?_; simp only [gxD]; omega)) only [↓gxPre, gxPost, ↓reduceIte, Nat.reduceEqDiff, reduceCtorEq, Nat.reduceAdd, Int.lt_irrefl]
    refine callR_new ?_
    intro G4 e4 hb4 n4
    have hc4 := (e4.blk K.n (by omega)).trans hc
    have hd4 := (e4.blk (K.n + 1) (by omega)).trans hd
    refine callR_pure (i_areFinite2_ok hb4 (by omega) (FS.own hc4 (by omega) l1) (FS.own hd4 (by omega) l2) (by omega) (by omega)) (.inl rfl) ?_
    cases hf : ((tapL xs0 xs1).all finF && (tapL xs0 (highL xs1)).all finF)
    · simp (disch := first | assumption | omega | rfl | (refine id ?_; simp only [gxD, ne_eq, reduceCtorEq, not_false_eq_true, Nat.reduceAdd, *]; done) | (refine id ?_; simp only [gxD]; omega)) only [↓gxPre, gxPost, ↓reduceIte, Nat.reduceEqDiff, reduceCtorEq, Nat.reduceAdd]
      exact .no (by simp only [splitOk, hf, Bool.and_false]) ((eK.trans hE).trans e4)
    · simp (disch := first | assumption | omega | rfl | (refine id ?_; simp only [gxD, ne_eq, reduceCtorEq, not_false_eq_true, Nat.reduceAdd, *]; done) | (refine id ?_; simp only [gxD]; omega)) only [↓gxPre, gxPost, ↓reduceIte, Nat.reduceEqDiff, reduceCtorEq, Nat.reduceAdd]
      exact .yes (by simp only [splitOk, hf, h1, h3, decide_eq_true h2, Bool.and_true]) ((eK.trans hE).trans e4) (OwN.two (.mk hc4 (by simpa using l1) (by omega) (by omega) (by omega)) (.mk hd4 (by simpa using l2) (by omega) (by omega) (by omega)) fun h h1 h2 => by simp only [hdl, Option.some.injEq] at h1 h2; omega) (by omega) (by omega)
  · rintro j G3 hj ⟨hG, hE, hc, hd⟩
    have hv0 := (A.rd.ext eK).ext hE
    have hv1 := (B.rd.ext eK).ext hE
    have hv2 := hQ.ext hE
    have hb3 := (hE.blk H.n hK0).trans hbK
    simp (disch := first | assumption | omega | rfl | (refine id ?_; simp only [gxD, ne_eq, reduceCtorEq, not_false_eq_true, Nat.reduceAdd, *]; done) | (refine id ?_; simp only [gxD]; omega)) only [↓gxPre, gxPost, ↓reduceIte, Nat.reduceEqDiff, reduceCtorEq, Nat.reduceAdd, hb3, hv1.len]
    refine loop_for xs1.length (fun k => [v0, .pointer (some ⟨H.n, 0, some 1⟩), .int .i64 xs0.length, .slice (some ⟨G2.n + 1, 0, none⟩) xs1.length xs1.length, .slice (some ⟨K.n, 0, none⟩) j j, .slice (some ⟨K.n + 1, 0, none⟩) j j, .int .i64 j, .float .f32 (tapF xs0 xs1 j k), .float .f32 (tapF xs0 (highL xs1) j k), .int .i64 ((xs0.length / 2 : Nat) : Int), .int .i64 j, v1, .int .i64 xs1.length, .int .i64 k]) rfl ?_ ?_
    · have t1 : ((tabL j fun j => tapF xs0 xs1 j xs1.length).map fv).length = j := by rw [lMapN, tabL_length]
      have t2 : ((tabL j fun j => tapF xs0 (highL xs1) j xs1.length).map fv).length = j := by rw [lMapN, tabL_length]
      have m1 : (tabL j fun j => tapF xs0 xs1 j xs1.length).map fv ++ [.float .f32 (tapF xs0 xs1 j xs1.length)] = (tabL (j + 1) fun j => tapF xs0 xs1 j xs1.length).map fv := by rw [tabL_succ, fv_snoc']
      have m2 : (tabL j fun j => tapF xs0 (highL xs1) j xs1.length).map fv ++ [.float .f32 (tapF xs0 (highL xs1) j xs1.length)] = (tabL (j + 1) fun j => tapF xs0 (highL xs1) j xs1.length).map fv := by rw [tabL_succ, fv_snoc']
      obtain ⟨f1, f2, f3, f4⟩ := push_at hE hc (Nat.le_refl _) (by omega) m1
      obtain ⟨g1, g2, g3, g4⟩ := push_at f1 ((f4 (K.n + 1) (by omega) (by omega)).trans hd) (by omega) (by rw [f3]; omega) m2
      simp (disch := first | assumption | omega | rfl | (refine id ?_; simp only [gxD, ne_eq, reduceCtorEq, not_false_eq_true, Nat.reduceAdd, *]; done) | (refine id ?_; simp only [gxD]; omega)) only [↓gxPre, gxPost, ↓reduceIte, Nat.reduceEqDiff, reduceCtorEq, Nat.reduceAdd, Int.lt_irrefl, hc, hd, rd1_at]
      exact ⟨by simp, by omega, g1, by rw [m1], by rw [m2]⟩
    · intro k hk
      have hmod : (2 * j + k) % xs0.length < xs0.length := Nat.mod_lt _ (by omega)
      simp (disch := first | assumption | omega | rfl | (refine id ?_; simp only [gxD, ne_eq, reduceCtorEq, not_false_eq_true, Nat.reduceAdd, *]; done) | (refine id ?_; simp only [gxD]; omega)) only [↓gxPre, gxPost, ↓reduceIte, Nat.reduceEqDiff, reduceCtorEq, Nat.reduceAdd, ring_ix, hv0.ia, hv0.ld, hv1.ia, hv1.ld, hv2.ia, hv2.ld]
      simp [tapF_succ]
end Go.Proofs.Ytddekdgggpifmaa
