/- What the functions of the program do: contracts that are proved. -/
import Derived.Test.YtddekdgggpifmaaFnMaximaCode
import Derived.Test.YtddekdgggpifmaaGxTrig
import Derived.Test.YtddekdgggpifmaaGxBytes
import Derived.Test.YtddekdgggpifmaaGxLiftW
import Derived.Test.YtddekdgggpifmaaGxNine
import Derived.Test.YtddekdgggpifmaaGxFour
import Derived.Test.YtddekdgggpifmaaGxSlope
namespace Go.Proofs.Ytddekdgggpifmaa
open Go.Gx
set_option maxRecDepth 100000
set_option linter.unusedSimpArgs false
set_option linter.unusedVariables false

theorem i_within_ok {H : Heap} {a b c : Int} :
    ACalls Try.prog n_i_within [.int .i64 a, .int .i64 b, .int .i64 c] H fun r H' => r = .bool (within a b c) ∧ H' = H := by
  refine k_i_within.run rfl ?_
  unfold c_i_within
  ((try simp (disch := first | assumption | omega | rfl | (refine id ?_; simp only [gxD, ne_eq, reduceCtorEq, not_false_eq_true, Nat.reduceAdd, *]; done) | (refine id ?_; simp only [gxD]; omega)) only [↓gxPre, gxPost, ↓reduceIte, Nat.reduceEqDiff, reduceCtorEq, Nat.reduceAdd, *]); repeat' (first | (refine grdR_split (fun _ => ?_) (fun _ => ?_) <;> simp (disch := first | assumption | omega | rfl | (refine id ?_; simp only [gxD, ne_eq, reduceCtorEq, not_false_eq_true, Nat.reduceAdd, *]; done) | (refine id ?_; simp only [gxD]; omega)) only [↓gxPre, gxPost, ↓reduceIte, Nat.reduceEqDiff, reduceCtorEq, Nat.reduceAdd, *]) | (refine condR_split (fun _ => ?_) (fun _ => ?_) <;> simp (disch := first | assumption | omega | rfl | (refine id ?_; simp only [gxD, ne_eq, reduceCtorEq, not_false_eq_true, Nat.reduceAdd, *]; done) | (refine id ?_; simp only [gxD]; omega)) only [↓gxPre, gxPost, ↓reduceIte, Nat.reduceEqDiff, reduceCtorEq, Nat.reduceAdd, *])))
  all_goals (simp_all [within]; try omega)
theorem s_l00In_ok {H : Heap} {a b c : Int} :
    ACalls Try.prog n_s_l00In [.int .i64 a, .int .i64 b, .int .i64 c] H fun r H' => r = .bool (within a b c) ∧ H' = H := by
  refine k_s_l00In.run rfl ?_
  unfold c_s_l00In
  ((try simp (disch := first | assumption | omega | rfl | (refine id ?_; simp only [gxD, ne_eq, reduceCtorEq, not_false_eq_true, Nat.reduceAdd, *]; done) | (refine id ?_; simp only [gxD]; omega)) only [↓gxPre, gxPost, ↓reduceIte, Nat.reduceEqDiff, reduceCtorEq, Nat.reduceAdd, *]); repeat' (first | (refine grdR_split (fun _ => ?_) (fun _ => ?_) <;> simp (disch := first | assumption | omega | rfl | (refine id ?_; simp only [gxD, ne_eq, reduceCtorEq, not_false_eq_true, Nat.reduceAdd, *]; done) | (refine id ?_; simp only [gxD]; omega)) only [↓gxPre, gxPost, ↓reduceIte, Nat.reduceEqDiff, reduceCtorEq, Nat.reduceAdd, *]) | (refine condR_split (fun _ => ?_) (fun _ => ?_) <;> simp (disch := first | assumption | omega | rfl | (refine id ?_; simp only [gxD, ne_eq, reduceCtorEq, not_false_eq_true, Nat.reduceAdd, *]; done) | (refine id ?_; simp only [gxD]; omega)) only [↓gxPre, gxPost, ↓reduceIte, Nat.reduceEqDiff, reduceCtorEq, Nat.reduceAdd, *])))
  all_goals (simp_all [within]; try omega)
theorem i_IsFinite_ok {H : Heap} {x : Nat} : ACalls Try.prog n_i_IsFinite [.float .f32 x] H fun r H' => r = .bool (finF x) ∧ H' = H := by
  refine k_i_IsFinite.run rfl ?_
  unfold c_i_IsFinite
  ((try simp (disch := first | assumption | omega | rfl | (refine id ?_; simp only [gxD, ne_eq, reduceCtorEq, not_false_eq_true, Nat.reduceAdd, *]; done) | (refine id ?_; simp only [gxD]; omega)) only [↓gxPre, gxPost, ↓reduceIte, Nat.reduceEqDiff, reduceCtorEq, Nat.reduceAdd, finF, *]); repeat' (first | (refine grdR_split (fun _ => ?_) (fun _ => ?_) <;> simp (disch := first | assumption | omega | rfl | (refine id ?_; simp only [gxD, ne_eq, reduceCtorEq, not_false_eq_true, Nat.reduceAdd, *]; done) | (refine id ?_; simp only [gxD]; omega)) only [↓gxPre, gxPost, ↓reduceIte, Nat.reduceEqDiff, reduceCtorEq, Nat.reduceAdd, finF, *]) | (refine condR_split (fun _ => ?_) (fun _ => ?_) <;> simp (disch := first | assumption | omega | rfl | (refine id ?_; simp only [gxD, ne_eq, reduceCtorEq, not_false_eq_true, Nat.reduceAdd, *]; done) | (refine id ?_; simp only [gxD]; omega)) only [↓gxPre, gxPost, ↓reduceIte, Nat.reduceEqDiff, reduceCtorEq, Nat.reduceAdd, finF, *])))
theorem s_l01Finite_ok {H : Heap} {x : Nat} : ACalls Try.prog n_s_l01Finite [.float .f32 x] H fun r H' => r = .bool (finF x) ∧ H' = H := by
  refine k_s_l01Finite.run rfl ?_
  unfold c_s_l01Finite
  ((try simp (disch := first | assumption | omega | rfl | (refine id ?_; simp only [gxD, ne_eq, reduceCtorEq, not_false_eq_true, Nat.reduceAdd, *]; done) | (refine id ?_; simp only [gxD]; omega)) only [↓gxPre, gxPost, ↓reduceIte, Nat.reduceEqDiff, reduceCtorEq, Nat.reduceAdd, finF, *]); repeat' (first | (refine grdR_split (fun _ => ?_) (fun _ => ?_) <;> simp (disch := first | assumption | omega | rfl | (refine id ?_; simp only [gxD, ne_eq, reduceCtorEq, not_false_eq_true, Nat.reduceAdd, *]; done) | (refine id ?_; simp only [gxD]; omega)) only [↓gxPre, gxPost, ↓reduceIte, Nat.reduceEqDiff, reduceCtorEq, Nat.reduceAdd, finF, *]) | (refine condR_split (fun _ => ?_) (fun _ => ?_) <;> simp (disch := first | assumption | omega | rfl | (refine id ?_; simp only [gxD, ne_eq, reduceCtorEq, not_false_eq_true, Nat.reduceAdd, *]; done) | (refine id ?_; simp only [gxD]; omega)) only [↓gxPre, gxPost, ↓reduceIte, Nat.reduceEqDiff, reduceCtorEq, Nat.reduceAdd, finF, *])))
theorem s_l02Finite_ok {H : Heap} {v : Value} {xs : List Nat} (hv : FS H v xs) (hn : xs.length ≤ 2 ^ 40) : ACalls Try.prog n_s_l02Finite [v] H fun r H' => r = .bool (xs.all finF) ∧ H' = H := by
  refine k_s_l02Finite.run rfl ?_
  unfold c_s_l02Finite
  simp (disch := first | assumption | omega | rfl | (refine id ?_; simp only [gxD, ne_eq, reduceCtorEq, not_false_eq_true, Nat.reduceAdd, *]; done) | (refine id ?_; simp only [gxD]; omega)) only [↓gxPre, gxPost, ↓reduceIte, Nat.reduceEqDiff, reduceCtorEq, Nat.reduceAdd, hv.len]
  refine loop_forH xs.length (fun i => [v, .int .i64 i]) (fun i H' => H = H' ∧ ∀ j, j < i → finF (xs.getD j 0) = true) rfl ⟨rfl, by intros; omega⟩ ?_ ?_
  · rintro _ ⟨rfl, hJ⟩
    ((try simp (disch := first | assumption | omega | rfl | (refine id ?_; simp only [gxD, ne_eq, reduceCtorEq, not_false_eq_true, Nat.reduceAdd, *]; done) | (refine id ?_; simp only [gxD]; omega)) only [↓gxPre, gxPost, ↓reduceIte, Nat.reduceEqDiff, reduceCtorEq, Nat.reduceAdd, hv.len, Int.lt_irrefl, *]); repeat' (first | (refine grdR_split (fun _ => ?_) (fun _ => ?_) <;> simp (disch := first | assumption | omega | rfl | (refine id ?_; simp only [gxD, ne_eq, reduceCtorEq, not_false_eq_true, Nat.reduceAdd, *]; done) | (refine id ?_; simp only [gxD]; omega)) only [↓gxPre, gxPost, ↓reduceIte, Nat.reduceEqDiff, reduceCtorEq, Nat.reduceAdd, hv.len, Int.lt_irrefl, *]) | (refine condR_split (fun _ => ?_) (fun _ => ?_) <;> simp (disch := first | assumption | omega | rfl | (refine id ?_; simp only [gxD, ne_eq, reduceCtorEq, not_false_eq_true, Nat.reduceAdd, *]; done) | (refine id ?_; simp only [gxD]; omega)) only [↓gxPre, gxPost, ↓reduceIte, Nat.reduceEqDiff, reduceCtorEq, Nat.reduceAdd, hv.len, Int.lt_irrefl, *])))
    rw [all_getD.2 hJ]
  · rintro i _ hi ⟨rfl, hJ⟩
    ((try simp (disch := first | assumption | omega | rfl | (refine id ?_; simp only [gxD, ne_eq, reduceCtorEq, not_false_eq_true, Nat.reduceAdd, *]; done) | (refine id ?_; simp only [gxD]; omega)) only [↓gxPre, gxPost, ↓reduceIte, Nat.reduceEqDiff, reduceCtorEq, Nat.reduceAdd, hv.len, hv.ia, hv.ld, *]); repeat' (first | (refine grdR_split (fun _ => ?_) (fun _ => ?_) <;> simp (disch := first | assumption | omega | rfl | (refine id ?_; simp only [gxD, ne_eq, reduceCtorEq, not_false_eq_true, Nat.reduceAdd, *]; done) | (refine id ?_; simp only [gxD]; omega)) only [↓gxPre, gxPost, ↓reduceIte, Nat.reduceEqDiff, reduceCtorEq, Nat.reduceAdd, hv.len, hv.ia, hv.ld, *]) | (refine condR_split (fun _ => ?_) (fun _ => ?_) <;> simp (disch := first | assumption | omega | rfl | (refine id ?_; simp only [gxD, ne_eq, reduceCtorEq, not_false_eq_true, Nat.reduceAdd, *]; done) | (refine id ?_; simp only [gxD]; omega)) only [↓gxPre, gxPost, ↓reduceIte, Nat.reduceEqDiff, reduceCtorEq, Nat.reduceAdd, hv.len, hv.ia, hv.ld, *]) | (refine callR_pure (s_l01Finite_ok) (by first | exact Or.inl rfl | (simp (disch := first | assumption | omega | rfl | (refine id ?_; simp only [gxD, ne_eq, reduceCtorEq, not_false_eq_true, Nat.reduceAdd, *]; done) | (refine id ?_; simp only [gxD]; omega)) only [↓gxPre, gxPost, ↓reduceIte, Nat.reduceEqDiff, reduceCtorEq, Nat.reduceAdd, hv.len, hv.ia, hv.ld, *]; done)) ?_; simp (disch := first | assumption | omega | rfl | (refine id ?_; simp only [gxD, ne_eq, reduceCtorEq, not_false_eq_true, Nat.reduceAdd, *]; done) | (refine id ?_; simp only [gxD]; omega)) only [↓gxPre, gxPost, ↓reduceIte, Nat.reduceEqDiff, reduceCtorEq, Nat.reduceAdd, hv.len, hv.ia, hv.ld, *])))
    · rename_i h; simp only [Bool.not_eq_true'] at h
      rw [all_false hi h]
    · rename_i h; simp only [Bool.not_eq_false'] at h
      exact ⟨by simp, Nat.forall_lt_succ_right.2 ⟨hJ, h⟩⟩
theorem i_areFinite_ok {H : Heap} {w : Value} {xss : List (List Nat)} (hw : SS H w xss) (hn : xss.length ≤ 2 ^ 40) (hx : ∀ j, j < xss.length → (xss.getD j []).length ≤ 2 ^ 40) :
    ACalls Try.prog n_i_areFinite [w] H fun r H' => r = .bool (xss.all fun xs => xs.all finF) ∧ H' = H := by
  obtain ⟨vs, hv, hl, hvs⟩ := hw
  refine k_i_areFinite.run rfl ?_
  unfold c_i_areFinite
  simp (disch := first | assumption | omega | rfl | (refine id ?_; simp only [gxD, ne_eq, reduceCtorEq, not_false_eq_true, Nat.reduceAdd, *]; done) | (refine id ?_; simp only [gxD]; omega)) only [↓gxPre, gxPost, ↓reduceIte, Nat.reduceEqDiff, reduceCtorEq, Nat.reduceAdd, hv.len, hl]
  refine loop_forH xss.length (fun i => [w, .int .i64 xss.length, .int .i64 i]) (fun i H' => H = H' ∧ ∀ j, j < i → (xss.getD j []).all finF = true) rfl ⟨rfl, by intros; omega⟩ ?_ ?_
  · rintro _ ⟨rfl, hJ⟩
    ((try simp (disch := first | assumption | omega | rfl | (refine id ?_; simp only [gxD, ne_eq, reduceCtorEq, not_false_eq_true, Nat.reduceAdd, *]; done) | (refine id ?_; simp only [gxD]; omega)) only [↓gxPre, gxPost, ↓reduceIte, Nat.reduceEqDiff, reduceCtorEq, Nat.reduceAdd, Int.lt_irrefl, *]); repeat' (first | (refine grdR_split (fun _ => ?_) (fun _ => ?_) <;> simp (disch := first | assumption | omega | rfl | (refine id ?_; simp only [gxD, ne_eq, reduceCtorEq, not_false_eq_true, Nat.reduceAdd, *]; done) | (refine id ?_; simp only [gxD]; omega)) only [↓gxPre, gxPost, ↓reduceIte, Nat.reduceEqDiff, reduceCtorEq, Nat.reduceAdd, Int.lt_irrefl, *]) | (refine condR_split (fun _ => ?_) (fun _ => ?_) <;> simp (disch := first | assumption | omega | rfl | (refine id ?_; simp only [gxD, ne_eq, reduceCtorEq, not_false_eq_true, Nat.reduceAdd, *]; done) | (refine id ?_; simp only [gxD]; omega)) only [↓gxPre, gxPost, ↓reduceIte, Nat.reduceEqDiff, reduceCtorEq, Nat.reduceAdd, Int.lt_irrefl, *])))
    rw [(allD []).2 hJ]
  · rintro i _ hi ⟨rfl, hJ⟩
    have hu := hvs i hi
    have hxi := hx i hi
    simp (disch := first | assumption | omega | rfl | (refine id ?_; simp only [gxD, ne_eq, reduceCtorEq, not_false_eq_true, Nat.reduceAdd, *]; done) | (refine id ?_; simp only [gxD]; omega)) only [↓gxPre, gxPost, ↓reduceIte, Nat.reduceEqDiff, reduceCtorEq, Nat.reduceAdd, hi, hv.ia, hv.ldD, hl, hu.len]
    refine loop_forH (xss.getD i []).length (fun j => [w, .int .i64 xss.length, .int .i64 i, vs.getD i undef, .int .i64 (xss.getD i []).length, .int .i64 j]) (fun j H' => H = H' ∧ ∀ k, k < j → finF ((xss.getD i []).getD k 0) = true) rfl ⟨rfl, by intros; omega⟩ ?_ ?_
    · rintro _ ⟨rfl, hK⟩
      simp (disch := first | assumption | omega | rfl | (refine id ?_; simp only [gxD, ne_eq, reduceCtorEq, not_false_eq_true, Nat.reduceAdd, *]; done) | (refine id ?_; simp only [gxD]; omega)) only [↓gxPre, gxPost, ↓reduceIte, Nat.reduceEqDiff, reduceCtorEq, Nat.reduceAdd, Int.lt_irrefl]
      exact ⟨by simp, Nat.forall_lt_succ_right.2 ⟨hJ, all_getD.2 hK⟩⟩
    · rintro j _ hj ⟨rfl, hK⟩
      ((try simp (disch := first | assumption | omega | rfl | (refine id ?_; simp only [gxD, ne_eq, reduceCtorEq, not_false_eq_true, Nat.reduceAdd, *]; done) | (refine id ?_; simp only [gxD]; omega)) only [↓gxPre, gxPost, ↓reduceIte, Nat.reduceEqDiff, reduceCtorEq, Nat.reduceAdd, hj, hu.ia, hu.ld, *]); repeat' (first | (refine grdR_split (fun _ => ?_) (fun _ => ?_) <;> simp (disch := first | assumption | omega | rfl | (refine id ?_; simp only [gxD, ne_eq, reduceCtorEq, not_false_eq_true, Nat.reduceAdd, *]; done) | (refine id ?_; simp only [gxD]; omega)) only [↓gxPre, gxPost, ↓reduceIte, Nat.reduceEqDiff, reduceCtorEq, Nat.reduceAdd, hj, hu.ia, hu.ld, *]) | (refine condR_split (fun _ => ?_) (fun _ => ?_) <;> simp (disch := first | assumption | omega | rfl | (refine id ?_; simp only [gxD, ne_eq, reduceCtorEq, not_false_eq_true, Nat.reduceAdd, *]; done) | (refine id ?_; simp only [gxD]; omega)) only [↓gxPre, gxPost, ↓reduceIte, Nat.reduceEqDiff, reduceCtorEq, Nat.reduceAdd, hj, hu.ia, hu.ld, *]) | (refine callR_pure (i_IsFinite_ok) (by first | exact Or.inl rfl | (simp (disch := first | assumption | omega | rfl | (refine id ?_; simp only [gxD, ne_eq, reduceCtorEq, not_false_eq_true, Nat.reduceAdd, *]; done) | (refine id ?_; simp only [gxD]; omega)) only [↓gxPre, gxPost, ↓reduceIte, Nat.reduceEqDiff, reduceCtorEq, Nat.reduceAdd, hj, hu.ia, hu.ld, *]; done)) ?_; simp (disch := first | assumption | omega | rfl | (refine id ?_; simp only [gxD, ne_eq, reduceCtorEq, not_false_eq_true, Nat.reduceAdd, *]; done) | (refine id ?_; simp only [gxD]; omega)) only [↓gxPre, gxPost, ↓reduceIte, Nat.reduceEqDiff, reduceCtorEq, Nat.reduceAdd, hj, hu.ia, hu.ld, *])))
      · rename_i h; simp only [Bool.not_eq_true'] at h
        rw [allD_false [] hi (all_false hj h)]
      · rename_i h; simp only [Bool.not_eq_false'] at h
        exact ⟨by simp, Nat.forall_lt_succ_right.2 ⟨hK, h⟩⟩
theorem i_areFinite1_ok {H : Heap} {h : Nat} {own : Bool} {ty : TypeId} {v : Value} {xs : List Nat} (hb : H.blk h = some ⟨own, ty, [v]⟩) (hh : h < H.n) (hv : FS H v xs) (hn : xs.length ≤ 2 ^ 40) :
    ACalls Try.prog n_i_areFinite [.slice (some ⟨h, 0, none⟩) 1 1] H fun r H' => r = .bool (xs.all finF) ∧ H' = H := by
  refine (i_areFinite_ok (SS.one hb hh hv) (by simp) ?_).mono ?_
  · intro j hj
    have : j = 0 := by simpa using hj
    subst this; exact hn
  · rintro _ _ ⟨rfl, rfl⟩
    simp
theorem i_squares_ok {H : Heap} {v : Value} {xs : List Nat} (hv : FS H v xs) (hn : xs.length ≤ 2 ^ 40) :
    ACalls Try.prog n_i_squares [v] H fun r H' => r = .float .f32 (squaresF xs) ∧ H' = H := by
  refine k_i_squares.run rfl ?_
  unfold c_i_squares
  simp (disch := first | assumption | omega | rfl | (refine id ?_; simp only [gxD, ne_eq, reduceCtorEq, not_false_eq_true, Nat.reduceAdd, *]; done) | (refine id ?_; simp only [gxD]; omega)) only [↓gxPre, gxPost, ↓reduceIte, Nat.reduceEqDiff, reduceCtorEq, Nat.reduceAdd, hv.len]
  refine loop_for xs.length (fun i => [.float .f32 (foldI (fun i s => fbin .add .f32 s (fbin .mul .f32 (xs.getD i 0) (xs.getD i 0))) 0 i), v, .int .i64 xs.length, .int .i64 i]) rfl ?_ ?_
  · simp (disch := first | assumption | omega | rfl | (refine id ?_; simp only [gxD, ne_eq, reduceCtorEq, not_false_eq_true, Nat.reduceAdd, *]; done) | (refine id ?_; simp only [gxD]; omega)) only [↓gxPre, gxPost, ↓reduceIte, Nat.reduceEqDiff, reduceCtorEq, Nat.reduceAdd, Int.lt_irrefl]
    rfl
  · intro i hi
    simp (disch := first | assumption | omega | rfl | (refine id ?_; simp only [gxD, ne_eq, reduceCtorEq, not_false_eq_true, Nat.reduceAdd, *]; done) | (refine id ?_; simp only [gxD]; omega)) only [↓gxPre, gxPost, ↓reduceIte, Nat.reduceEqDiff, reduceCtorEq, Nat.reduceAdd, hv.ia, hv.ld, hi]
    simp [foldI_succ]
theorem i_size_ok {H : Heap} {x : Nat} : ACalls Try.prog n_i_size [.float .f32 x] H fun r H' => r = .float .f32 (sizeF x) ∧ H' = H := by
  refine k_i_size.run rfl ?_
  unfold c_i_size
  ((try simp (disch := first | assumption | omega | rfl | (refine id ?_; simp only [gxD, ne_eq, reduceCtorEq, not_false_eq_true, Nat.reduceAdd, *]; done) | (refine id ?_; simp only [gxD]; omega)) only [↓gxPre, gxPost, ↓reduceIte, Nat.reduceEqDiff, reduceCtorEq, Nat.reduceAdd, *]); repeat' (first | (refine grdR_split (fun _ => ?_) (fun _ => ?_) <;> simp (disch := first | assumption | omega | rfl | (refine id ?_; simp only [gxD, ne_eq, reduceCtorEq, not_false_eq_true, Nat.reduceAdd, *]; done) | (refine id ?_; simp only [gxD]; omega)) only [↓gxPre, gxPost, ↓reduceIte, Nat.reduceEqDiff, reduceCtorEq, Nat.reduceAdd, *]) | (refine condR_split (fun _ => ?_) (fun _ => ?_) <;> simp (disch := first | assumption | omega | rfl | (refine id ?_; simp only [gxD, ne_eq, reduceCtorEq, not_false_eq_true, Nat.reduceAdd, *]; done) | (refine id ?_; simp only [gxD]; omega)) only [↓gxPre, gxPost, ↓reduceIte, Nat.reduceEqDiff, reduceCtorEq, Nat.reduceAdd, *])))
  all_goals simp_all [sizeF]
theorem s_HaarPair_ok {H : Heap} : ACalls Try.prog n_s_HaarPair [] H fun r H' => Ext H H' ∧ ∃ h, H.n ≤ h ∧ h < H'.n ∧ r = .agg #[.slice (some ⟨h, 0, none⟩) 2 2] ∧ H'.blk h = some ⟨true, t_float32, [1060439283, 1060439283].map fv⟩ := by
  refine k_s_HaarPair.run rfl ?_
  unfold c_s_HaarPair
  ((try simp (disch := first | assumption | omega | rfl | (refine id ?_; simp only [gxD, ne_eq, reduceCtorEq, not_false_eq_true, Nat.reduceAdd, *]; done) | (refine id ?_; simp only [gxD]; omega)) only [↓gxPre, gxPost, ↓reduceIte, Nat.reduceEqDiff, reduceCtorEq, Nat.reduceAdd, eBsl_4, *]); repeat' (first | (refine grdR_split (fun _ => ?_) (fun _ => ?_) <;> simp (disch := first | assumption | omega | rfl | (refine id ?_; simp only [gxD, ne_eq, reduceCtorEq, not_false_eq_true, Nat.reduceAdd, *]; done) | (refine id ?_; simp only [gxD]; omega)) only [↓gxPre, gxPost, ↓reduceIte, Nat.reduceEqDiff, reduceCtorEq, Nat.reduceAdd, eBsl_4, *]) | (refine condR_split (fun _ => ?_) (fun _ => ?_) <;> simp (disch := first | assumption | omega | rfl | (refine id ?_; simp only [gxD, ne_eq, reduceCtorEq, not_false_eq_true, Nat.reduceAdd, *]; done) | (refine id ?_; simp only [gxD]; omega)) only [↓gxPre, gxPost, ↓reduceIte, Nat.reduceEqDiff, reduceCtorEq, Nat.reduceAdd, eBsl_4, *])))
  exact ⟨⟨by first | omega | (simp only [new_n, put_n]; omega) | (simp only [new_n, put_n] at *; omega), fun i hi => by simp (disch := first | assumption | omega | rfl | (refine id ?_; simp only [gxD, ne_eq, reduceCtorEq, not_false_eq_true, Nat.reduceAdd, *]; done) | (refine id ?_; simp only [gxD]; omega)) only [↓gxPre, gxPost, ↓reduceIte, Nat.reduceEqDiff, reduceCtorEq, Nat.reduceAdd, *]⟩, H.n + 1, by omega, by omega, rfl, by simp (disch := first | assumption | omega | rfl | (refine id ?_; simp only [gxD, ne_eq, reduceCtorEq, not_false_eq_true, Nat.reduceAdd, *]; done) | (refine id ?_; simp only [gxD]; omega)) only [↓gxPre, gxPost, ↓reduceIte, Nat.reduceEqDiff, reduceCtorEq, Nat.reduceAdd, fv]⟩
theorem s_FourPair_ok {H : Heap} : ACalls Try.prog n_s_FourPair [] H fun r H' => Ext H H' ∧ ∃ h, H.n ≤ h ∧ h < H'.n ∧ r = .agg #[.slice (some ⟨h, 0, none⟩) 4 4] ∧ H'.blk h = some ⟨true, t_float32, [1056392938, 1062610415, 1046840824, 3187966958].map fv⟩ := by
  refine k_s_FourPair.run rfl ?_
  unfold c_s_FourPair
  ((try simp (disch := first | assumption | omega | rfl | (refine id ?_; simp only [gxD, ne_eq, reduceCtorEq, not_false_eq_true, Nat.reduceAdd, *]; done) | (refine id ?_; simp only [gxD]; omega)) only [↓gxPre, gxPost, ↓reduceIte, Nat.reduceEqDiff, reduceCtorEq, Nat.reduceAdd, eBsl_4, *]); repeat' (first | (refine grdR_split (fun _ => ?_) (fun _ => ?_) <;> simp (disch := first | assumption | omega | rfl | (refine id ?_; simp only [gxD, ne_eq, reduceCtorEq, not_false_eq_true, Nat.reduceAdd, *]; done) | (refine id ?_; simp only [gxD]; omega)) only [↓gxPre, gxPost, ↓reduceIte, Nat.reduceEqDiff, reduceCtorEq, Nat.reduceAdd, eBsl_4, *]) | (refine condR_split (fun _ => ?_) (fun _ => ?_) <;> simp (disch := first | assumption | omega | rfl | (refine id ?_; simp only [gxD, ne_eq, reduceCtorEq, not_false_eq_true, Nat.reduceAdd, *]; done) | (refine id ?_; simp only [gxD]; omega)) only [↓gxPre, gxPost, ↓reduceIte, Nat.reduceEqDiff, reduceCtorEq, Nat.reduceAdd, eBsl_4, *])))
  exact ⟨⟨by first | omega | (simp only [new_n, put_n]; omega) | (simp only [new_n, put_n] at *; omega), fun i hi => by simp (disch := first | assumption | omega | rfl | (refine id ?_; simp only [gxD, ne_eq, reduceCtorEq, not_false_eq_true, Nat.reduceAdd, *]; done) | (refine id ?_; simp only [gxD]; omega)) only [↓gxPre, gxPost, ↓reduceIte, Nat.reduceEqDiff, reduceCtorEq, Nat.reduceAdd, *]⟩, H.n + 1, by omega, by omega, rfl, by simp (disch := first | assumption | omega | rfl | (refine id ?_; simp only [gxD, ne_eq, reduceCtorEq, not_false_eq_true, Nat.reduceAdd, *]; done) | (refine id ?_; simp only [gxD]; omega)) only [↓gxPre, gxPost, ↓reduceIte, Nat.reduceEqDiff, reduceCtorEq, Nat.reduceAdd, fv]⟩
end Go.Proofs.Ytddekdgggpifmaa

namespace Go.Proofs.Ytddekdgggpifmaa
open Go.Gx
set_option maxRecDepth 100000
set_option linter.unusedSimpArgs false
set_option linter.unusedVariables false

theorem s_l03Pair_ok {H : Heap} {h : Nat} {o : Bool} {ty : TypeId} {v : Value} {xs : List Nat} (hb : H.blk h = some ⟨o, ty, [v]⟩) (hv : FS H v xs) (hn : xs.length ≤ 2 ^ 40) :
    ACalls Try.prog n_s_l03Pair [.pointer (some ⟨h, 0, some 1⟩)] H fun r H' => r = .bool (validPairF xs) ∧ H' = H := by
  refine k_s_l03Pair.run rfl ?_
  unfold c_s_l03Pair
  by_cases h1 : 2 ≤ xs.length ∧ xs.length ≤ 8
  rotate_left
  · have h2 : within xs.length 2 8 = false := by
      simp only [within, Bool.and_eq_false_iff, decide_eq_false_iff_not]; omega
    by_cases h3 : (xs.length : Int) < 2
    · simp (disch := first | assumption | omega | rfl | (refine id ?_; simp only [gxD, ne_eq, reduceCtorEq, not_false_eq_true, Nat.reduceAdd, *]; done) | (refine id ?_; simp only [gxD]; omega)) only [↓gxPre, gxPost, ↓reduceIte, Nat.reduceEqDiff, reduceCtorEq, Nat.reduceAdd, *, hv.len]
      simp [validPairF, h2]
    · have h4 : (8 : Int) < xs.length := by omega
      simp (disch := first | assumption | omega | rfl | (refine id ?_; simp only [gxD, ne_eq, reduceCtorEq, not_false_eq_true, Nat.reduceAdd, *]; done) | (refine id ?_; simp only [gxD]; omega)) only [↓gxPre, gxPost, ↓reduceIte, Nat.reduceEqDiff, reduceCtorEq, Nat.reduceAdd, *, hv.len]
      simp [validPairF, h2]
  have h2 : within xs.length 2 8 = true := within_true.2 (by omega)
  by_cases h3 : xs.length % 2 = 0
  rotate_left
  · have h4 : ¬ ((xs.length % 2 : Nat) : Int) = 0 := by omega
    simp (disch := first | assumption | omega | rfl | (refine id ?_; simp only [gxD, ne_eq, reduceCtorEq, not_false_eq_true, Nat.reduceAdd, *]; done) | (refine id ?_; simp only [gxD]; omega)) only [↓gxPre, gxPost, ↓reduceIte, Nat.reduceEqDiff, reduceCtorEq, Nat.reduceAdd, *, hv.len, tmod2, ne_eq, not_false_eq_true]
    simp [validPairF, h3]
  have h4 : ((xs.length % 2 : Nat) : Int) = 0 := by omega
  simp (disch := first | assumption | omega | rfl | (refine id ?_; simp only [gxD, ne_eq, reduceCtorEq, not_false_eq_true, Nat.reduceAdd, *]; done) | (refine id ?_; simp only [gxD]; omega)) only [↓gxPre, gxPost, ↓reduceIte, Nat.reduceEqDiff, reduceCtorEq, Nat.reduceAdd, *, hv.len, tmod2, ne_eq, not_true]
  refine callR_pure (s_l02Finite_ok hv hn) (.inl rfl) ?_
  cases hf : xs.all finF
  · simp (disch := first | assumption | omega | rfl | (refine id ?_; simp only [gxD, ne_eq, reduceCtorEq, not_false_eq_true, Nat.reduceAdd, *]; done) | (refine id ?_; simp only [gxD]; omega)) only [↓gxPre, gxPost, ↓reduceIte, Nat.reduceEqDiff, reduceCtorEq, Nat.reduceAdd]
    simp [validPairF, hf]
  simp (disch := first | assumption | omega | rfl | (refine id ?_; simp only [gxD, ne_eq, reduceCtorEq, not_false_eq_true, Nat.reduceAdd, *]; done) | (refine id ?_; simp only [gxD]; omega)) only [↓gxPre, gxPost, ↓reduceIte, Nat.reduceEqDiff, reduceCtorEq, Nat.reduceAdd]
  refine loop_forH (xs.length / 2) (fun j => [.pointer (some ⟨h, 0, some 1⟩), .int .i64 xs.length, .int .i64 ((2 * j : Nat) : Int)]) (fun j H' => H = H' ∧ ∀ i, i < j → chkP xs i = true) (by simp) ⟨rfl, by intros; omega⟩ ?_ ?_
  · rintro _ ⟨rfl, hJ⟩
    have h5 : ¬ (((2 * (xs.length / 2) : Nat) : Int) < xs.length) := by omega
    simp (disch := first | assumption | omega | rfl | (refine id ?_; simp only [gxD, ne_eq, reduceCtorEq, not_false_eq_true, Nat.reduceAdd, *]; done) | (refine id ?_; simp only [gxD]; omega)) only [↓gxPre, gxPost, ↓reduceIte, Nat.reduceEqDiff, reduceCtorEq, Nat.reduceAdd, *]
    simp [validPairF, h2, h3, hf]
    exact hJ
  · rintro j _ hj ⟨rfl, hJ⟩
    have h5 : ((2 * j : Nat) : Int) < xs.length := by omega
    simp (disch := first | assumption | omega | rfl | (refine id ?_; simp only [gxD, ne_eq, reduceCtorEq, not_false_eq_true, Nat.reduceAdd, *]; done) | (refine id ?_; simp only [gxD]; omega)) only [↓gxPre, gxPost, ↓reduceIte, Nat.reduceEqDiff, reduceCtorEq, Nat.reduceAdd, *]
    refine loop_for (xs.length - 2 * j) (fun k => [.pointer (some ⟨h, 0, some 1⟩), .int .i64 xs.length, .int .i64 ((2 * j : Nat) : Int), .float .f32 (corrK xs (2 * j) k), .int .i64 k]) (by simp [corrK, foldI_zero]) ?_ ?_
    · have h6 : ¬ (((xs.length - 2 * j : Nat) : Int) + ((2 * j : Nat) : Int) < xs.length) := by omega
      by_cases h7 : j = 0
      · subst h7
        ((try simp (disch := first | assumption | omega | rfl | (refine id ?_; simp only [gxD, ne_eq, reduceCtorEq, not_false_eq_true, Nat.reduceAdd, *]; done) | (refine id ?_; simp only [gxD]; omega)) only [↓gxPre, gxPost, ↓reduceIte, Nat.reduceEqDiff, reduceCtorEq, Nat.reduceAdd, hv.len, *]); repeat' (first | (refine grdR_split (fun _ => ?_) (fun _ => ?_) <;> simp (disch := first | assumption | omega | rfl | (refine id ?_; simp only [gxD, ne_eq, reduceCtorEq, not_false_eq_true, Nat.reduceAdd, *]; done) | (refine id ?_; simp only [gxD]; omega)) only [↓gxPre, gxPost, ↓reduceIte, Nat.reduceEqDiff, reduceCtorEq, Nat.reduceAdd, hv.len, *]) | (refine condR_split (fun _ => ?_) (fun _ => ?_) <;> simp (disch := first | assumption | omega | rfl | (refine id ?_; simp only [gxD, ne_eq, reduceCtorEq, not_false_eq_true, Nat.reduceAdd, *]; done) | (refine id ?_; simp only [gxD]; omega)) only [↓gxPre, gxPost, ↓reduceIte, Nat.reduceEqDiff, reduceCtorEq, Nat.reduceAdd, hv.len, *])))
        · rw [vp_false hj (by simp_all [chkP, okSum])]
        · exact ⟨by simp, Nat.forall_lt_succ_right.2 ⟨hJ, by simp_all [chkP, okSum]⟩⟩
        · rw [vp_false hj (by simp_all [chkP, okSum])]
      · have h8 : ¬ (((2 * j : Nat) : Int) = 0) := by omega
        ((try simp (disch := first | assumption | omega | rfl | (refine id ?_; simp only [gxD, ne_eq, reduceCtorEq, not_false_eq_true, Nat.reduceAdd, *]; done) | (refine id ?_; simp only [gxD]; omega)) only [↓gxPre, gxPost, ↓reduceIte, Nat.reduceEqDiff, reduceCtorEq, Nat.reduceAdd, hv.len, *]); repeat' (first | (refine grdR_split (fun _ => ?_) (fun _ => ?_) <;> simp (disch := first | assumption | omega | rfl | (refine id ?_; simp only [gxD, ne_eq, reduceCtorEq, not_false_eq_true, Nat.reduceAdd, *]; done) | (refine id ?_; simp only [gxD]; omega)) only [↓gxPre, gxPost, ↓reduceIte, Nat.reduceEqDiff, reduceCtorEq, Nat.reduceAdd, hv.len, *]) | (refine condR_split (fun _ => ?_) (fun _ => ?_) <;> simp (disch := first | assumption | omega | rfl | (refine id ?_; simp only [gxD, ne_eq, reduceCtorEq, not_false_eq_true, Nat.reduceAdd, *]; done) | (refine id ?_; simp only [gxD]; omega)) only [↓gxPre, gxPost, ↓reduceIte, Nat.reduceEqDiff, reduceCtorEq, Nat.reduceAdd, hv.len, *])))
        · rw [vp_false hj (by simp_all [chkP, okSum])]
        · exact ⟨by simp; omega, Nat.forall_lt_succ_right.2 ⟨hJ, by simp_all [chkP, okSum]⟩⟩
        · rw [vp_false hj (by simp_all [chkP, okSum])]
    · intro k hk
      have h6 : ((k : Int) + ((2 * j : Nat) : Int) < xs.length) := by omega
      have h9 : (((k : Int) + ((2 * j : Nat) : Int)).toNat) = k + 2 * j := by omega
      simp (disch := first | assumption | omega | rfl | (refine id ?_; simp only [gxD, ne_eq, reduceCtorEq, not_false_eq_true, Nat.reduceAdd, *]; done) | (refine id ?_; simp only [gxD]; omega)) only [↓gxPre, gxPost, ↓reduceIte, Nat.reduceEqDiff, reduceCtorEq, Nat.reduceAdd, *, hv.ia, hv.ld]
      simp [corrK, foldI_succ]
end Go.Proofs.Ytddekdgggpifmaa

namespace Go.Proofs.Ytddekdgggpifmaa
open Go.Gx
set_option maxRecDepth 100000
set_option linter.unusedSimpArgs false
set_option linter.unusedVariables false

theorem s_l02Number_ok {H : Heap} {x : Nat} : ACalls Try.prog n_s_l02Number [.float .f32 x] H fun r H' => r = numV x ∧ H' = H := by
  refine k_s_l02Number.run rfl ?_
  unfold c_s_l02Number
  simp (disch := first | assumption | omega | rfl | (refine id ?_; simp only [gxD, ne_eq, reduceCtorEq, not_false_eq_true, Nat.reduceAdd, *]; done) | (refine id ?_; simp only [gxD]; omega)) only [↓gxPre, gxPost, ↓reduceIte, Nat.reduceEqDiff, reduceCtorEq, Nat.reduceAdd]
  refine callR_pure s_l01Finite_ok (.inl rfl) ?_
  cases h : finF x
  · simp (disch := first | assumption | omega | rfl | (refine id ?_; simp only [gxD, ne_eq, reduceCtorEq, not_false_eq_true, Nat.reduceAdd, *]; done) | (refine id ?_; simp only [gxD]; omega)) only [↓gxPre, gxPost, ↓reduceIte, Nat.reduceEqDiff, reduceCtorEq, Nat.reduceAdd]
    simp [numV, h]
  · simp (disch := first | assumption | omega | rfl | (refine id ?_; simp only [gxD, ne_eq, reduceCtorEq, not_false_eq_true, Nat.reduceAdd, *]; done) | (refine id ?_; simp only [gxD]; omega)) only [↓gxPre, gxPost, ↓reduceIte, Nat.reduceEqDiff, reduceCtorEq, Nat.reduceAdd]
    simp [numV, h]
theorem i_finite_ok {H : Heap} {x : Nat} : ACalls Try.prog n_i_finite [.float .f32 x] H fun r H' => r = numV x ∧ H' = H := by
  refine k_i_finite.run rfl ?_
  unfold c_i_finite
  simp (disch := first | assumption | omega | rfl | (refine id ?_; simp only [gxD, ne_eq, reduceCtorEq, not_false_eq_true, Nat.reduceAdd, *]; done) | (refine id ?_; simp only [gxD]; omega)) only [↓gxPre, gxPost, ↓reduceIte, Nat.reduceEqDiff, reduceCtorEq, Nat.reduceAdd]
  refine callR_pure i_IsFinite_ok (.inl rfl) ?_
  cases h : finF x
  · simp (disch := first | assumption | omega | rfl | (refine id ?_; simp only [gxD, ne_eq, reduceCtorEq, not_false_eq_true, Nat.reduceAdd, *]; done) | (refine id ?_; simp only [gxD]; omega)) only [↓gxPre, gxPost, ↓reduceIte, Nat.reduceEqDiff, reduceCtorEq, Nat.reduceAdd]
    simp [numV, h]
  · simp (disch := first | assumption | omega | rfl | (refine id ?_; simp only [gxD, ne_eq, reduceCtorEq, not_false_eq_true, Nat.reduceAdd, *]; done) | (refine id ?_; simp only [gxD]; omega)) only [↓gxPre, gxPost, ↓reduceIte, Nat.reduceEqDiff, reduceCtorEq, Nat.reduceAdd]
    simp [numV, h]
theorem s_l03Size_ok {H : Heap} {x : Nat} (hx : x < 2 ^ 32) : ACalls Try.prog n_s_l03Size [.float .f32 x] H fun r H' => r = .float .f32 (sizeF x) ∧ H' = H := by
  refine k_s_l03Size.run rfl ?_
  unfold c_s_l03Size
  rw [← size_same hx]
  ((try simp (disch := first | assumption | omega | rfl | (refine id ?_; simp only [gxD, ne_eq, reduceCtorEq, not_false_eq_true, Nat.reduceAdd, *]; done) | (refine id ?_; simp only [gxD]; omega)) only [↓gxPre, gxPost, ↓reduceIte, Nat.reduceEqDiff, reduceCtorEq, Nat.reduceAdd, *]); repeat' (first | (refine grdR_split (fun _ => ?_) (fun _ => ?_) <;> simp (disch := first | assumption | omega | rfl | (refine id ?_; simp only [gxD, ne_eq, reduceCtorEq, not_false_eq_true, Nat.reduceAdd, *]; done) | (refine id ?_; simp only [gxD]; omega)) only [↓gxPre, gxPost, ↓reduceIte, Nat.reduceEqDiff, reduceCtorEq, Nat.reduceAdd, *]) | (refine condR_split (fun _ => ?_) (fun _ => ?_) <;> simp (disch := first | assumption | omega | rfl | (refine id ?_; simp only [gxD, ne_eq, reduceCtorEq, not_false_eq_true, Nat.reduceAdd, *]; done) | (refine id ?_; simp only [gxD]; omega)) only [↓gxPre, gxPost, ↓reduceIte, Nat.reduceEqDiff, reduceCtorEq, Nat.reduceAdd, *])))
  all_goals simp_all [sizeS]
theorem s_l03Maxima_ok {H : Heap} {v : Value} {xs : List Nat} (hv : FS H v xs) (hn : xs.length ≤ 2 ^ 40) (hw : W32 xs) :
    ACalls Try.prog n_s_l03Maxima [v] H fun r H' => Ext H H' ∧ ∃ h, H.n ≤ h ∧ h < H'.n ∧ r = .slice (some ⟨h, 0, none⟩) (maximaL xs xs.length).length (maximaL xs xs.length).length ∧ H'.blk h = some ⟨true, t_int64, (maximaL xs xs.length).map iv⟩ := by
  refine k_s_l03Maxima.run rfl ?_
  unfold c_s_l03Maxima
  simp (disch := first | assumption | omega | rfl | (refine id ?_; simp only [gxD, ne_eq, reduceCtorEq, not_false_eq_true, Nat.reduceAdd, *]; done) | (refine id ?_; simp only [gxD]; omega)) only [↓gxPre, gxPost, ↓reduceIte, Nat.reduceEqDiff, reduceCtorEq, Nat.reduceAdd, hv.len]
  refine loop_forH xs.length (fun i => [v, .slice (some ⟨H.n, 0, none⟩) (maximaL xs i).length (maximaL xs i).length, .int .i64 xs.length, .int .i64 i]) (fun i H' => H.n + 1 ≤ H'.n ∧ H'.blk H.n = some ⟨true, t_int64, (maximaL xs i).map iv⟩ ∧ ∀ k, k < H.n → H'.blk k = H.blk k) rfl ⟨by simp only [new_n]; omega, by simp (disch := first | assumption | omega | rfl | (refine id ?_; simp only [gxD, ne_eq, reduceCtorEq, not_false_eq_true, Nat.reduceAdd, *]; done) | (refine id ?_; simp only [gxD]; omega)) only [↓gxPre, gxPost, ↓reduceIte, Nat.reduceEqDiff, reduceCtorEq, Nat.reduceAdd, maximaL_zero, List.map_nil], fun k hk => by simp (disch := first | assumption | omega | rfl | (refine id ?_; simp only [gxD, ne_eq, reduceCtorEq, not_false_eq_true, Nat.reduceAdd, *]; done) | (refine id ?_; simp only [gxD]; omega)) only [↓gxPre, gxPost, ↓reduceIte, Nat.reduceEqDiff, reduceCtorEq, Nat.reduceAdd]⟩ ?_ ?_
  · rintro G ⟨g1, g2, g3⟩
    simp (disch := first | assumption | omega | rfl | (refine id ?_; simp only [gxD, ne_eq, reduceCtorEq, not_false_eq_true, Nat.reduceAdd, *]; done) | (refine id ?_; simp only [gxD]; omega)) only [↓gxPre, gxPost, ↓reduceIte, Nat.reduceEqDiff, reduceCtorEq, Nat.reduceAdd, Int.lt_irrefl]
    exact ⟨⟨by omega, g3⟩, H.n, by omega, by omega, rfl, g2⟩
  · rintro i G hi ⟨g1, g2, g3⟩
    have hu : FS G v xs := hv.ext ⟨by omega, g3⟩
    have hlen := maximaL_len xs i
    have e0 : i = 0 ∨ 0 < i := by omega
    have e1 : (((i : Int) - 1).toNat) = i - 1 := by omega
    have e2 : (((i : Int) + 1).toNat) = i + 1 := by omega
    ((try simp (disch := first | assumption | omega | rfl | (refine id ?_; simp only [gxD, ne_eq, reduceCtorEq, not_false_eq_true, Nat.reduceAdd, *]; done) | (refine id ?_; simp only [gxD]; omega)) only [↓gxPre, gxPost, ↓reduceIte, Nat.reduceEqDiff, reduceCtorEq, Nat.reduceAdd, hi, hv.len, hu.len, hu.ia, hu.ld, *]); repeat' (first | (refine grdR_splitE (fun _ _ => ?_) (fun _ => ?_) <;> simp (disch := first | assumption | omega | rfl | (refine id ?_; simp only [gxD, ne_eq, reduceCtorEq, not_false_eq_true, Nat.reduceAdd, *]; done) | (refine id ?_; simp only [gxD]; omega)) only [↓gxPre, gxPost, ↓reduceIte, Nat.reduceEqDiff, reduceCtorEq, Nat.reduceAdd, hi, hv.len, hu.len, hu.ia, hu.ld, *]) | (refine condR_splitE (fun _ _ => ?_) (fun _ => ?_) <;> simp (disch := first | assumption | omega | rfl | (refine id ?_; simp only [gxD, ne_eq, reduceCtorEq, not_false_eq_true, Nat.reduceAdd, *]; done) | (refine id ?_; simp only [gxD]; omega)) only [↓gxPre, gxPost, ↓reduceIte, Nat.reduceEqDiff, reduceCtorEq, Nat.reduceAdd, hi, hv.len, hu.len, hu.ia, hu.ld, *]) | (refine grdR_splitD (fun _ => ?_) (fun _ => ?_) <;> simp (disch := first | assumption | omega | rfl | (refine id ?_; simp only [gxD, ne_eq, reduceCtorEq, not_false_eq_true, Nat.reduceAdd, *]; done) | (refine id ?_; simp only [gxD]; omega)) only [↓gxPre, gxPost, ↓reduceIte, Nat.reduceEqDiff, reduceCtorEq, Nat.reduceAdd, hi, hv.len, hu.len, hu.ia, hu.ld, *]) | (refine condR_splitD (fun _ => ?_) (fun _ => ?_) <;> simp (disch := first | assumption | omega | rfl | (refine id ?_; simp only [gxD, ne_eq, reduceCtorEq, not_false_eq_true, Nat.reduceAdd, *]; done) | (refine id ?_; simp only [gxD]; omega)) only [↓gxPre, gxPost, ↓reduceIte, Nat.reduceEqDiff, reduceCtorEq, Nat.reduceAdd, hi, hv.len, hu.len, hu.ia, hu.ld, *]) | (refine grdR_split (fun _ => ?_) (fun _ => ?_) <;> simp (disch := first | assumption | omega | rfl | (refine id ?_; simp only [gxD, ne_eq, reduceCtorEq, not_false_eq_true, Nat.reduceAdd, *]; done) | (refine id ?_; simp only [gxD]; omega)) only [↓gxPre, gxPost, ↓reduceIte, Nat.reduceEqDiff, reduceCtorEq, Nat.reduceAdd, hi, hv.len, hu.len, hu.ia, hu.ld, *]) | (refine condR_split (fun _ => ?_) (fun _ => ?_) <;> simp (disch := first | assumption | omega | rfl | (refine id ?_; simp only [gxD, ne_eq, reduceCtorEq, not_false_eq_true, Nat.reduceAdd, *]; done) | (refine id ?_; simp only [gxD]; omega)) only [↓gxPre, gxPost, ↓reduceIte, Nat.reduceEqDiff, reduceCtorEq, Nat.reduceAdd, hi, hv.len, hu.len, hu.ia, hu.ld, *]) | (refine callR_pure (s_l03Size_ok (hw.get _)) (by first | exact Or.inl rfl | (simp (disch := first | assumption | omega | rfl | (refine id ?_; simp only [gxD, ne_eq, reduceCtorEq, not_false_eq_true, Nat.reduceAdd, *]; done) | (refine id ?_; simp only [gxD]; omega)) only [↓gxPre, gxPost, ↓reduceIte, Nat.reduceEqDiff, reduceCtorEq, Nat.reduceAdd, hi, hv.len, hu.len, hu.ia, hu.ld, *]; done)) ?_; simp (disch := first | assumption | omega | rfl | (refine id ?_; simp only [gxD, ne_eq, reduceCtorEq, not_false_eq_true, Nat.reduceAdd, *]; done) | (refine id ?_; simp only [gxD]; omega)) only [↓gxPre, gxPost, ↓reduceIte, Nat.reduceEqDiff, reduceCtorEq, Nat.reduceAdd, hi, hv.len, hu.len, hu.ia, hu.ld, *])))
    all_goals first
      | (have hm : maxAt xs i = true := by
           unfold maxAt
           simp only [*, Bool.true_and, Bool.and_eq_true, Bool.or_eq_true, decide_eq_true_eq, and_true, true_and, or_true, true_or, and_self]
           first | done | exact ⟨Or.inl (by omega), Or.inl (by omega)⟩ | exact Or.inl (by omega) | (refine ⟨?_, ?_⟩ <;> first | trivial | exact Or.inl (by omega) | assumption)
         rw [maximaL_yes hm]
         refine ⟨by simp, by omega, by simp [iv], fun k hk => ?_⟩
         simp (disch := first | assumption | omega | rfl | (refine id ?_; simp only [gxD, ne_eq, reduceCtorEq, not_false_eq_true, Nat.reduceAdd, *]; done) | (refine id ?_; simp only [gxD]; omega)) only [↓gxPre, gxPost, ↓reduceIte, Nat.reduceEqDiff, reduceCtorEq, Nat.reduceAdd, *])
      | (have hm : maxAt xs i = false := by
           unfold maxAt
           have z0 : ¬ (i : Int) = 0 → decide (i = 0) = false := fun h => decide_eq_false (by omega)
           have z1 : ¬ (i : Int) + 1 = xs.length → decide (i + 1 = xs.length) = false := fun h => decide_eq_false (by omega)
           simp only [*, not_false_eq_true, forall_const, Bool.false_and, Bool.and_false, Bool.true_and, Bool.false_or, Bool.or_false]
         rw [maximaL_no hm]
         exact ⟨by simp, rfl, g3⟩)
theorem i_maximaOf_ok {H : Heap} {v : Value} {xs : List Nat} (hv : FS H v xs) (hn : xs.length ≤ 2 ^ 40) (hw : W32 xs) :
    ACalls Try.prog n_i_maximaOf [v] H fun r H' => Ext H H' ∧ ∃ h, H.n ≤ h ∧ h < H'.n ∧ r = .slice (some ⟨h, 0, none⟩) (maximaL xs xs.length).length (maximaL xs xs.length).length ∧ H'.blk h = some ⟨true, t_int64, (maximaL xs xs.length).map iv⟩ := by
  refine k_i_maximaOf.run rfl ?_
  unfold c_i_maximaOf
  simp (disch := first | assumption | omega | rfl | (refine id ?_; simp only [gxD, ne_eq, reduceCtorEq, not_false_eq_true, Nat.reduceAdd, *]; done) | (refine id ?_; simp only [gxD]; omega)) only [↓gxPre, gxPost, ↓reduceIte, Nat.reduceEqDiff, reduceCtorEq, Nat.reduceAdd, hv.len]
  refine loop_forH xs.length (fun i => [v, .slice (some ⟨H.n, 0, none⟩) (maximaL xs i).length (maximaL xs i).length, v, .int .i64 xs.length, .int .i64 i]) (fun i H' => H.n + 1 ≤ H'.n ∧ H'.blk H.n = some ⟨true, t_int64, (maximaL xs i).map iv⟩ ∧ ∀ k, k < H.n → H'.blk k = H.blk k) rfl ⟨by simp only [new_n]; omega, by simp (disch := first | assumption | omega | rfl | (refine id ?_; simp only [gxD, ne_eq, reduceCtorEq, not_false_eq_true, Nat.reduceAdd, *]; done) | (refine id ?_; simp only [gxD]; omega)) only [↓gxPre, gxPost, ↓reduceIte, Nat.reduceEqDiff, reduceCtorEq, Nat.reduceAdd, maximaL_zero, List.map_nil], fun k hk => by simp (disch := first | assumption | omega | rfl | (refine id ?_; simp only [gxD, ne_eq, reduceCtorEq, not_false_eq_true, Nat.reduceAdd, *]; done) | (refine id ?_; simp only [gxD]; omega)) only [↓gxPre, gxPost, ↓reduceIte, Nat.reduceEqDiff, reduceCtorEq, Nat.reduceAdd]⟩ ?_ ?_
  · rintro G ⟨g1, g2, g3⟩
    simp (disch := first | assumption | omega | rfl | (refine id ?_; simp only [gxD, ne_eq, reduceCtorEq, not_false_eq_true, Nat.reduceAdd, *]; done) | (refine id ?_; simp only [gxD]; omega)) only [↓gxPre, gxPost, ↓reduceIte, Nat.reduceEqDiff, reduceCtorEq, Nat.reduceAdd, Int.lt_irrefl]
    exact ⟨⟨by omega, g3⟩, H.n, by omega, by omega, rfl, g2⟩
  · rintro i G hi ⟨g1, g2, g3⟩
    have hu : FS G v xs := hv.ext ⟨by omega, g3⟩
    have hlen := maximaL_len xs i
    have e0 : i = 0 ∨ 0 < i := by omega
    have e1 : (((i : Int) - 1).toNat) = i - 1 := by omega
    have e2 : (((i : Int) + 1).toNat) = i + 1 := by omega
    ((try simp (disch := first | assumption | omega | rfl | (refine id ?_; simp only [gxD, ne_eq, reduceCtorEq, not_false_eq_true, Nat.reduceAdd, *]; done) | (refine id ?_; simp only [gxD]; omega)) only [↓gxPre, gxPost, ↓reduceIte, Nat.reduceEqDiff, reduceCtorEq, Nat.reduceAdd, hi, hv.len, hu.len, hu.ia, hu.ld, *]); repeat' (first | (refine grdR_splitE (fun _ _ => ?_) (fun _ => ?_) <;> simp (disch := first | assumption | omega | rfl | (refine id ?_; simp only [gxD, ne_eq, reduceCtorEq, not_false_eq_true, Nat.reduceAdd, *]; done) | (refine id ?_; simp only [gxD]; omega)) only [↓gxPre, gxPost, ↓reduceIte, Nat.reduceEqDiff, reduceCtorEq, Nat.reduceAdd, hi, hv.len, hu.len, hu.ia, hu.ld, *]) | (refine condR_splitE (fun _ _ => ?_) (fun _ => ?_) <;> simp (disch := first | assumption | omega | rfl | (refine id ?_; simp only [gxD, ne_eq, reduceCtorEq, not_false_eq_true, Nat.reduceAdd, *]; done) | (refine id ?_; simp only [gxD]; omega)) only [↓gxPre, gxPost, ↓reduceIte, Nat.reduceEqDiff, reduceCtorEq, Nat.reduceAdd, hi, hv.len, hu.len, hu.ia, hu.ld, *]) | (refine grdR_splitD (fun _ => ?_) (fun _ => ?_) <;> simp (disch := first | assumption | omega | rfl | (refine id ?_; simp only [gxD, ne_eq, reduceCtorEq, not_false_eq_true, Nat.reduceAdd, *]; done) | (refine id ?_; simp only [gxD]; omega)) only [↓gxPre, gxPost, ↓reduceIte, Nat.reduceEqDiff, reduceCtorEq, Nat.reduceAdd, hi, hv.len, hu.len, hu.ia, hu.ld, *]) | (refine condR_splitD (fun _ => ?_) (fun _ => ?_) <;> simp (disch := first | assumption | omega | rfl | (refine id ?_; simp only [gxD, ne_eq, reduceCtorEq, not_false_eq_true, Nat.reduceAdd, *]; done) | (refine id ?_; simp only [gxD]; omega)) only [↓gxPre, gxPost, ↓reduceIte, Nat.reduceEqDiff, reduceCtorEq, Nat.reduceAdd, hi, hv.len, hu.len, hu.ia, hu.ld, *]) | (refine grdR_split (fun _ => ?_) (fun _ => ?_) <;> simp (disch := first | assumption | omega | rfl | (refine id ?_; simp only [gxD, ne_eq, reduceCtorEq, not_false_eq_true, Nat.reduceAdd, *]; done) | (refine id ?_; simp only [gxD]; omega)) only [↓gxPre, gxPost, ↓reduceIte, Nat.reduceEqDiff, reduceCtorEq, Nat.reduceAdd, hi, hv.len, hu.len, hu.ia, hu.ld, *]) | (refine condR_split (fun _ => ?_) (fun _ => ?_) <;> simp (disch := first | assumption | omega | rfl | (refine id ?_; simp only [gxD, ne_eq, reduceCtorEq, not_false_eq_true, Nat.reduceAdd, *]; done) | (refine id ?_; simp only [gxD]; omega)) only [↓gxPre, gxPost, ↓reduceIte, Nat.reduceEqDiff, reduceCtorEq, Nat.reduceAdd, hi, hv.len, hu.len, hu.ia, hu.ld, *]) | (refine callR_pure (i_size_ok) (by first | exact Or.inl rfl | (simp (disch := first | assumption | omega | rfl | (refine id ?_; simp only [gxD, ne_eq, reduceCtorEq, not_false_eq_true, Nat.reduceAdd, *]; done) | (refine id ?_; simp only [gxD]; omega)) only [↓gxPre, gxPost, ↓reduceIte, Nat.reduceEqDiff, reduceCtorEq, Nat.reduceAdd, hi, hv.len, hu.len, hu.ia, hu.ld, *]; done)) ?_; simp (disch := first | assumption | omega | rfl | (refine id ?_; simp only [gxD, ne_eq, reduceCtorEq, not_false_eq_true, Nat.reduceAdd, *]; done) | (refine id ?_; simp only [gxD]; omega)) only [↓gxPre, gxPost, ↓reduceIte, Nat.reduceEqDiff, reduceCtorEq, Nat.reduceAdd, hi, hv.len, hu.len, hu.ia, hu.ld, *])))
    all_goals first
      | (have hm : maxAt xs i = true := by
           unfold maxAt
           simp only [*, Bool.true_and, Bool.and_eq_true, Bool.or_eq_true, decide_eq_true_eq, and_true, true_and, or_true, true_or, and_self]
           first | done | exact ⟨Or.inl (by omega), Or.inl (by omega)⟩ | exact Or.inl (by omega) | (refine ⟨?_, ?_⟩ <;> first | trivial | exact Or.inl (by omega) | assumption)
         rw [maximaL_yes hm]
         refine ⟨by simp, by omega, by simp [iv], fun k hk => ?_⟩
         simp (disch := first | assumption | omega | rfl | (refine id ?_; simp only [gxD, ne_eq, reduceCtorEq, not_false_eq_true, Nat.reduceAdd, *]; done) | (refine id ?_; simp only [gxD]; omega)) only [↓gxPre, gxPost, ↓reduceIte, Nat.reduceEqDiff, reduceCtorEq, Nat.reduceAdd, *])
      | (have hm : maxAt xs i = false := by
           unfold maxAt
           have z0 : ¬ (i : Int) = 0 → decide (i = 0) = false := fun h => decide_eq_false (by omega)
           have z1 : ¬ (i : Int) + 1 = xs.length → decide (i + 1 = xs.length) = false := fun h => decide_eq_false (by omega)
           simp only [*, not_false_eq_true, forall_const, Bool.false_and, Bool.and_false, Bool.true_and, Bool.false_or, Bool.or_false]
         rw [maximaL_no hm]
         exact ⟨by simp, rfl, g3⟩)
end Go.Proofs.Ytddekdgggpifmaa

namespace Go.Proofs.Ytddekdgggpifmaa
open Go.Gx
set_option maxRecDepth 100000
set_option linter.unusedSimpArgs false
set_option linter.unusedVariables false

theorem s_l03Long_ok {H : Heap} {v : Value} {xs : List Nat} (hv : FS H v xs) (hn : xs.length ≤ 2 ^ 40) : ACalls Try.prog n_s_l03Long [v] H fun r H' => r = .bool (isLongF xs) ∧ H' = H := by
  refine k_s_l03Long.run rfl ?_
  unfold c_s_l03Long
  ((try simp (disch := first | assumption | omega | rfl | (refine id ?_; simp only [gxD, ne_eq, reduceCtorEq, not_false_eq_true, Nat.reduceAdd, *]; done) | (refine id ?_; simp only [gxD]; omega)) only [↓gxPre, gxPost, ↓reduceIte, Nat.reduceEqDiff, reduceCtorEq, Nat.reduceAdd, hv.len, *]); repeat' (first | (refine grdR_split (fun _ => ?_) (fun _ => ?_) <;> simp (disch := first | assumption | omega | rfl | (refine id ?_; simp only [gxD, ne_eq, reduceCtorEq, not_false_eq_true, Nat.reduceAdd, *]; done) | (refine id ?_; simp only [gxD]; omega)) only [↓gxPre, gxPost, ↓reduceIte, Nat.reduceEqDiff, reduceCtorEq, Nat.reduceAdd, hv.len, *]) | (refine condR_split (fun _ => ?_) (fun _ => ?_) <;> simp (disch := first | assumption | omega | rfl | (refine id ?_; simp only [gxD, ne_eq, reduceCtorEq, not_false_eq_true, Nat.reduceAdd, *]; done) | (refine id ?_; simp only [gxD]; omega)) only [↓gxPre, gxPost, ↓reduceIte, Nat.reduceEqDiff, reduceCtorEq, Nat.reduceAdd, hv.len, *]) | (refine callR_pure (s_l02Finite_ok hv hn) (by first | exact Or.inl rfl | (simp (disch := first | assumption | omega | rfl | (refine id ?_; simp only [gxD, ne_eq, reduceCtorEq, not_false_eq_true, Nat.reduceAdd, *]; done) | (refine id ?_; simp only [gxD]; omega)) only [↓gxPre, gxPost, ↓reduceIte, Nat.reduceEqDiff, reduceCtorEq, Nat.reduceAdd, hv.len, *]; done)) ?_; simp (disch := first | assumption | omega | rfl | (refine id ?_; simp only [gxD, ne_eq, reduceCtorEq, not_false_eq_true, Nat.reduceAdd, *]; done) | (refine id ?_; simp only [gxD]; omega)) only [↓gxPre, gxPost, ↓reduceIte, Nat.reduceEqDiff, reduceCtorEq, Nat.reduceAdd, hv.len, *])))
  all_goals (simp_all [isLongF, within]; try omega)
theorem i_isLong_ok {H : Heap} {v : Value} {xs : List Nat} (hv : FS H v xs) (hn : xs.length ≤ 2 ^ 40) : ACalls Try.prog n_i_isLong [v] H fun r H' => r = .bool (isLongF xs) ∧ Ext H H' := by
  refine k_i_isLong.run rfl ?_
  unfold c_i_isLong
  have hv1 := hv.one
  ((try simp (disch := first | assumption | omega | rfl | (refine id ?_; simp only [gxD, ne_eq, reduceCtorEq, not_false_eq_true, Nat.reduceAdd, *]; done) | (refine id ?_; simp only [gxD]; omega)) only [↓gxPre, gxPost, ↓reduceIte, Nat.reduceEqDiff, reduceCtorEq, Nat.reduceAdd, hv.len, *]); repeat' (first | (refine grdR_split (fun _ => ?_) (fun _ => ?_) <;> simp (disch := first | assumption | omega | rfl | (refine id ?_; simp only [gxD, ne_eq, reduceCtorEq, not_false_eq_true, Nat.reduceAdd, *]; done) | (refine id ?_; simp only [gxD]; omega)) only [↓gxPre, gxPost, ↓reduceIte, Nat.reduceEqDiff, reduceCtorEq, Nat.reduceAdd, hv.len, *]) | (refine condR_split (fun _ => ?_) (fun _ => ?_) <;> simp (disch := first | assumption | omega | rfl | (refine id ?_; simp only [gxD, ne_eq, reduceCtorEq, not_false_eq_true, Nat.reduceAdd, *]; done) | (refine id ?_; simp only [gxD]; omega)) only [↓gxPre, gxPost, ↓reduceIte, Nat.reduceEqDiff, reduceCtorEq, Nat.reduceAdd, hv.len, *]) | (refine callR_pure (i_within_ok) (by first | exact Or.inl rfl | (simp (disch := first | assumption | omega | rfl | (refine id ?_; simp only [gxD, ne_eq, reduceCtorEq, not_false_eq_true, Nat.reduceAdd, *]; done) | (refine id ?_; simp only [gxD]; omega)) only [↓gxPre, gxPost, ↓reduceIte, Nat.reduceEqDiff, reduceCtorEq, Nat.reduceAdd, hv.len, *]; done)) ?_; simp (disch := first | assumption | omega | rfl | (refine id ?_; simp only [gxD, ne_eq, reduceCtorEq, not_false_eq_true, Nat.reduceAdd, *]; done) | (refine id ?_; simp only [gxD]; omega)) only [↓gxPre, gxPost, ↓reduceIte, Nat.reduceEqDiff, reduceCtorEq, Nat.reduceAdd, hv.len, *]) | (refine callR_pure (i_areFinite1_ok (by simp (disch := first | assumption | omega | rfl | (refine id ?_; simp only [gxD, ne_eq, reduceCtorEq, not_false_eq_true, Nat.reduceAdd, *]; done) | (refine id ?_; simp only [gxD]; omega)) only [↓gxPre, gxPost, ↓reduceIte, Nat.reduceEqDiff, reduceCtorEq, Nat.reduceAdd, *]; rfl) (by first | omega | (simp only [new_n, put_n]; omega)) (hv.ext ⟨by first | omega | (simp only [new_n, put_n]; omega) | (simp only [new_n, put_n] at *; omega), fun i hi => by simp (disch := first | assumption | omega | rfl | (refine id ?_; simp only [gxD, ne_eq, reduceCtorEq, not_false_eq_true, Nat.reduceAdd, *]; done) | (refine id ?_; simp only [gxD]; omega)) only [↓gxPre, gxPost, ↓reduceIte, Nat.reduceEqDiff, reduceCtorEq, Nat.reduceAdd, *]⟩) hn) (by first | exact Or.inl rfl | (simp (disch := first | assumption | omega | rfl | (refine id ?_; simp only [gxD, ne_eq, reduceCtorEq, not_false_eq_true, Nat.reduceAdd, *]; done) | (refine id ?_; simp only [gxD]; omega)) only [↓gxPre, gxPost, ↓reduceIte, Nat.reduceEqDiff, reduceCtorEq, Nat.reduceAdd, hv.len, *]; done)) ?_; simp (disch := first | assumption | omega | rfl | (refine id ?_; simp only [gxD, ne_eq, reduceCtorEq, not_false_eq_true, Nat.reduceAdd, *]; done) | (refine id ?_; simp only [gxD]; omega)) only [↓gxPre, gxPost, ↓reduceIte, Nat.reduceEqDiff, reduceCtorEq, Nat.reduceAdd, hv.len, *])))
  all_goals exact ⟨by simp_all [isLongF], ⟨by first | omega | (simp only [new_n, put_n]; omega) | (simp only [new_n, put_n] at *; omega), fun i hi => by simp (disch := first | assumption | omega | rfl | (refine id ?_; simp only [gxD, ne_eq, reduceCtorEq, not_false_eq_true, Nat.reduceAdd, *]; done) | (refine id ?_; simp only [gxD]; omega)) only [↓gxPre, gxPost, ↓reduceIte, Nat.reduceEqDiff, reduceCtorEq, Nat.reduceAdd, *]⟩⟩
theorem i_MaximaOf_no {H : Heap} {v : Value} {xs : List Nat} (hv : FS H v xs) (hn : xs.length ≤ 2 ^ 40) (hl : isLongF xs = false) :
    ACalls Try.prog n_i_MaximaOf [v] H fun r H' => r = .tuple #[.slice none 0 0, .bool false] ∧ Ext H H' := by
  refine k_i_MaximaOf.run rfl ?_
  unfold c_i_MaximaOf
  simp (disch := first | assumption | omega | rfl | (refine id ?_; simp only [gxD, ne_eq, reduceCtorEq, not_false_eq_true, Nat.reduceAdd, *]; done) | (refine id ?_; simp only [gxD]; omega)) only [↓gxPre, gxPost, ↓reduceIte, Nat.reduceEqDiff, reduceCtorEq, Nat.reduceAdd]
  refine callR_ext (i_isLong_ok hv hn) ?_
  intro H1 n1 b1
  try simp only [new_n, put_n] at n1 b1
  simp (disch := first | assumption | omega | rfl | (refine id ?_; simp only [gxD, ne_eq, reduceCtorEq, not_false_eq_true, Nat.reduceAdd, *]; done) | (refine id ?_; simp only [gxD]; omega)) only [↓gxPre, gxPost, ↓reduceIte, Nat.reduceEqDiff, reduceCtorEq, Nat.reduceAdd, *]
  exact ⟨by first | omega | (simp only [new_n, put_n]; omega) | (simp only [new_n, put_n] at *; omega), fun i hi => by simp (disch := first | assumption | omega | rfl | (refine id ?_; simp only [gxD, ne_eq, reduceCtorEq, not_false_eq_true, Nat.reduceAdd, *]; done) | (refine id ?_; simp only [gxD]; omega)) only [↓gxPre, gxPost, ↓reduceIte, Nat.reduceEqDiff, reduceCtorEq, Nat.reduceAdd, *]⟩
theorem i_MaximaOf_yes {H : Heap} {v : Value} {xs : List Nat} (hv : FS H v xs) (hn : xs.length ≤ 2 ^ 40) (hw : W32 xs) (hl : isLongF xs = true) :
    ACalls Try.prog n_i_MaximaOf [v] H fun r H' => Ext H H' ∧ ∃ h, H.n ≤ h ∧ h < H'.n ∧ r = .tuple #[.slice (some ⟨h, 0, none⟩) (maximaL xs xs.length).length (maximaL xs xs.length).length, .bool true] ∧ H'.blk h = some ⟨true, t_int64, (maximaL xs xs.length).map iv⟩ := by
  refine k_i_MaximaOf.run rfl ?_
  unfold c_i_MaximaOf
  simp (disch := first | assumption | omega | rfl | (refine id ?_; simp only [gxD, ne_eq, reduceCtorEq, not_false_eq_true, Nat.reduceAdd, *]; done) | (refine id ?_; simp only [gxD]; omega)) only [↓gxPre, gxPost, ↓reduceIte, Nat.reduceEqDiff, reduceCtorEq, Nat.reduceAdd]
  refine callR_ext (i_isLong_ok hv hn) ?_
  intro H1 n1 b1
  try simp only [new_n, put_n] at n1 b1
  simp (disch := first | assumption | omega | rfl | (refine id ?_; simp only [gxD, ne_eq, reduceCtorEq, not_false_eq_true, Nat.reduceAdd, *]; done) | (refine id ?_; simp only [gxD]; omega)) only [↓gxPre, gxPost, ↓reduceIte, Nat.reduceEqDiff, reduceCtorEq, Nat.reduceAdd, *]
  refine callR_of (i_maximaOf_ok (hv.ext ⟨by first | omega | (simp only [new_n, put_n]; omega) | (simp only [new_n, put_n] at *; omega), fun i hi => by simp (disch := first | assumption | omega | rfl | (refine id ?_; simp only [gxD, ne_eq, reduceCtorEq, not_false_eq_true, Nat.reduceAdd, *]; done) | (refine id ?_; simp only [gxD]; omega)) only [↓gxPre, gxPost, ↓reduceIte, Nat.reduceEqDiff, reduceCtorEq, Nat.reduceAdd, *]⟩) hn hw) ?_
  rintro _ H2 ⟨⟨n2, b2⟩, h2, l2, u2, rfl, c2⟩
  try simp only [new_n, put_n] at l2
  try simp only [new_n, put_n] at n2 b2
  simp (disch := first | assumption | omega | rfl | (refine id ?_; simp only [gxD, ne_eq, reduceCtorEq, not_false_eq_true, Nat.reduceAdd, *]; done) | (refine id ?_; simp only [gxD]; omega)) only [↓gxPre, gxPost, ↓reduceIte, Nat.reduceEqDiff, reduceCtorEq, Nat.reduceAdd, *]
  exact ⟨⟨by first | omega | (simp only [new_n, put_n]; omega) | (simp only [new_n, put_n] at *; omega), fun i hi => by simp (disch := first | assumption | omega | rfl | (refine id ?_; simp only [gxD, ne_eq, reduceCtorEq, not_false_eq_true, Nat.reduceAdd, *]; done) | (refine id ?_; simp only [gxD]; omega)) only [↓gxPre, gxPost, ↓reduceIte, Nat.reduceEqDiff, reduceCtorEq, Nat.reduceAdd, *]⟩, h2, by omega, by omega, rfl, c2⟩
end Go.Proofs.Ytddekdgggpifmaa

namespace Go.Proofs.Ytddekdgggpifmaa
open Go.Gx
set_option maxRecDepth 100000
set_option linter.unusedSimpArgs false
set_option linter.unusedVariables false

theorem i_MaximaOf_law {H : Heap} {v0 : Value} {xs0 : List Nat} (A : AF H v0 xs0) : ACalls Try.prog n_i_MaximaOf [v0] H fun r H' => ListR iv t_int64 H (isLongF xs0) (maximaL xs0 xs0.length) r H' := by
  cases hl : isLongF xs0
  · refine (i_MaximaOf_no A.rd A.le hl).mono ?_
    rintro _ _ ⟨rfl, e⟩
    exact .no rfl e
  · refine (i_MaximaOf_yes A.rd A.le A.w hl).mono ?_
    rintro _ H' ⟨e, h, h1, h2, rfl, hb⟩
    exact .yes rfl e (.mk hb (by simp) h1 h2 h2) (Nat.le_trans (maximaL_len _ _) A.le)
end Go.Proofs.Ytddekdgggpifmaa

namespace Go.Proofs.Ytddekdgggpifmaa
open Go.Gx
set_option maxRecDepth 100000
set_option linter.unusedSimpArgs false
set_option linter.unusedVariables false

theorem i_finiteList_ok {H : Heap} {v : Value} {xs : List Nat} (hv : FS H v xs) (hn : xs.length ≤ 2 ^ 40) : ACalls Try.prog n_i_finiteList [v] H fun r H' => r = listV (xs.all finF) v ∧ Ext H H' := by
  refine k_i_finiteList.run rfl ?_
  unfold c_i_finiteList
  have hv1 := hv.one
  simp (disch := first | assumption | omega | rfl | (refine id ?_; simp only [gxD, ne_eq, reduceCtorEq, not_false_eq_true, Nat.reduceAdd, *]; done) | (refine id ?_; simp only [gxD]; omega)) only [↓gxPre, gxPost, ↓reduceIte, Nat.reduceEqDiff, reduceCtorEq, Nat.reduceAdd]
  refine callR_pure (i_areFinite1_ok (by simp (disch := first | assumption | omega | rfl | (refine id ?_; simp only [gxD, ne_eq, reduceCtorEq, not_false_eq_true, Nat.reduceAdd, *]; done) | (refine id ?_; simp only [gxD]; omega)) only [↓gxPre, gxPost, ↓reduceIte, Nat.reduceEqDiff, reduceCtorEq, Nat.reduceAdd, *]; rfl) (by first | omega | (simp only [new_n, put_n]; omega)) (hv.ext ⟨by first | omega | (simp only [new_n, put_n]; omega) | (simp only [new_n, put_n] at *; omega), fun i hi => by simp (disch := first | assumption | omega | rfl | (refine id ?_; simp only [gxD, ne_eq, reduceCtorEq, not_false_eq_true, Nat.reduceAdd, *]; done) | (refine id ?_; simp only [gxD]; omega)) only [↓gxPre, gxPost, ↓reduceIte, Nat.reduceEqDiff, reduceCtorEq, Nat.reduceAdd, *]⟩) hn) (.inl rfl) ?_
  cases h : xs.all finF
  · simp (disch := first | assumption | omega | rfl | (refine id ?_; simp only [gxD, ne_eq, reduceCtorEq, not_false_eq_true, Nat.reduceAdd, *]; done) | (refine id ?_; simp only [gxD]; omega)) only [↓gxPre, gxPost, ↓reduceIte, Nat.reduceEqDiff, reduceCtorEq, Nat.reduceAdd]
    exact ⟨rfl, ⟨by first | omega | (simp only [new_n, put_n]; omega) | (simp only [new_n, put_n] at *; omega), fun i hi => by simp (disch := first | assumption | omega | rfl | (refine id ?_; simp only [gxD, ne_eq, reduceCtorEq, not_false_eq_true, Nat.reduceAdd, *]; done) | (refine id ?_; simp only [gxD]; omega)) only [↓gxPre, gxPost, ↓reduceIte, Nat.reduceEqDiff, reduceCtorEq, Nat.reduceAdd, *]⟩⟩
  · simp (disch := first | assumption | omega | rfl | (refine id ?_; simp only [gxD, ne_eq, reduceCtorEq, not_false_eq_true, Nat.reduceAdd, *]; done) | (refine id ?_; simp only [gxD]; omega)) only [↓gxPre, gxPost, ↓reduceIte, Nat.reduceEqDiff, reduceCtorEq, Nat.reduceAdd]
    exact ⟨rfl, ⟨by first | omega | (simp only [new_n, put_n]; omega) | (simp only [new_n, put_n] at *; omega), fun i hi => by simp (disch := first | assumption | omega | rfl | (refine id ?_; simp only [gxD, ne_eq, reduceCtorEq, not_false_eq_true, Nat.reduceAdd, *]; done) | (refine id ?_; simp only [gxD]; omega)) only [↓gxPre, gxPost, ↓reduceIte, Nat.reduceEqDiff, reduceCtorEq, Nat.reduceAdd, *]⟩⟩
end Go.Proofs.Ytddekdgggpifmaa

namespace Go.Proofs.Ytddekdgggpifmaa
open Go.Gx
set_option maxRecDepth 100000
set_option linter.unusedSimpArgs false
set_option linter.unusedVariables false

theorem s_l03High_ok {H : Heap} {h : Nat} {own : Bool} {ty : TypeId} {v : Value} {xs : List Nat} (hp : H.blk h = some ⟨own, ty, [v]⟩) (hh : h < H.n) (hv : FS H v xs) (hn : xs.length ≤ 2 ^ 40) :
    ACalls Try.prog n_s_l03High [.pointer (some ⟨h, 0, some 1⟩)] H fun r H' => Ext H H' ∧ r = .slice (some ⟨H.n, 0, none⟩) xs.length xs.length ∧ H.n + 1 ≤ H'.n ∧ H'.blk H.n = some ⟨true, t_float32, (highL xs).map fv⟩ := by
  refine k_s_l03High.run rfl ?_
  unfold c_s_l03High
  simp (disch := first | assumption | omega | rfl | (refine id ?_; simp only [gxD, ne_eq, reduceCtorEq, not_false_eq_true, Nat.reduceAdd, *]; done) | (refine id ?_; simp only [gxD]; omega)) only [↓gxPre, gxPost, ↓reduceIte, Nat.reduceEqDiff, reduceCtorEq, Nat.reduceAdd, hp, (hv.ext (.new H ⟨true, t_float32, []⟩)).len]
  refine loop_forH xs.length (fun i => [.pointer (some ⟨h, 0, some 1⟩), .slice (some ⟨H.n, 0, none⟩) i i, .int .i64 xs.length, .int .i64 i])
    (fun i G => H.n + 1 ≤ G.n ∧ Ext H G ∧ G.blk H.n = some ⟨true, t_float32, (tabL i (highF xs)).map fv⟩) rfl ⟨by simp only [new_n]; omega, ⟨by first | omega | (simp only [new_n, put_n]; omega) | (simp only [new_n, put_n] at *; omega), fun i hi => by simp (disch := first | assumption | omega | rfl | (refine id ?_; simp only [gxD, ne_eq, reduceCtorEq, not_false_eq_true, Nat.reduceAdd, *]; done) | (refine id ?_; simp only [gxD]; omega)) only [↓gxPre, gxPost, ↓reduceIte, Nat.reduceEqDiff, reduceCtorEq, Nat.reduceAdd, *]⟩, by simp (disch := first | assumption | omega | rfl | (refine id ?_; simp only [gxD, ne_eq, reduceCtorEq, not_false_eq_true, Nat.reduceAdd, *]; done) | (refine id ?_; simp only [gxD]; omega)) only [↓gxPre, gxPost, ↓reduceIte, Nat.reduceEqDiff, reduceCtorEq, Nat.reduceAdd]; rfl⟩ ?_ ?_
  · rintro G ⟨hG, hE, hc⟩
    simp (disch := first | assumption | omega | rfl | (refine id ?_; simp only [gxD, ne_eq, reduceCtorEq, not_false_eq_true, Nat.reduceAdd, *]; done) | (refine id ?_; simp only [gxD]; omega)) only [↓gxPre, gxPost, ↓reduceIte, Nat.reduceEqDiff, reduceCtorEq, Nat.reduceAdd, Int.lt_irrefl]
    exact ⟨hE, hG, hc⟩
  · rintro i G hi ⟨hG, hE, hc⟩
    have hv' := hv.ext hE
    have hb := (hE.blk h hh).trans hp
    have e1 : ((xs.length : Int) - 1 - i).toNat = xs.length - 1 - i := by omega
    have ht := tabL_length i (highF xs)
    have hs := tabL_succ i (highF xs)
    have f := (hE.news ⟨true, t_float32, [.float .f32 (highF xs i)]⟩).put (i := H.n) (by omega) ⟨true, t_float32, (tabL (i + 1) (highF xs)).map fv⟩
    rw [hs, ← fv_snoc'] at f
    by_cases h2 : i % 2 = 1
    · have hc2 : ((i % 2 : Nat) : Int) = 1 := by omega
      have hf : highF xs i = fneg .f32 (xs.getD (xs.length - 1 - i) 0) := if_pos h2
      rw [hf] at f
      simp (disch := first | assumption | omega | rfl | (refine id ?_; simp only [gxD, ne_eq, reduceCtorEq, not_false_eq_true, Nat.reduceAdd, *]; done) | (refine id ?_; simp only [gxD]; omega)) only [↓gxPre, gxPost, ↓reduceIte, Nat.reduceEqDiff, reduceCtorEq, Nat.reduceAdd, hb, hc, hv'.len, hv'.ia, hv'.ld, e1, tmod2, hc2, lMapN, ht]
      exact ⟨by simp, by omega, f, by rw [hs, ← fv_snoc', hf]⟩
    · have hc2 : ¬ ((i % 2 : Nat) : Int) = 1 := by omega
      have hf : highF xs i = xs.getD (xs.length - 1 - i) 0 := if_neg h2
      rw [hf] at f
      simp (disch := first | assumption | omega | rfl | (refine id ?_; simp only [gxD, ne_eq, reduceCtorEq, not_false_eq_true, Nat.reduceAdd, *]; done) | (refine id ?_; simp only [gxD]; omega)) only [↓gxPre, gxPost, ↓reduceIte, Nat.reduceEqDiff, reduceCtorEq, Nat.reduceAdd, hb, hc, hv'.len, hv'.ia, hv'.ld, e1, tmod2, hc2, lMapN, ht]
      exact ⟨by simp, by omega, f, by rw [hs, ← fv_snoc', hf]⟩
end Go.Proofs.Ytddekdgggpifmaa

namespace Go.Proofs.Ytddekdgggpifmaa
open Go.Gx
set_option maxRecDepth 100000
set_option linter.unusedSimpArgs false
set_option linter.unusedVariables false

theorem i_ValidBands_ok {H : Heap} {v u : Value} {xs : List Nat} {yss : List (List Nat)} (hv : FS H v xs) (hu0 : SS H u yss) (hn : xs.length ≤ 2 ^ 40) (hm : totL yss ≤ 2 ^ 40) :
    ACalls Try.prog n_i_ValidBands [.agg #[v, u]] H fun r H' => r = .bool (validBandsF xs yss) ∧ Ext H H' := by
  have o1 := hv.one
  have o2 := hu0.one'
  obtain ⟨us, hu, hul, hus⟩ := hu0
  have hu0 : SS H u yss := ⟨us, hu, hul, hus⟩
  have e : Ext H (H.new ⟨true, t_Bands, [v, u]⟩) := .new _ _
  have e2 : Ext H ((H.new ⟨true, t_Bands, [v, u]⟩).new ⟨true, t_sfloat32, [v]⟩) := e.news _
  have hu' := hu.ext e
  have hb2 : ((H.new ⟨true, t_Bands, [v, u]⟩).new ⟨true, t_sfloat32, [v]⟩).blk H.n = some ⟨true, t_Bands, [v, u]⟩ := by simp (disch := first | assumption | omega | rfl | (refine id ?_; simp only [gxD, ne_eq, reduceCtorEq, not_false_eq_true, Nat.reduceAdd, *]; done) | (refine id ?_; simp only [gxD]; omega)) only [↓gxPre, gxPost, ↓reduceIte, Nat.reduceEqDiff, reduceCtorEq, Nat.reduceAdd]
  have hny : yss.length ≤ 2 ^ 40 := by unfold totL at hm; omega
  refine k_i_ValidBands.run rfl ?_
  unfold c_i_ValidBands
  simp (disch := first | assumption | omega | rfl | (refine id ?_; simp only [gxD, ne_eq, reduceCtorEq, not_false_eq_true, Nat.reduceAdd, *]; done) | (refine id ?_; simp only [gxD]; omega)) only [↓gxPre, gxPost, ↓reduceIte, Nat.reduceEqDiff, reduceCtorEq, Nat.reduceAdd, hu'.len, hul]
  refine callR_pure (i_within_ok) (by first | exact Or.inl rfl | (simp (disch := first | assumption | omega | rfl | (refine id ?_; simp only [gxD, ne_eq, reduceCtorEq, not_false_eq_true, Nat.reduceAdd, *]; done) | (refine id ?_; simp only [gxD]; omega)) only [↓gxPre, gxPost, ↓reduceIte, Nat.reduceEqDiff, reduceCtorEq, Nat.reduceAdd, *]; done)) ?_
  simp (disch := first | assumption | omega | rfl | (refine id ?_; simp only [gxD, ne_eq, reduceCtorEq, not_false_eq_true, Nat.reduceAdd, *]; done) | (refine id ?_; simp only [gxD]; omega)) only [↓gxPre, gxPost, ↓reduceIte, Nat.reduceEqDiff, reduceCtorEq, Nat.reduceAdd, *]
  cases h1 : within yss.length 1 6
  · simp (disch := first | assumption | omega | rfl | (refine id ?_; simp only [gxD, ne_eq, reduceCtorEq, not_false_eq_true, Nat.reduceAdd, *]; done) | (refine id ?_; simp only [gxD]; omega)) only [↓gxPre, gxPost, ↓reduceIte, Nat.reduceEqDiff, reduceCtorEq, Nat.reduceAdd]
    exact ⟨by simp only [validBandsF, h1, Bool.false_and], e⟩
  have h1' := within_true.1 h1
  by_cases h2 : (yss.getD 0 []).length ≤ 64
  rotate_left
  · have h2' : (64 : Int) < (yss.getD 0 []).length := by omega
    simp (disch := first | assumption | omega | rfl | (refine id ?_; simp only [gxD, ne_eq, reduceCtorEq, not_false_eq_true, Nat.reduceAdd, *]; done) | (refine id ?_; simp only [gxD]; omega)) only [↓gxPre, gxPost, ↓reduceIte, Nat.reduceEqDiff, reduceCtorEq, Nat.reduceAdd, hu'.ia, hu'.ldD, hul, (hus 0 (by omega)).len, h2', Int.reduceToNat]
    exact ⟨by simp only [validBandsF, decide_eq_false h2, Bool.and_false, Bool.false_and], e⟩
  have h2' : ¬ (64 : Int) < (yss.getD 0 []).length := by omega
  simp (disch := first | assumption | omega | rfl | (refine id ?_; simp only [gxD, ne_eq, reduceCtorEq, not_false_eq_true, Nat.reduceAdd, *]; done) | (refine id ?_; simp only [gxD]; omega)) only [↓gxPre, gxPost, ↓reduceIte, Nat.reduceEqDiff, reduceCtorEq, Nat.reduceAdd, hu'.ia, hu'.ldD, hul, (hus 0 (by omega)).len, h2', Int.reduceToNat]
  refine callR_pure (i_areFinite_ok (hu0.ext e) hny fun j _ => totL_row hm j) (.inl rfl) ?_
  cases h3 : (yss.all fun ys => ys.all finF)
  · simp (disch := first | assumption | omega | rfl | (refine id ?_; simp only [gxD, ne_eq, reduceCtorEq, not_false_eq_true, Nat.reduceAdd, *]; done) | (refine id ?_; simp only [gxD]; omega)) only [↓gxPre, gxPost, ↓reduceIte, Nat.reduceEqDiff, reduceCtorEq, Nat.reduceAdd]
    exact ⟨by simp only [validBandsF, h3, Bool.and_false, Bool.false_and], e⟩
  simp (disch := first | assumption | omega | rfl | (refine id ?_; simp only [gxD, ne_eq, reduceCtorEq, not_false_eq_true, Nat.reduceAdd, *]; done) | (refine id ?_; simp only [gxD]; omega)) only [↓gxPre, gxPost, ↓reduceIte, Nat.reduceEqDiff, reduceCtorEq, Nat.reduceAdd]
  refine callR_pure (i_areFinite1_ok (by simp (disch := first | assumption | omega | rfl | (refine id ?_; simp only [gxD, ne_eq, reduceCtorEq, not_false_eq_true, Nat.reduceAdd, *]; done) | (refine id ?_; simp only [gxD]; omega)) only [↓gxPre, gxPost, ↓reduceIte, Nat.reduceEqDiff, reduceCtorEq, Nat.reduceAdd, *]; rfl) (by first | omega | (simp only [new_n, put_n]; omega)) (hv.ext e2) hn) (.inl rfl) ?_
  cases h4 : xs.all finF
  · simp (disch := first | assumption | omega | rfl | (refine id ?_; simp only [gxD, ne_eq, reduceCtorEq, not_false_eq_true, Nat.reduceAdd, *]; done) | (refine id ?_; simp only [gxD]; omega)) only [↓gxPre, gxPost, ↓reduceIte, Nat.reduceEqDiff, reduceCtorEq, Nat.reduceAdd]
    exact ⟨by simp only [validBandsF, h4, Bool.and_false, Bool.false_and], e2⟩
  have hu2 := hu.ext e2
  simp (disch := first | assumption | omega | rfl | (refine id ?_; simp only [gxD, ne_eq, reduceCtorEq, not_false_eq_true, Nat.reduceAdd, *]; done) | (refine id ?_; simp only [gxD]; omega)) only [↓gxPre, gxPost, ↓reduceIte, Nat.reduceEqDiff, reduceCtorEq, Nat.reduceAdd, hu2.len, hul]
  generalize ((H.new ⟨true, t_Bands, [v, u]⟩).new ⟨true, t_sfloat32, [v]⟩) = G at *
  refine loop_forH yss.length (fun i => [.pointer (some ⟨H.n, 0, some 2⟩), .int .i64 yss.length, u, .int .i64 yss.length, .int .i64 i]) (fun i G' => G = G' ∧ ∀ j, j < i → detAt yss j = true) rfl ⟨rfl, by intros; omega⟩ ?_ ?_
  · rintro _ ⟨rfl, hJ⟩
    have e1 : ((yss.length : Int) - 1).toNat = yss.length - 1 := by omega
    simp (disch := first | assumption | omega | rfl | (refine id ?_; simp only [gxD, ne_eq, reduceCtorEq, not_false_eq_true, Nat.reduceAdd, *]; done) | (refine id ?_; simp only [gxD]; omega)) only [↓gxPre, gxPost, ↓reduceIte, Nat.reduceEqDiff, reduceCtorEq, Nat.reduceAdd, Int.lt_irrefl, hb2, (hv.ext e2).len, hu2.ia, hu2.ldD, hul, e1, (hus (yss.length - 1) (by omega)).len]
    refine ⟨?_, e2⟩
    congr 1
    rw [Bool.eq_iff_iff]
    simp only [validBandsF, h1, h3, h4, allR.2 hJ, decide_eq_true h2, Bool.and_true, Bool.true_and, decide_eq_true_eq]
    omega
  · rintro i _ hi ⟨rfl, hJ⟩
    by_cases c1 : (yss.getD i []).length = 0
    · have c1' : ((yss.getD i []).length : Int) = 0 := by omega
      simp (disch := first | assumption | omega | rfl | (refine id ?_; simp only [gxD, ne_eq, reduceCtorEq, not_false_eq_true, Nat.reduceAdd, *]; done) | (refine id ?_; simp only [gxD]; omega)) only [↓gxPre, gxPost, ↓reduceIte, Nat.reduceEqDiff, reduceCtorEq, Nat.reduceAdd, hu2.ia, hu2.ldD, hul, (hus i hi).len, c1']
      exact ⟨by rw [vb_no hi (by simp only [detAt, c1]; simp)], e2⟩
    have c1' : ¬ ((yss.getD i []).length : Int) = 0 := by omega
    have hd1 : decide (1 ≤ (yss.getD i []).length) = true := decide_eq_true (by omega)
    by_cases c2 : i = 0
    · have c2' : ¬ ((0 : Int) < i) := by omega
      simp (disch := first | assumption | omega | rfl | (refine id ?_; simp only [gxD, ne_eq, reduceCtorEq, not_false_eq_true, Nat.reduceAdd, *]; done) | (refine id ?_; simp only [gxD]; omega)) only [↓gxPre, gxPost, ↓reduceIte, Nat.reduceEqDiff, reduceCtorEq, Nat.reduceAdd, hu2.ia, hu2.ldD, hul, (hus i hi).len, c1', c2']
      refine ⟨by simp, Nat.forall_lt_succ_right.2 ⟨hJ, ?_⟩⟩
      simp only [detAt, hd1, decide_eq_true c2, Bool.true_or, Bool.and_true]
    have c2' : (0 : Int) < i := by omega
    have e1 : ((i : Int) - 1).toNat = i - 1 := by omega
    have hr1 := totL_row hm i
    have hr2 := totL_row hm (i - 1)
    by_cases c3 : (yss.getD (i - 1) []).length = 2 * (yss.getD i []).length
    · have c3' : 2 * ((yss.getD i []).length : Int) = (yss.getD (i - 1) []).length := by omega
      simp (disch := first | assumption | omega | rfl | (refine id ?_; simp only [gxD, ne_eq, reduceCtorEq, not_false_eq_true, Nat.reduceAdd, *]; done) | (refine id ?_; simp only [gxD]; omega)) only [↓gxPre, gxPost, ↓reduceIte, Nat.reduceEqDiff, reduceCtorEq, Nat.reduceAdd, hu2.ia, hu2.ldD, hul, (hus i hi).len, c1', c2', hb2, e1, (hus (i - 1) (by omega)).len, c3', ne_eq, not_true]
      refine ⟨by simp, Nat.forall_lt_succ_right.2 ⟨hJ, ?_⟩⟩
      simp only [detAt, hd1, decide_eq_true c3, Bool.or_true, Bool.and_true]
    · have c3' : ¬ 2 * ((yss.getD i []).length : Int) = (yss.getD (i - 1) []).length := by omega
      simp (disch := first | assumption | omega | rfl | (refine id ?_; simp only [gxD, ne_eq, reduceCtorEq, not_false_eq_true, Nat.reduceAdd, *]; done) | (refine id ?_; simp only [gxD]; omega)) only [↓gxPre, gxPost, ↓reduceIte, Nat.reduceEqDiff, reduceCtorEq, Nat.reduceAdd, hu2.ia, hu2.ldD, hul, (hus i hi).len, c1', c2', hb2, e1, (hus (i - 1) (by omega)).len, c3', ne_eq, not_false_eq_true]
      exact ⟨by rw [vb_no hi (by simp only [detAt, decide_eq_false c3, decide_eq_false c2, Bool.or_false, Bool.and_false])], e2⟩
theorem s_l03Bands_ok {H : Heap} {h : Nat} {own : Bool} {ty : TypeId} {v u : Value} {xs : List Nat} {yss : List (List Nat)} (hb : H.blk h = some ⟨own, ty, [v, u]⟩) (hv : FS H v xs) (hu0 : SS H u yss) (hn : xs.length ≤ 2 ^ 40) (hm : totL yss ≤ 2 ^ 40) :
    ACalls Try.prog n_s_l03Bands [.pointer (some ⟨h, 0, some 2⟩)] H fun r H' => r = .bool (validBandsF xs yss) ∧ H' = H := by
  obtain ⟨us, hu, hul, hus⟩ := hu0
  have hny : yss.length ≤ 2 ^ 40 := by unfold totL at hm; omega
  refine k_s_l03Bands.run rfl ?_
  unfold c_s_l03Bands
  by_cases h0 : (yss.length : Int) < 1
  · simp (disch := first | assumption | omega | rfl | (refine id ?_; simp only [gxD, ne_eq, reduceCtorEq, not_false_eq_true, Nat.reduceAdd, *]; done) | (refine id ?_; simp only [gxD]; omega)) only [↓gxPre, gxPost, ↓reduceIte, Nat.reduceEqDiff, reduceCtorEq, Nat.reduceAdd, hb, hu.len, hul]
    have : within yss.length 1 6 = false := by simp [within]; omega
    simp only [validBandsF, this, Bool.false_and]
  by_cases h6 : (6 : Int) < yss.length
  · simp (disch := first | assumption | omega | rfl | (refine id ?_; simp only [gxD, ne_eq, reduceCtorEq, not_false_eq_true, Nat.reduceAdd, *]; done) | (refine id ?_; simp only [gxD]; omega)) only [↓gxPre, gxPost, ↓reduceIte, Nat.reduceEqDiff, reduceCtorEq, Nat.reduceAdd, hb, hu.len, hul]
    have : within yss.length 1 6 = false := by simp [within]; omega
    simp only [validBandsF, this, Bool.false_and]
  have h1 : within yss.length 1 6 = true := within_true.2 ⟨by omega, by omega⟩
  by_cases h2 : (yss.getD 0 []).length ≤ 64
  rotate_left
  · have h2' : (64 : Int) < (yss.getD 0 []).length := by omega
    simp (disch := first | assumption | omega | rfl | (refine id ?_; simp only [gxD, ne_eq, reduceCtorEq, not_false_eq_true, Nat.reduceAdd, *]; done) | (refine id ?_; simp only [gxD]; omega)) only [↓gxPre, gxPost, ↓reduceIte, Nat.reduceEqDiff, reduceCtorEq, Nat.reduceAdd, hb, hu.len, hu.ia, hu.ldD, hul, (hus 0 (by omega)).len, h2', Int.reduceToNat]
    simp only [validBandsF, decide_eq_false h2, Bool.and_false, Bool.false_and]
  have h2' : ¬ (64 : Int) < (yss.getD 0 []).length := by omega
  simp (disch := first | assumption | omega | rfl | (refine id ?_; simp only [gxD, ne_eq, reduceCtorEq, not_false_eq_true, Nat.reduceAdd, *]; done) | (refine id ?_; simp only [gxD]; omega)) only [↓gxPre, gxPost, ↓reduceIte, Nat.reduceEqDiff, reduceCtorEq, Nat.reduceAdd, hb, hu.len, hu.ia, hu.ldD, hul, (hus 0 (by omega)).len, h2', Int.reduceToNat]
  refine callR_pure (s_l02Finite_ok hv hn) (.inl rfl) ?_
  cases h4 : xs.all finF
  · simp (disch := first | assumption | omega | rfl | (refine id ?_; simp only [gxD, ne_eq, reduceCtorEq, not_false_eq_true, Nat.reduceAdd, *]; done) | (refine id ?_; simp only [gxD]; omega)) only [↓gxPre, gxPost, ↓reduceIte, Nat.reduceEqDiff, reduceCtorEq, Nat.reduceAdd]
    simp only [validBandsF, h4, Bool.and_false, Bool.false_and]
  simp (disch := first | assumption | omega | rfl | (refine id ?_; simp only [gxD, ne_eq, reduceCtorEq, not_false_eq_true, Nat.reduceAdd, *]; done) | (refine id ?_; simp only [gxD]; omega)) only [↓gxPre, gxPost, ↓reduceIte, Nat.reduceEqDiff, reduceCtorEq, Nat.reduceAdd, hb, hu.len, hul]
  refine loop_forH yss.length (fun i => [.pointer (some ⟨h, 0, some 2⟩), .int .i64 yss.length, .int .i64 yss.length, .int .i64 i]) (fun i G' => H = G' ∧ ∀ j, j < i → detAt yss j = true ∧ (yss.getD j []).all finF = true) rfl ⟨rfl, by intros; omega⟩ ?_ ?_
  · rintro _ ⟨rfl, hJ⟩
    have e1 : ((yss.length : Int) - 1).toNat = yss.length - 1 := by omega
    simp (disch := first | assumption | omega | rfl | (refine id ?_; simp only [gxD, ne_eq, reduceCtorEq, not_false_eq_true, Nat.reduceAdd, *]; done) | (refine id ?_; simp only [gxD]; omega)) only [↓gxPre, gxPost, ↓reduceIte, Nat.reduceEqDiff, reduceCtorEq, Nat.reduceAdd, Int.lt_irrefl, hb, hv.len, hu.ia, hu.ldD, hul, e1, (hus (yss.length - 1) (by omega)).len]
    have h3 : (yss.all fun ys => ys.all finF) = true := (allD []).2 fun j hj => (hJ j hj).2
    congr 1
    rw [Bool.eq_iff_iff]
    simp only [validBandsF, h1, h3, h4, allR.2 fun j hj => (hJ j hj).1, decide_eq_true h2, Bool.and_true, Bool.true_and, decide_eq_true_eq]
    omega
  · rintro i _ hi ⟨rfl, hJ⟩
    by_cases c1 : (yss.getD i []).length = 0
    · have c1' : ((yss.getD i []).length : Int) < 1 := by omega
      simp (disch := first | assumption | omega | rfl | (refine id ?_; simp only [gxD, ne_eq, reduceCtorEq, not_false_eq_true, Nat.reduceAdd, *]; done) | (refine id ?_; simp only [gxD]; omega)) only [↓gxPre, gxPost, ↓reduceIte, Nat.reduceEqDiff, reduceCtorEq, Nat.reduceAdd, hb, hu.ia, hu.ldD, hul, (hus i hi).len, c1']
      rw [vb_no hi (by simp only [detAt, c1]; simp)]
    have c1' : ¬ ((yss.getD i []).length : Int) < 1 := by omega
    have hd1 : decide (1 ≤ (yss.getD i []).length) = true := decide_eq_true (by omega)
    simp (disch := first | assumption | omega | rfl | (refine id ?_; simp only [gxD, ne_eq, reduceCtorEq, not_false_eq_true, Nat.reduceAdd, *]; done) | (refine id ?_; simp only [gxD]; omega)) only [↓gxPre, gxPost, ↓reduceIte, Nat.reduceEqDiff, reduceCtorEq, Nat.reduceAdd, hb, hu.ia, hu.ldD, hul, (hus i hi).len, c1']
    refine callR_pure (s_l02Finite_ok (hus i hi) (totL_row hm i)) (.inl rfl) ?_
    cases h5 : (yss.getD i []).all finF
    · simp (disch := first | assumption | omega | rfl | (refine id ?_; simp only [gxD, ne_eq, reduceCtorEq, not_false_eq_true, Nat.reduceAdd, *]; done) | (refine id ?_; simp only [gxD]; omega)) only [↓gxPre, gxPost, ↓reduceIte, Nat.reduceEqDiff, reduceCtorEq, Nat.reduceAdd]
      have : (yss.all fun ys => ys.all finF) = false := allD_false [] hi h5
      simp only [validBandsF, this, Bool.and_false, Bool.false_and]
    by_cases c2 : i = 0
    · have c2' : ¬ ((0 : Int) < i) := by omega
      simp (disch := first | assumption | omega | rfl | (refine id ?_; simp only [gxD, ne_eq, reduceCtorEq, not_false_eq_true, Nat.reduceAdd, *]; done) | (refine id ?_; simp only [gxD]; omega)) only [↓gxPre, gxPost, ↓reduceIte, Nat.reduceEqDiff, reduceCtorEq, Nat.reduceAdd, c2']
      refine ⟨by simp, Nat.forall_lt_succ_right.2 ⟨hJ, ?_, h5⟩⟩
      simp only [detAt, hd1, decide_eq_true c2, Bool.true_or, Bool.and_true]
    have c2' : (0 : Int) < i := by omega
    have e1 : ((i : Int) - 1).toNat = i - 1 := by omega
    have hr1 := totL_row hm i
    have hr2 := totL_row hm (i - 1)
    by_cases c3 : (yss.getD (i - 1) []).length = 2 * (yss.getD i []).length
    · have c3' : ((yss.getD (i - 1) []).length : Int) = 2 * ((yss.getD i []).length : Int) := by omega
      simp (disch := first | assumption | omega | rfl | (refine id ?_; simp only [gxD, ne_eq, reduceCtorEq, not_false_eq_true, Nat.reduceAdd, *]; done) | (refine id ?_; simp only [gxD]; omega)) only [↓gxPre, gxPost, ↓reduceIte, Nat.reduceEqDiff, reduceCtorEq, Nat.reduceAdd, hb, hu.ia, hu.ldD, hul, (hus i hi).len, c2', e1, (hus (i - 1) (by omega)).len, c3', ne_eq, not_true]
      refine ⟨by simp, Nat.forall_lt_succ_right.2 ⟨hJ, ?_, h5⟩⟩
      simp only [detAt, hd1, decide_eq_true c3, Bool.or_true, Bool.and_true]
    · have c3' : ¬ ((yss.getD (i - 1) []).length : Int) = 2 * ((yss.getD i []).length : Int) := by omega
      simp (disch := first | assumption | omega | rfl | (refine id ?_; simp only [gxD, ne_eq, reduceCtorEq, not_false_eq_true, Nat.reduceAdd, *]; done) | (refine id ?_; simp only [gxD]; omega)) only [↓gxPre, gxPost, ↓reduceIte, Nat.reduceEqDiff, reduceCtorEq, Nat.reduceAdd, hb, hu.ia, hu.ldD, hul, (hus i hi).len, c2', e1, (hus (i - 1) (by omega)).len, c3', ne_eq, not_false_eq_true]
      rw [vb_no hi (by simp only [detAt, decide_eq_false c3, decide_eq_false c2, Bool.or_false, Bool.and_false])]
theorem i_areRows_ok {H : Heap} {v : Value} {xss : List (List Nat)} {most : Int} (hu0 : SS H v xss) (hm : totL xss ≤ 2 ^ 40) :
    ACalls Try.prog n_i_areRows [v, .int .i64 most] H fun r H' => r = .bool (rowsF xss most) ∧ H' = H := by
  obtain ⟨us, hu, hul, hus⟩ := hu0
  have hu0 : SS H v xss := ⟨us, hu, hul, hus⟩
  have hny : xss.length ≤ 2 ^ 40 := by unfold totL at hm; omega
  refine k_i_areRows.run rfl ?_
  unfold c_i_areRows
  simp (disch := first | assumption | omega | rfl | (refine id ?_; simp only [gxD, ne_eq, reduceCtorEq, not_false_eq_true, Nat.reduceAdd, *]; done) | (refine id ?_; simp only [gxD]; omega)) only [↓gxPre, gxPost, ↓reduceIte, Nat.reduceEqDiff, reduceCtorEq, Nat.reduceAdd, hu.len, hul]
  refine callR_pure (i_within_ok) (by first | exact Or.inl rfl | (simp (disch := first | assumption | omega | rfl | (refine id ?_; simp only [gxD, ne_eq, reduceCtorEq, not_false_eq_true, Nat.reduceAdd, *]; done) | (refine id ?_; simp only [gxD]; omega)) only [↓gxPre, gxPost, ↓reduceIte, Nat.reduceEqDiff, reduceCtorEq, Nat.reduceAdd, *]; done)) ?_
  simp (disch := first | assumption | omega | rfl | (refine id ?_; simp only [gxD, ne_eq, reduceCtorEq, not_false_eq_true, Nat.reduceAdd, *]; done) | (refine id ?_; simp only [gxD]; omega)) only [↓gxPre, gxPost, ↓reduceIte, Nat.reduceEqDiff, reduceCtorEq, Nat.reduceAdd, *]
  cases h1 : within xss.length 1 most
  · simp (disch := first | assumption | omega | rfl | (refine id ?_; simp only [gxD, ne_eq, reduceCtorEq, not_false_eq_true, Nat.reduceAdd, *]; done) | (refine id ?_; simp only [gxD]; omega)) only [↓gxPre, gxPost, ↓reduceIte, Nat.reduceEqDiff, reduceCtorEq, Nat.reduceAdd]
    simp only [rowsF, h1, Bool.false_and]
  have h1' := within_true.1 h1
  simp (disch := first | assumption | omega | rfl | (refine id ?_; simp only [gxD, ne_eq, reduceCtorEq, not_false_eq_true, Nat.reduceAdd, *]; done) | (refine id ?_; simp only [gxD]; omega)) only [↓gxPre, gxPost, ↓reduceIte, Nat.reduceEqDiff, reduceCtorEq, Nat.reduceAdd]
  refine callR_pure (i_areFinite_ok hu0 hny fun j _ => totL_row hm j) (.inl rfl) ?_
  cases h3 : (xss.all fun ys => ys.all finF)
  · simp (disch := first | assumption | omega | rfl | (refine id ?_; simp only [gxD, ne_eq, reduceCtorEq, not_false_eq_true, Nat.reduceAdd, *]; done) | (refine id ?_; simp only [gxD]; omega)) only [↓gxPre, gxPost, ↓reduceIte, Nat.reduceEqDiff, reduceCtorEq, Nat.reduceAdd]
    have : ∃ j, j < xss.length ∧ (xss.getD j []).all finF = false := by
      apply Classical.byContradiction
      intro hno
      rw [(allD []).2 fun j hj => by
        cases hf : (xss.getD j []).all finF
        · exact absurd ⟨j, hj, hf⟩ hno
        · rfl] at h3
      cases h3
    obtain ⟨j, hj, hf⟩ := this
    rw [rows_no hj (by simp only [isLongF, hf, Bool.and_false, Bool.false_and])]
  simp (disch := first | assumption | omega | rfl | (refine id ?_; simp only [gxD, ne_eq, reduceCtorEq, not_false_eq_true, Nat.reduceAdd, *]; done) | (refine id ?_; simp only [gxD]; omega)) only [↓gxPre, gxPost, ↓reduceIte, Nat.reduceEqDiff, reduceCtorEq, Nat.reduceAdd, hu.len, hul]
  refine loop_forH xss.length (fun i => [v, v, .int .i64 xss.length, .int .i64 i]) (fun i G' => H = G' ∧ ∀ j, j < i → (isLongF (xss.getD j []) && decide ((xss.getD j []).length = (xss.getD 0 []).length)) = true) rfl ⟨rfl, by intros; omega⟩ ?_ ?_
  · rintro _ ⟨rfl, hJ⟩
    simp (disch := first | assumption | omega | rfl | (refine id ?_; simp only [gxD, ne_eq, reduceCtorEq, not_false_eq_true, Nat.reduceAdd, *]; done) | (refine id ?_; simp only [gxD]; omega)) only [↓gxPre, gxPost, ↓reduceIte, Nat.reduceEqDiff, reduceCtorEq, Nat.reduceAdd, Int.lt_irrefl]
    simp only [rowsF, h1, allR.2 hJ, Bool.and_true]
  · rintro i _ hi ⟨rfl, hJ⟩
    have hfi : (xss.getD i []).all finF = true := (allD []).1 h3 i hi
    by_cases c1 : (xss.getD i []).length = (xss.getD 0 []).length
    · have c1' : ((xss.getD i []).length : Int) = (xss.getD 0 []).length := by omega
      simp (disch := first | assumption | omega | rfl | (refine id ?_; simp only [gxD, ne_eq, reduceCtorEq, not_false_eq_true, Nat.reduceAdd, *]; done) | (refine id ?_; simp only [gxD]; omega)) only [↓gxPre, gxPost, ↓reduceIte, Nat.reduceEqDiff, reduceCtorEq, Nat.reduceAdd, hu.ia, hu.ldD, hul, (hus i hi).len, (hus 0 (by omega)).len, c1', ne_eq, not_true, Int.reduceToNat]
      refine callR_pure (i_within_ok) (by first | exact Or.inl rfl | (simp (disch := first | assumption | omega | rfl | (refine id ?_; simp only [gxD, ne_eq, reduceCtorEq, not_false_eq_true, Nat.reduceAdd, *]; done) | (refine id ?_; simp only [gxD]; omega)) only [↓gxPre, gxPost, ↓reduceIte, Nat.reduceEqDiff, reduceCtorEq, Nat.reduceAdd, *]; done)) ?_
      simp (disch := first | assumption | omega | rfl | (refine id ?_; simp only [gxD, ne_eq, reduceCtorEq, not_false_eq_true, Nat.reduceAdd, *]; done) | (refine id ?_; simp only [gxD]; omega)) only [↓gxPre, gxPost, ↓reduceIte, Nat.reduceEqDiff, reduceCtorEq, Nat.reduceAdd, *]
      cases h4 : within ((xss.getD 0 []).length) 1 128
      · simp (disch := first | assumption | omega | rfl | (refine id ?_; simp only [gxD, ne_eq, reduceCtorEq, not_false_eq_true, Nat.reduceAdd, *]; done) | (refine id ?_; simp only [gxD]; omega)) only [↓gxPre, gxPost, ↓reduceIte, Nat.reduceEqDiff, reduceCtorEq, Nat.reduceAdd]
        rw [rows_no hi (by simp only [isLongF, c1, h4, Bool.false_and])]
      · simp (disch := first | assumption | omega | rfl | (refine id ?_; simp only [gxD, ne_eq, reduceCtorEq, not_false_eq_true, Nat.reduceAdd, *]; done) | (refine id ?_; simp only [gxD]; omega)) only [↓gxPre, gxPost, ↓reduceIte, Nat.reduceEqDiff, reduceCtorEq, Nat.reduceAdd]
        refine ⟨by simp, Nat.forall_lt_succ_right.2 ⟨hJ, ?_⟩⟩
        simp only [isLongF, c1, h4, hfi, decide_true, Bool.and_true]
    · have c1' : ¬ ((xss.getD i []).length : Int) = (xss.getD 0 []).length := by omega
      simp (disch := first | assumption | omega | rfl | (refine id ?_; simp only [gxD, ne_eq, reduceCtorEq, not_false_eq_true, Nat.reduceAdd, *]; done) | (refine id ?_; simp only [gxD]; omega)) only [↓gxPre, gxPost, ↓reduceIte, Nat.reduceEqDiff, reduceCtorEq, Nat.reduceAdd, hu.ia, hu.ldD, hul, (hus i hi).len, (hus 0 (by omega)).len, c1', ne_eq, not_false_eq_true, Int.reduceToNat]
      rw [rows_no hi (by simp only [decide_eq_false c1, Bool.and_false])]
theorem s_l03Rows_ok {H : Heap} {v : Value} {xss : List (List Nat)} {most : Int} (hu0 : SS H v xss) (hm : totL xss ≤ 2 ^ 40) :
    ACalls Try.prog n_s_l03Rows [v, .int .i64 most] H fun r H' => r = .bool (rowsF xss most) ∧ H' = H := by
  obtain ⟨us, hu, hul, hus⟩ := hu0
  have hny : xss.length ≤ 2 ^ 40 := by unfold totL at hm; omega
  refine k_s_l03Rows.run rfl ?_
  unfold c_s_l03Rows
  by_cases h0 : (xss.length : Int) < 1
  · simp (disch := first | assumption | omega | rfl | (refine id ?_; simp only [gxD, ne_eq, reduceCtorEq, not_false_eq_true, Nat.reduceAdd, *]; done) | (refine id ?_; simp only [gxD]; omega)) only [↓gxPre, gxPost, ↓reduceIte, Nat.reduceEqDiff, reduceCtorEq, Nat.reduceAdd, hu.len, hul]
    have : within xss.length 1 most = false := by simp [within]; omega
    simp only [rowsF, this, Bool.false_and]
  by_cases h6 : most < xss.length
  · simp (disch := first | assumption | omega | rfl | (refine id ?_; simp only [gxD, ne_eq, reduceCtorEq, not_false_eq_true, Nat.reduceAdd, *]; done) | (refine id ?_; simp only [gxD]; omega)) only [↓gxPre, gxPost, ↓reduceIte, Nat.reduceEqDiff, reduceCtorEq, Nat.reduceAdd, hu.len, hul]
    have : within xss.length 1 most = false := by simp [within]; omega
    simp only [rowsF, this, Bool.false_and]
  have h1 : within xss.length 1 most = true := within_true.2 ⟨by omega, by omega⟩
  simp (disch := first | assumption | omega | rfl | (refine id ?_; simp only [gxD, ne_eq, reduceCtorEq, not_false_eq_true, Nat.reduceAdd, *]; done) | (refine id ?_; simp only [gxD]; omega)) only [↓gxPre, gxPost, ↓reduceIte, Nat.reduceEqDiff, reduceCtorEq, Nat.reduceAdd, hu.len, hul]
  refine loop_forH xss.length (fun i => [v, .int .i64 xss.length, .int .i64 i]) (fun i G' => H = G' ∧ ∀ j, j < i → (isLongF (xss.getD j []) && decide ((xss.getD j []).length = (xss.getD 0 []).length)) = true) rfl ⟨rfl, by intros; omega⟩ ?_ ?_
  · rintro _ ⟨rfl, hJ⟩
    simp (disch := first | assumption | omega | rfl | (refine id ?_; simp only [gxD, ne_eq, reduceCtorEq, not_false_eq_true, Nat.reduceAdd, *]; done) | (refine id ?_; simp only [gxD]; omega)) only [↓gxPre, gxPost, ↓reduceIte, Nat.reduceEqDiff, reduceCtorEq, Nat.reduceAdd, Int.lt_irrefl]
    simp only [rowsF, h1, allR.2 hJ, Bool.and_true]
  · rintro i _ hi ⟨rfl, hJ⟩
    simp (disch := first | assumption | omega | rfl | (refine id ?_; simp only [gxD, ne_eq, reduceCtorEq, not_false_eq_true, Nat.reduceAdd, *]; done) | (refine id ?_; simp only [gxD]; omega)) only [↓gxPre, gxPost, ↓reduceIte, Nat.reduceEqDiff, reduceCtorEq, Nat.reduceAdd, hu.ia, hu.ldD, hul]
    refine callR_pure (s_l03Long_ok (hus i hi) (totL_row hm i)) (.inl rfl) ?_
    cases h4 : isLongF (xss.getD i [])
    · simp (disch := first | assumption | omega | rfl | (refine id ?_; simp only [gxD, ne_eq, reduceCtorEq, not_false_eq_true, Nat.reduceAdd, *]; done) | (refine id ?_; simp only [gxD]; omega)) only [↓gxPre, gxPost, ↓reduceIte, Nat.reduceEqDiff, reduceCtorEq, Nat.reduceAdd]
      rw [rows_no hi (by simp only [h4, Bool.false_and])]
    by_cases c1 : (xss.getD i []).length = (xss.getD 0 []).length
    · have c1' : ((xss.getD i []).length : Int) = (xss.getD 0 []).length := by omega
      simp (disch := first | assumption | omega | rfl | (refine id ?_; simp only [gxD, ne_eq, reduceCtorEq, not_false_eq_true, Nat.reduceAdd, *]; done) | (refine id ?_; simp only [gxD]; omega)) only [↓gxPre, gxPost, ↓reduceIte, Nat.reduceEqDiff, reduceCtorEq, Nat.reduceAdd, hu.ia, hu.ldD, hul, (hus i hi).len, (hus 0 (by omega)).len, c1', ne_eq, not_true, Int.reduceToNat]
      refine ⟨by simp, Nat.forall_lt_succ_right.2 ⟨hJ, ?_⟩⟩
      simp only [h4, c1, decide_true, Bool.and_true]
    · have c1' : ¬ ((xss.getD i []).length : Int) = (xss.getD 0 []).length := by omega
      simp (disch := first | assumption | omega | rfl | (refine id ?_; simp only [gxD, ne_eq, reduceCtorEq, not_false_eq_true, Nat.reduceAdd, *]; done) | (refine id ?_; simp only [gxD]; omega)) only [↓gxPre, gxPost, ↓reduceIte, Nat.reduceEqDiff, reduceCtorEq, Nat.reduceAdd, hu.ia, hu.ldD, hul, (hus i hi).len, (hus 0 (by omega)).len, c1', ne_eq, not_false_eq_true, Int.reduceToNat]
      rw [rows_no hi (by simp only [decide_eq_false c1, Bool.and_false])]
end Go.Proofs.Ytddekdgggpifmaa

namespace Go.Proofs.Ytddekdgggpifmaa
open Go.Gx
set_option maxRecDepth 100000
set_option linter.unusedSimpArgs false
set_option linter.unusedVariables false

theorem i_PowersOfBands_law {H : Heap} {v0 u0 : Value} {xs0 : List Nat} {ys0 : List (List Nat)} (A : AF H v0 xs0) (B : AS H u0 ys0) :
    ACalls Try.prog n_i_PowersOfBands [.agg #[v0, u0]] H fun r H' => ListR fv t_float32 H (validBandsF xs0 ys0 && (powersF xs0 ys0).all finF) (powersF xs0 ys0) r H' := by
  have hm := B.le
  have hnx : ys0.length ≤ 2 ^ 40 := by unfold totL at hm; omega
  have o1 := A.rd.one
  have o2 := B.rd.one'
  obtain ⟨us, hu, hul, hus⟩ := B.rd
  refine k_i_PowersOfBands.run rfl ?_
  unfold c_i_PowersOfBands
  simp (disch := first | assumption | omega | rfl | (refine id ?_; simp only [gxD, ne_eq, reduceCtorEq, not_false_eq_true, Nat.reduceAdd, *]; done) | (refine id ?_; simp only [gxD]; omega)) only [↓gxPre, gxPost, ↓reduceIte, Nat.reduceEqDiff, reduceCtorEq, Nat.reduceAdd]
  refine callR_new ?_
  intro G e hb nn
  refine callR_ext (i_ValidBands_ok (A.rd.ext e) (B.rd.ext e) A.le B.le) ?_
  intro K n1 b1
  have eK : Ext H K := e.trans ⟨n1, b1⟩
  have hbK := (b1 H.n (by omega)).trans hb
  cases hk : validBandsF xs0 ys0
  · simp (disch := first | assumption | omega | rfl | (refine id ?_; simp only [gxD, ne_eq, reduceCtorEq, not_false_eq_true, Nat.reduceAdd, *]; done) | (refine id ?_; simp only [gxD]; omega)) only [↓gxPre, gxPost, ↓reduceIte, Nat.reduceEqDiff, reduceCtorEq, Nat.reduceAdd, Bool.false_and, Bool.true_and, Bool.and_true, Bool.and_false, Bool.or_true, Bool.true_or, Bool.false_or, Bool.or_false, Bool.and_self, Bool.or_self]
    exact .no rfl eK
  have hK0 : H.n < K.n := by omega
  simp (disch := first | assumption | omega | rfl | (refine id ?_; simp only [gxD, ne_eq, reduceCtorEq, not_false_eq_true, Nat.reduceAdd, *]; done) | (refine id ?_; simp only [gxD]; omega)) only [↓gxPre, gxPost, ↓reduceIte, Nat.reduceEqDiff, reduceCtorEq, Nat.reduceAdd, hbK, hu.len, hul]
  refine loop_forH ys0.length (fun i => [.pointer (some ⟨H.n, 0, some 2⟩), .slice (some ⟨K.n, 0, none⟩) i i, u0, .int .i64 ys0.length, .int .i64 i])
    (fun i G => K.n + 1 ≤ G.n ∧ Ext K G ∧ G.blk K.n = some ⟨true, t_float32, (tabL i (sqF ys0)).map fv⟩) rfl ⟨by simp only [new_n]; omega, ⟨by first | omega | (simp only [new_n, put_n]; omega) | (simp only [new_n, put_n] at *; omega), fun i hi => by simp (disch := first | assumption | omega | rfl | (refine id ?_; simp only [gxD, ne_eq, reduceCtorEq, not_false_eq_true, Nat.reduceAdd, *]; done) | (refine id ?_; simp only [gxD]; omega)) only [↓gxPre, gxPost, ↓reduceIte, Nat.reduceEqDiff, reduceCtorEq, Nat.reduceAdd, *]⟩, by simp (disch := first | assumption | omega | rfl | (refine id ?_; simp only [gxD, ne_eq, reduceCtorEq, not_false_eq_true, Nat.reduceAdd, *]; done) | (refine id ?_; simp only [gxD]; omega)) only [↓gxPre, gxPost, ↓reduceIte, Nat.reduceEqDiff, reduceCtorEq, Nat.reduceAdd]; rfl⟩ ?_ ?_
  · rintro G ⟨hG, hE, hc⟩
    have hv' := (A.rd.ext eK).ext hE
    have hb' := (hE.blk H.n hK0).trans hbK
    have ht := tabL_length ys0.length (sqF ys0)
    obtain ⟨f1, f2, f3, f4⟩ := push_at hE hc (Nat.le_refl _) (by omega) (fv_snoc' (tabL ys0.length (sqF ys0)) (squaresF xs0))
    have hl : (powersF xs0 ys0).length = ys0.length + 1 := by simp [powersF, tabL_length]
    have h6 := (vb_yes hk).1
    simp (disch := first | assumption | omega | rfl | (refine id ?_; simp only [gxD, ne_eq, reduceCtorEq, not_false_eq_true, Nat.reduceAdd, *]; done) | (refine id ?_; simp only [gxD]; omega)) only [↓gxPre, gxPost, ↓reduceIte, Nat.reduceEqDiff, reduceCtorEq, Nat.reduceAdd, Int.lt_irrefl, hb']
    refine callR_pure (i_squares_ok hv' A.le) (.inl rfl) ?_
    simp (disch := first | assumption | omega | rfl | (refine id ?_; simp only [gxD, ne_eq, reduceCtorEq, not_false_eq_true, Nat.reduceAdd, *]; done) | (refine id ?_; simp only [gxD]; omega)) only [↓gxPre, gxPost, ↓reduceIte, Nat.reduceEqDiff, reduceCtorEq, Nat.reduceAdd, hc, lMapN, tabL_length]
    refine callR_ext (i_finiteList_ok (xs := powersF xs0 ys0) (FS.own f2 (by first | omega | (simp only [new_n, put_n]; omega)) hl) (by omega)) ?_
    intro G2 n2 b2
    have e2 : Ext ((G.new ⟨true, t_float32, [.float .f32 (squaresF xs0)]⟩).put K.n ⟨true, t_float32, (tabL ys0.length (sqF ys0)).map fv ++ [.float .f32 (squaresF xs0)]⟩) G2 := ⟨n2, b2⟩
    rw [f3] at n2
    cases hf : (powersF xs0 ys0).all finF
    · simp (disch := first | assumption | omega | rfl | (refine id ?_; simp only [gxD, ne_eq, reduceCtorEq, not_false_eq_true, Nat.reduceAdd, *]; done) | (refine id ?_; simp only [gxD]; omega)) only [↓gxPre, gxPost, ↓reduceIte, Nat.reduceEqDiff, reduceCtorEq, Nat.reduceAdd, listV]
      exact .no rfl ((eK.trans f1).trans e2)
    · simp (disch := first | assumption | omega | rfl | (refine id ?_; simp only [gxD, ne_eq, reduceCtorEq, not_false_eq_true, Nat.reduceAdd, *]; done) | (refine id ?_; simp only [gxD]; omega)) only [↓gxPre, gxPost, ↓reduceIte, Nat.reduceEqDiff, reduceCtorEq, Nat.reduceAdd, listV]
      exact .yes rfl ((eK.trans f1).trans e2) (.mk ((e2.blk K.n (by first | omega | (simp only [new_n, put_n]; omega))).trans f2) (by simpa using hl) (by first | omega | (simp only [new_n, put_n]; omega)) (by first | omega | (simp only [new_n, put_n]; omega)) (by first | omega | (simp only [new_n, put_n]; omega))) (by omega)
  · rintro i G hi ⟨hG, hE, hc⟩
    have hu' := (hu.ext eK).ext hE
    have ht := tabL_length i (sqF ys0)
    have hm5 : (tabL i (sqF ys0)).map fv ++ [.float .f32 (squaresF (ys0.getD i []))] = (tabL (i + 1) (sqF ys0)).map fv := by rw [tabL_succ, ← fv_snoc']; rfl
    obtain ⟨f1, f2, f3, f4⟩ := push_at hE hc (Nat.le_refl _) (by omega) hm5
    simp (disch := first | assumption | omega | rfl | (refine id ?_; simp only [gxD, ne_eq, reduceCtorEq, not_false_eq_true, Nat.reduceAdd, *]; done) | (refine id ?_; simp only [gxD]; omega)) only [↓gxPre, gxPost, ↓reduceIte, Nat.reduceEqDiff, reduceCtorEq, Nat.reduceAdd, hu'.ia, hu'.ldD, hul]
    refine callR_pure (i_squares_ok (((hus i hi).ext eK).ext hE) (totL_row hm i)) (.inl rfl) ?_
    simp (disch := first | assumption | omega | rfl | (refine id ?_; simp only [gxD, ne_eq, reduceCtorEq, not_false_eq_true, Nat.reduceAdd, *]; done) | (refine id ?_; simp only [gxD]; omega)) only [↓gxPre, gxPost, ↓reduceIte, Nat.reduceEqDiff, reduceCtorEq, Nat.reduceAdd, hc, lMapN, tabL_length]
    exact ⟨by simp, by omega, f1, by rw [hm5]⟩
theorem s_l03Energy_ok {H : Heap} {v : Value} {xs : List Nat} (hv : FS H v xs) (hn : xs.length ≤ 2 ^ 40) :
    ACalls Try.prog n_s_l03Energy [v] H fun r H' => r = .float .f32 (squaresF xs) ∧ H' = H := by
  refine k_s_l03Energy.run rfl ?_
  unfold c_s_l03Energy
  simp (disch := first | assumption | omega | rfl | (refine id ?_; simp only [gxD, ne_eq, reduceCtorEq, not_false_eq_true, Nat.reduceAdd, *]; done) | (refine id ?_; simp only [gxD]; omega)) only [↓gxPre, gxPost, ↓reduceIte, Nat.reduceEqDiff, reduceCtorEq, Nat.reduceAdd, hv.len]
  refine loop_for xs.length (fun i => [v, .float .f32 (foldI (fun i s => fbin .add .f32 s (fbin .mul .f32 (xs.getD i 0) (xs.getD i 0))) 0 i), .int .i64 xs.length, .int .i64 i]) rfl ?_ ?_
  · simp (disch := first | assumption | omega | rfl | (refine id ?_; simp only [gxD, ne_eq, reduceCtorEq, not_false_eq_true, Nat.reduceAdd, *]; done) | (refine id ?_; simp only [gxD]; omega)) only [↓gxPre, gxPost, ↓reduceIte, Nat.reduceEqDiff, reduceCtorEq, Nat.reduceAdd, hv.len, Int.lt_irrefl]
    rfl
  · intro i hi
    simp (disch := first | assumption | omega | rfl | (refine id ?_; simp only [gxD, ne_eq, reduceCtorEq, not_false_eq_true, Nat.reduceAdd, *]; done) | (refine id ?_; simp only [gxD]; omega)) only [↓gxPre, gxPost, ↓reduceIte, Nat.reduceEqDiff, reduceCtorEq, Nat.reduceAdd, hv.len, hv.ia, hv.ld, hi]
    simp [foldI_succ]
theorem s_PowersOfBands_law {H : Heap} {v0 u0 : Value} {xs0 : List Nat} {ys0 : List (List Nat)} (A : AF H v0 xs0) (B : AS H u0 ys0) :
    ACalls Try.prog n_s_PowersOfBands [.agg #[v0, u0]] H fun r H' => ListR fv t_float32 H (validBandsF xs0 ys0 && (powersF xs0 ys0).all finF) (powersF xs0 ys0) r H' := by
  have hm := B.le
  have hnx : ys0.length ≤ 2 ^ 40 := by unfold totL at hm; omega
  have o1 := A.rd.one
  have o2 := B.rd.one'
  obtain ⟨us, hu, hul, hus⟩ := B.rd
  refine k_s_PowersOfBands.run rfl ?_
  unfold c_s_PowersOfBands
  simp (disch := first | assumption | omega | rfl | (refine id ?_; simp only [gxD, ne_eq, reduceCtorEq, not_false_eq_true, Nat.reduceAdd, *]; done) | (refine id ?_; simp only [gxD]; omega)) only [↓gxPre, gxPost, ↓reduceIte, Nat.reduceEqDiff, reduceCtorEq, Nat.reduceAdd]
  refine callR_new ?_
  intro K eK hbK nn
  refine callR_pure (s_l03Bands_ok hbK (A.rd.ext eK) (B.rd.ext eK) A.le B.le) (.inl rfl) ?_
  cases hk : validBandsF xs0 ys0
  · simp (disch := first | assumption | omega | rfl | (refine id ?_; simp only [gxD, ne_eq, reduceCtorEq, not_false_eq_true, Nat.reduceAdd, *]; done) | (refine id ?_; simp only [gxD]; omega)) only [↓gxPre, gxPost, ↓reduceIte, Nat.reduceEqDiff, reduceCtorEq, Nat.reduceAdd, Bool.false_and, Bool.true_and, Bool.and_true, Bool.and_false, Bool.or_true, Bool.true_or, Bool.false_or, Bool.or_false, Bool.and_self, Bool.or_self]
    exact .no rfl eK
  have hK0 : H.n < K.n := by omega
  simp (disch := first | assumption | omega | rfl | (refine id ?_; simp only [gxD, ne_eq, reduceCtorEq, not_false_eq_true, Nat.reduceAdd, *]; done) | (refine id ?_; simp only [gxD]; omega)) only [↓gxPre, gxPost, ↓reduceIte, Nat.reduceEqDiff, reduceCtorEq, Nat.reduceAdd, hbK, hu.len, hul]
  refine loop_forH ys0.length (fun i => [.pointer (some ⟨H.n, 0, some 2⟩), .slice (some ⟨K.n, 0, none⟩) i i, .int .i64 ys0.length, .int .i64 i])
    (fun i G => K.n + 1 ≤ G.n ∧ Ext K G ∧ G.blk K.n = some ⟨true, t_float32, (tabL i (sqF ys0)).map fv⟩) rfl ⟨by simp only [new_n]; omega, ⟨by first | omega | (simp only [new_n, put_n]; omega) | (simp only [new_n, put_n] at *; omega), fun i hi => by simp (disch := first | assumption | omega | rfl | (refine id ?_; simp only [gxD, ne_eq, reduceCtorEq, not_false_eq_true, Nat.reduceAdd, *]; done) | (refine id ?_; simp only [gxD]; omega)) only [↓gxPre, gxPost, ↓reduceIte, Nat.reduceEqDiff, reduceCtorEq, Nat.reduceAdd, *]⟩, by simp (disch := first | assumption | omega | rfl | (refine id ?_; simp only [gxD, ne_eq, reduceCtorEq, not_false_eq_true, Nat.reduceAdd, *]; done) | (refine id ?_; simp only [gxD]; omega)) only [↓gxPre, gxPost, ↓reduceIte, Nat.reduceEqDiff, reduceCtorEq, Nat.reduceAdd]; rfl⟩ ?_ ?_
  · rintro G ⟨hG, hE, hc⟩
    have hv' := (A.rd.ext eK).ext hE
    have hb' := (hE.blk H.n hK0).trans hbK
    have ht := tabL_length ys0.length (sqF ys0)
    obtain ⟨f1, f2, f3, f4⟩ := push_at hE hc (Nat.le_refl _) (by omega) (fv_snoc' (tabL ys0.length (sqF ys0)) (squaresF xs0))
    have hl : (powersF xs0 ys0).length = ys0.length + 1 := by simp [powersF, tabL_length]
    have h6 := (vb_yes hk).1
    simp (disch := first | assumption | omega | rfl | (refine id ?_; simp only [gxD, ne_eq, reduceCtorEq, not_false_eq_true, Nat.reduceAdd, *]; done) | (refine id ?_; simp only [gxD]; omega)) only [↓gxPre, gxPost, ↓reduceIte, Nat.reduceEqDiff, reduceCtorEq, Nat.reduceAdd, Int.lt_irrefl, hb']
    refine callR_pure (s_l03Energy_ok hv' A.le) (.inl rfl) ?_
    simp (disch := first | assumption | omega | rfl | (refine id ?_; simp only [gxD, ne_eq, reduceCtorEq, not_false_eq_true, Nat.reduceAdd, *]; done) | (refine id ?_; simp only [gxD]; omega)) only [↓gxPre, gxPost, ↓reduceIte, Nat.reduceEqDiff, reduceCtorEq, Nat.reduceAdd, hc, lMapN, tabL_length]
    refine callR_pure (s_l02Finite_ok (xs := powersF xs0 ys0) (FS.own f2 (by first | omega | (simp only [new_n, put_n]; omega)) hl) (by omega)) (.inl rfl) ?_
    cases hf : (powersF xs0 ys0).all finF
    · simp (disch := first | assumption | omega | rfl | (refine id ?_; simp only [gxD, ne_eq, reduceCtorEq, not_false_eq_true, Nat.reduceAdd, *]; done) | (refine id ?_; simp only [gxD]; omega)) only [↓gxPre, gxPost, ↓reduceIte, Nat.reduceEqDiff, reduceCtorEq, Nat.reduceAdd]
      exact .no rfl (eK.trans f1)
    · simp (disch := first | assumption | omega | rfl | (refine id ?_; simp only [gxD, ne_eq, reduceCtorEq, not_false_eq_true, Nat.reduceAdd, *]; done) | (refine id ?_; simp only [gxD]; omega)) only [↓gxPre, gxPost, ↓reduceIte, Nat.reduceEqDiff, reduceCtorEq, Nat.reduceAdd]
      exact .yes rfl (eK.trans f1) (.mk f2 (by simpa using hl) (by first | omega | (simp only [new_n, put_n]; omega)) (by first | omega | (simp only [new_n, put_n]; omega)) (by first | omega | (simp only [new_n, put_n]; omega))) (by omega)
  · rintro i G hi ⟨hG, hE, hc⟩
    have hu' := (hu.ext eK).ext hE
    have hb' := (hE.blk H.n hK0).trans hbK
    have ht := tabL_length i (sqF ys0)
    have hm5 : (tabL i (sqF ys0)).map fv ++ [.float .f32 (squaresF (ys0.getD i []))] = (tabL (i + 1) (sqF ys0)).map fv := by rw [tabL_succ, ← fv_snoc']; rfl
    obtain ⟨f1, f2, f3, f4⟩ := push_at hE hc (Nat.le_refl _) (by omega) hm5
    simp (disch := first | assumption | omega | rfl | (refine id ?_; simp only [gxD, ne_eq, reduceCtorEq, not_false_eq_true, Nat.reduceAdd, *]; done) | (refine id ?_; simp only [gxD]; omega)) only [↓gxPre, gxPost, ↓reduceIte, Nat.reduceEqDiff, reduceCtorEq, Nat.reduceAdd, hb', hu'.ia, hu'.ldD, hul]
    refine callR_pure (s_l03Energy_ok (((hus i hi).ext eK).ext hE) (totL_row hm i)) (.inl rfl) ?_
    simp (disch := first | assumption | omega | rfl | (refine id ?_; simp only [gxD, ne_eq, reduceCtorEq, not_false_eq_true, Nat.reduceAdd, *]; done) | (refine id ?_; simp only [gxD]; omega)) only [↓gxPre, gxPost, ↓reduceIte, Nat.reduceEqDiff, reduceCtorEq, Nat.reduceAdd, hc, lMapN, tabL_length]
    exact ⟨by simp, by omega, f1, by rw [hm5]⟩
end Go.Proofs.Ytddekdgggpifmaa

namespace Go.Proofs.Ytddekdgggpifmaa
open Go.Gx
set_option maxRecDepth 100000
set_option linter.unusedSimpArgs false
set_option linter.unusedVariables false

theorem rows_yes {xss : List (List Nat)} {most : Int} (h : rowsF xss most = true) : (1 ≤ (xss.length : Int) ∧ (xss.length : Int) ≤ most) ∧ ∀ j, j < xss.length → isLongF (xss.getD j []) = true ∧ (xss.getD j []).length = (xss.getD 0 []).length := by
  unfold rowsF at h
  simp only [Bool.and_eq_true] at h
  refine ⟨within_true.1 h.1, fun j hj => ?_⟩
  have := allR.1 h.2 j hj
  simpa using this
theorem long_len {xs : List Nat} (h : isLongF xs = true) : (1 ≤ xs.length ∧ xs.length ≤ 128) ∧ xs.all finF = true := by
  unfold isLongF at h
  simp only [Bool.and_eq_true] at h
  have := within_true.1 h.1
  exact ⟨by omega, h.2⟩
end Go.Proofs.Ytddekdgggpifmaa

namespace Go.Proofs.Ytddekdgggpifmaa
open Go.Gx
set_option maxRecDepth 100000
set_option linter.unusedSimpArgs false
set_option linter.unusedVariables false

theorem OwN_put {lo hi h : Nat} {H : Heap} {ty sty : TypeId} {vs : List Value} {ls : List (List Value)} {cs : List Value} {own : Bool} {b : Blk} (o : OwN lo hi H ty vs ls) (hb : H.blk h = some ⟨own, sty, cs⟩) (hne : sty ≠ ty) : OwN lo hi (H.put h b) ty vs ls :=
  o.keep (Nat.le_refl _) fun i k hi' hk => hput_other _ _ _ _ fun e => (o.2.1 i hi').ne hb hne (by rw [hk, e])
end Go.Proofs.Ytddekdgggpifmaa
