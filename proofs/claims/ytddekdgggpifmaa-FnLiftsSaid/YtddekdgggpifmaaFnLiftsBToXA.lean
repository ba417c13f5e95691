/- What the functions of the program do: contracts that are proved. -/
import Derived.Test.YtddekdgggpifmaaFnLiftsCode
import Derived.Test.YtddekdgggpifmaaGxTrig
import Derived.Test.YtddekdgggpifmaaGxBytes
import Derived.Test.YtddekdgggpifmaaGxLiftW
import Derived.Test.YtddekdgggpifmaaGxNine
namespace Go.Proofs.Ytddekdgggpifmaa
open Go.Gx
set_option maxRecDepth 100000
set_option linter.unusedSimpArgs false
set_option linter.unusedVariables false

theorem i_within_ok {H : Heap} {a b c : Int} :
    ACalls Try.prog n_i_within [.int .i64 a, .int .i64 b, .int .i64 c] H fun r H' => r = .bool (within a b c) ∧ H' = H := by
  refine k_i_within.run rfl ?_
  unfold c_i_within
  ((try simp (disch := first | assumption | omega | rfl | (refine id ?_; simp only [gxD, ne_eq, reduceCtorEq, not_false_eq_true, Nat.reduceAdd, *]; done) | (refine id ?_; simp only [gxD]; omega)) only [↓gxPre, gxPost, ↓reduceIte, Nat.reduceEqDiff, reduceCtorEq, Nat.reduceAdd, *]); repeat' (first | (refine grdR_split (fun _ => ?_) (fun _ => ?_) <;> simp (disch := first | assumption | omega | rfl | (refine id ?_; simp only [gxD, ne_eq, reduceCtorEq, not_false_eq_true, Nat.reduceAdd, *]; done) | (refine id ?_; simp only [gxD]; omega)) only [↓gxPre, gxPost, ↓reduceIte, Nat.reduceEqDiff, reduceCtorEq, Nat.reduceAdd, *]) | (refine condR_split (fun _ => ?_) (fun _ => ?_) <;> simp (disch := first | assumption | omega | rfl | (refine id ?_; simp only [gxD, ne_eq, reduceCtorEq, not_false_eq_true, Nat.reduceAdd, *]; done) | (refine id ?_; simp only [gxD]; omega)) only [↓gxPre, gxPost, ↓reduceIte, Nat.reduceEqDiff, reduceCtorEq, Nat.reduceAdd, *])))
  all_goals (simp_all [within]; try omega)
theorem i_IsFinite_ok {H : Heap} {x : Nat} : ACalls Try.prog n_i_IsFinite [.float .f32 x] H fun r H' => r = .bool (finF x) ∧ H' = H := by
  refine k_i_IsFinite.run rfl ?_
  unfold c_i_IsFinite
  ((try simp (disch := first | assumption | omega | rfl | (refine id ?_; simp only [gxD, ne_eq, reduceCtorEq, not_false_eq_true, Nat.reduceAdd, *]; done) | (refine id ?_; simp only [gxD]; omega)) only [↓gxPre, gxPost, ↓reduceIte, Nat.reduceEqDiff, reduceCtorEq, Nat.reduceAdd, finF, *]); repeat' (first | (refine grdR_split (fun _ => ?_) (fun _ => ?_) <;> simp (disch := first | assumption | omega | rfl | (refine id ?_; simp only [gxD, ne_eq, reduceCtorEq, not_false_eq_true, Nat.reduceAdd, *]; done) | (refine id ?_; simp only [gxD]; omega)) only [↓gxPre, gxPost, ↓reduceIte, Nat.reduceEqDiff, reduceCtorEq, Nat.reduceAdd, finF, *]) | (refine condR_split (fun _ => ?_) (fun _ => ?_) <;> simp (disch := first | assumption | omega | rfl | (refine id ?_; simp only [gxD, ne_eq, reduceCtorEq, not_false_eq_true, Nat.reduceAdd, *]; done) | (refine id ?_; simp only [gxD]; omega)) only [↓gxPre, gxPost, ↓reduceIte, Nat.reduceEqDiff, reduceCtorEq, Nat.reduceAdd, finF, *])))
theorem i_areFinite_ok {H : Heap} {w : Value} {xss : List (List Nat)} (hw : SS H w xss) (hn : xss.length ≤ 2 ^ 40) (hx : ∀ j, j < xss.length → (xss.getD j []).length ≤ 2 ^ 40) :
    ACalls Try.prog n_i_areFinite [w] H fun r H' => r = .bool (xss.all fun xs => xs.all finF) ∧ H' = H := by
  obtain ⟨vs, hv, hl, hvs⟩ := hw
  refine k_i_areFinite.run rfl ?_
  unfold c_i_areFinite
  simp (disch := first | assumption | omega | rfl | (refine id ?_; simp only [gxD, ne_eq, reduceCtorEq, not_false_eq_true, Nat.reduceAdd, *]; done) | (refine id ?_; simp only [gxD]; omega)) only [↓gxPre, gxPost, ↓reduceIte, Nat.reduceEqDiff, reduceCtorEq, Nat.reduceAdd, hv.len, hl]
  refine loop_forH xss.length (fun i => [w, .int .i64 xss.length, .int .i64 i]) (fun i H' => H = H' ∧ ∀ j, j < i → (xss.getD j []).all finF = true) rfl ⟨rfl, by intros; omega⟩ ?_ ?_
  · rintro _ ⟨rfl, hJ⟩
    ((try simp (disch := first | assumption | omega | rfl | (refine id ?_; simp only [gxD, ne_eq, reduceCtorEq, not_false_eq_true, Nat.reduceAdd, *]; done) | (refine id ?_; simp only [gxD]; omega)) only [↓gxPre, gxPost, ↓reduceIte, Nat.reduceEqDiff, reduceCtorEq, Nat.reduceAdd, Int.lt_irrefl, *]); repeat' (first | (refine grdR_split (fun _ => ?_) (fun _ => ?_) <;> simp (disch := first | assumption | omega | rfl | (refine id ?_; simp only [gxD, ne_eq, reduceCtorEq, not_false_eq_true, Nat.reduceAdd, *]; done) | (refine id ?_; simp only [gxD]; omega)) only [↓gxPre, gxPost, ↓reduceIte, Nat.reduceEqDiff, reduceCtorEq, Nat.reduceAdd, Int.lt_irrefl, *]) | (refine condR_split (fun _ => ?_) (fun _ => ?_) <;> simp (disch := first | assumption | omega | rfl | (refine id ?_; simp only [gxD, ne_eq, reduceCtorEq, not_false_eq_true, Nat.reduceAdd, *]; done) | (refine id ?_; simp only [gxD]; omega)) only [↓gxPre, gxPost, ↓reduceIte, Nat.reduceEqDiff, reduceCtorEq, Nat.reduceAdd, Int.lt_irrefl, *])))
    rw [(allD []).2 hJ]
  · rintro i _ hi ⟨rfl, hJ⟩
    have hu := hvs i hi
    have hxi := hx i hi
    simp (disch := first | assumption | omega | rfl | (refine id ?_; simp only [gxD, ne_eq, reduceCtorEq, not_false_eq_true, Nat.reduceAdd, *]; done) | (refine id ?_; simp only [gxD]; omega)) only [↓gxPre, gxPost, ↓reduceIte, Nat.reduceEqDiff, reduceCtorEq, Nat.reduceAdd, hi, hv.ia, hv.ldD, hl, hu.len]
    refine loop_forH (xss.getD i []).length (fun j => [w, .int .i64 xss.length, .int .i64 i, vs.getD i undef, .int .i64 (xss.getD i []).length, .int .i64 j]) (fun j H' => H = H' ∧ ∀ k, k < j → finF ((xss.getD i []).getD k 0) = true) rfl ⟨rfl, by intros; omega⟩ ?_ ?_
    · rintro _ ⟨rfl, hK⟩
      simp (disch := first | assumption | omega | rfl | (refine id ?_; simp only [gxD, ne_eq, reduceCtorEq, not_false_eq_true, Nat.reduceAdd, *]; done) | (refine id ?_; simp only [gxD]; omega)) only [↓gxPre, gxPost, ↓reduceIte, Nat.reduceEqDiff, reduceCtorEq, Nat.reduceAdd, Int.lt_irrefl]
      exact ⟨by simp, Nat.forall_lt_succ_right.2 ⟨hJ, all_getD.2 hK⟩⟩
    · rintro j _ hj ⟨rfl, hK⟩
      ((try simp (disch := first | assumption | omega | rfl | (refine id ?_; simp only [gxD, ne_eq, reduceCtorEq, not_false_eq_true, Nat.reduceAdd, *]; done) | (refine id ?_; simp only [gxD]; omega)) only [↓gxPre, gxPost, ↓reduceIte, Nat.reduceEqDiff, reduceCtorEq, Nat.reduceAdd, hj, hu.ia, hu.ld, *]); repeat' (first | (refine grdR_split (fun _ => ?_) (fun _ => ?_) <;> simp (disch := first | assumption | omega | rfl | (refine id ?_; simp only [gxD, ne_eq, reduceCtorEq, not_false_eq_true, Nat.reduceAdd, *]; done) | (refine id ?_; simp only [gxD]; omega)) only [↓gxPre, gxPost, ↓reduceIte, Nat.reduceEqDiff, reduceCtorEq, Nat.reduceAdd, hj, hu.ia, hu.ld, *]) | (refine condR_split (fun _ => ?_) (fun _ => ?_) <;> simp (disch := first | assumption | omega | rfl | (refine id ?_; simp only [gxD, ne_eq, reduceCtorEq, not_false_eq_true, Nat.reduceAdd, *]; done) | (refine id ?_; simp only [gxD]; omega)) only [↓gxPre, gxPost, ↓reduceIte, Nat.reduceEqDiff, reduceCtorEq, Nat.reduceAdd, hj, hu.ia, hu.ld, *]) | (refine callR_pure (i_IsFinite_ok) (by first | exact Or.inl rfl | (simp (disch := first | assumption | omega | rfl | (refine id ?_; simp only [gxD, ne_eq, reduceCtorEq, not_false_eq_true, Nat.reduceAdd, *]; done) | (refine id ?_; simp only [gxD]; omega)) only [↓gxPre, gxPost, ↓reduceIte, Nat.reduceEqDiff, reduceCtorEq, Nat.reduceAdd, hj, hu.ia, hu.ld, *]; done)) ?_; simp (disch := first | assumption | omega | rfl | (refine id ?_; simp only [gxD, ne_eq, reduceCtorEq, not_false_eq_true, Nat.reduceAdd, *]; done) | (refine id ?_; simp only [gxD]; omega)) only [↓gxPre, gxPost, ↓reduceIte, Nat.reduceEqDiff, reduceCtorEq, Nat.reduceAdd, hj, hu.ia, hu.ld, *])))
      · rename_i h; simp only [Bool.not_eq_true'] at h
        rw [allD_false [] hi (all_false hj h)]
      · rename_i h; simp only [Bool.not_eq_false'] at h
        exact ⟨by simp, Nat.forall_lt_succ_right.2 ⟨hK, h⟩⟩
theorem i_areFinite1_ok {H : Heap} {h : Nat} {own : Bool} {ty : TypeId} {v : Value} {xs : List Nat} (hb : H.blk h = some ⟨own, ty, [v]⟩) (hh : h < H.n) (hv : FS H v xs) (hn : xs.length ≤ 2 ^ 40) :
    ACalls Try.prog n_i_areFinite [.slice (some ⟨h, 0, none⟩) 1 1] H fun r H' => r = .bool (xs.all finF) ∧ H' = H := by
  refine (i_areFinite_ok (SS.one hb hh hv) (by simp) ?_).mono ?_
  · intro j hj
    have : j = 0 := by simpa using hj
    subst this; exact hn
  · rintro _ _ ⟨rfl, rfl⟩
    simp
theorem i_areFinite2_ok {H : Heap} {h : Nat} {own : Bool} {ty : TypeId} {v u : Value} {xs ys : List Nat} (hb : H.blk h = some ⟨own, ty, [v, u]⟩) (hh : h < H.n) (hv : FS H v xs) (hu : FS H u ys) (hn : xs.length ≤ 2 ^ 40) (hm : ys.length ≤ 2 ^ 40) :
    ACalls Try.prog n_i_areFinite [.slice (some ⟨h, 0, none⟩) 2 2] H fun r H' => r = .bool (xs.all finF && ys.all finF) ∧ H' = H := by
  refine (i_areFinite_ok (SS.two hb hh hv hu) (by simp) ?_).mono ?_
  · intro j hj
    have : j = 0 ∨ j = 1 := by have : j < 2 := by simpa using hj
                               omega
    rcases this with rfl | rfl
    · exact hn
    · exact hm
  · rintro _ _ ⟨rfl, rfl⟩
    simp
theorem i_squares_ok {H : Heap} {v : Value} {xs : List Nat} (hv : FS H v xs) (hn : xs.length ≤ 2 ^ 40) :
    ACalls Try.prog n_i_squares [v] H fun r H' => r = .float .f32 (squaresF xs) ∧ H' = H := by
  refine k_i_squares.run rfl ?_
  unfold c_i_squares
  simp (disch := first | assumption | omega | rfl | (refine id ?_; simp only [gxD, ne_eq, reduceCtorEq, not_false_eq_true, Nat.reduceAdd, *]; done) | (refine id ?_; simp only [gxD]; omega)) only [↓gxPre, gxPost, ↓reduceIte, Nat.reduceEqDiff, reduceCtorEq, Nat.reduceAdd, hv.len]
  refine loop_for xs.length (fun i => [.float .f32 (foldI (fun i s => fbin .add .f32 s (fbin .mul .f32 (xs.getD i 0) (xs.getD i 0))) 0 i), v, .int .i64 xs.length, .int .i64 i]) rfl ?_ ?_
  · simp (disch := first | assumption | omega | rfl | (refine id ?_; simp only [gxD, ne_eq, reduceCtorEq, not_false_eq_true, Nat.reduceAdd, *]; done) | (refine id ?_; simp only [gxD]; omega)) only [↓gxPre, gxPost, ↓reduceIte, Nat.reduceEqDiff, reduceCtorEq, Nat.reduceAdd, Int.lt_irrefl]
    rfl
  · intro i hi
    simp (disch := first | assumption | omega | rfl | (refine id ?_; simp only [gxD, ne_eq, reduceCtorEq, not_false_eq_true, Nat.reduceAdd, *]; done) | (refine id ?_; simp only [gxD]; omega)) only [↓gxPre, gxPost, ↓reduceIte, Nat.reduceEqDiff, reduceCtorEq, Nat.reduceAdd, hv.ia, hv.ld, hi]
    simp [foldI_succ]
end Go.Proofs.Ytddekdgggpifmaa

namespace Go.Proofs.Ytddekdgggpifmaa
open Go.Gx
set_option maxRecDepth 100000
set_option linter.unusedSimpArgs false
set_option linter.unusedVariables false

theorem i_finite_ok {H : Heap} {x : Nat} : ACalls Try.prog n_i_finite [.float .f32 x] H fun r H' => r = numV x ∧ H' = H := by
  refine k_i_finite.run rfl ?_
  unfold c_i_finite
  simp (disch := first | assumption | omega | rfl | (refine id ?_; simp only [gxD, ne_eq, reduceCtorEq, not_false_eq_true, Nat.reduceAdd, *]; done) | (refine id ?_; simp only [gxD]; omega)) only [↓gxPre, gxPost, ↓reduceIte, Nat.reduceEqDiff, reduceCtorEq, Nat.reduceAdd]
  refine callR_pure i_IsFinite_ok (.inl rfl) ?_
  cases h : finF x
  · simp (disch := first | assumption | omega | rfl | (refine id ?_; simp only [gxD, ne_eq, reduceCtorEq, not_false_eq_true, Nat.reduceAdd, *]; done) | (refine id ?_; simp only [gxD]; omega)) only [↓gxPre, gxPost, ↓reduceIte, Nat.reduceEqDiff, reduceCtorEq, Nat.reduceAdd]
    simp [numV, h]
  · simp (disch := first | assumption | omega | rfl | (refine id ?_; simp only [gxD, ne_eq, reduceCtorEq, not_false_eq_true, Nat.reduceAdd, *]; done) | (refine id ?_; simp only [gxD]; omega)) only [↓gxPre, gxPost, ↓reduceIte, Nat.reduceEqDiff, reduceCtorEq, Nat.reduceAdd]
    simp [numV, h]
end Go.Proofs.Ytddekdgggpifmaa

namespace Go.Proofs.Ytddekdgggpifmaa
open Go.Gx
set_option maxRecDepth 100000
set_option linter.unusedSimpArgs false
set_option linter.unusedVariables false

theorem acalls_ext {P : Program} {f : FuncId} {args : List Value} {H : Heap} {v : Value} (h : ACalls P f args H fun r H' => r = v ∧ H' = H) : ACalls P f args H fun r H' => r = v ∧ Ext H H' :=
  h.mono (by rintro _ _ ⟨rfl, rfl⟩; exact ⟨rfl, .refl _⟩)
end Go.Proofs.Ytddekdgggpifmaa

namespace Go.Proofs.Ytddekdgggpifmaa
open Go.Gx
set_option maxRecDepth 100000
set_option linter.unusedSimpArgs false
set_option linter.unusedVariables false

theorem i_isOver_ok {H : Heap} {x : Nat} : ACalls Try.prog n_i_isOver [.float .f32 x] H fun r H' => r = .bool (overF x) ∧ H' = H := by
  refine k_i_isOver.run rfl ?_
  unfold c_i_isOver
  ((try simp (disch := first | assumption | omega | rfl | (refine id ?_; simp only [gxD, ne_eq, reduceCtorEq, not_false_eq_true, Nat.reduceAdd, *]; done) | (refine id ?_; simp only [gxD]; omega)) only [↓gxPre, gxPost, ↓reduceIte, Nat.reduceEqDiff, reduceCtorEq, Nat.reduceAdd, *]); repeat' (first | (refine grdR_split (fun _ => ?_) (fun _ => ?_) <;> simp (disch := first | assumption | omega | rfl | (refine id ?_; simp only [gxD, ne_eq, reduceCtorEq, not_false_eq_true, Nat.reduceAdd, *]; done) | (refine id ?_; simp only [gxD]; omega)) only [↓gxPre, gxPost, ↓reduceIte, Nat.reduceEqDiff, reduceCtorEq, Nat.reduceAdd, *]) | (refine condR_split (fun _ => ?_) (fun _ => ?_) <;> simp (disch := first | assumption | omega | rfl | (refine id ?_; simp only [gxD, ne_eq, reduceCtorEq, not_false_eq_true, Nat.reduceAdd, *]; done) | (refine id ?_; simp only [gxD]; omega)) only [↓gxPre, gxPost, ↓reduceIte, Nat.reduceEqDiff, reduceCtorEq, Nat.reduceAdd, *]) | (refine callR_pure (i_IsFinite_ok) (by first | exact Or.inl rfl | (simp (disch := first | assumption | omega | rfl | (refine id ?_; simp only [gxD, ne_eq, reduceCtorEq, not_false_eq_true, Nat.reduceAdd, *]; done) | (refine id ?_; simp only [gxD]; omega)) only [↓gxPre, gxPost, ↓reduceIte, Nat.reduceEqDiff, reduceCtorEq, Nat.reduceAdd, *]; done)) ?_; simp (disch := first | assumption | omega | rfl | (refine id ?_; simp only [gxD, ne_eq, reduceCtorEq, not_false_eq_true, Nat.reduceAdd, *]; done) | (refine id ?_; simp only [gxD]; omega)) only [↓gxPre, gxPost, ↓reduceIte, Nat.reduceEqDiff, reduceCtorEq, Nat.reduceAdd, *])))
  all_goals simp_all [overF]
theorem i_copyOf_ok {H : Heap} {v : Value} {xs : List Nat} (hv : FS H v xs) (hn : xs.length ≤ 2 ^ 40) :
    ACalls Try.prog n_i_copyOf [v] H fun r H' => r = .slice (some ⟨H.n, 0, none⟩) xs.length xs.length ∧ H' = H.new ⟨true, t_float32, xs.map fv⟩ := by
  refine k_i_copyOf.run rfl ?_
  unfold c_i_copyOf
  have hr := (hv.ext (.new H ⟨true, t_float32, []⟩)).read
  simp (disch := first | assumption | omega | rfl | (refine id ?_; simp only [gxD, ne_eq, reduceCtorEq, not_false_eq_true, Nat.reduceAdd, *]; done) | (refine id ?_; simp only [gxD]; omega)) only [↓gxPre, gxPost, ↓reduceIte, Nat.reduceEqDiff, reduceCtorEq, Nat.reduceAdd, hr, List.nil_append, lMapN]
theorem i_finiteList_ok {H : Heap} {v : Value} {xs : List Nat} (hv : FS H v xs) (hn : xs.length ≤ 2 ^ 40) : ACalls Try.prog n_i_finiteList [v] H fun r H' => r = listV (xs.all finF) v ∧ Ext H H' := by
  refine k_i_finiteList.run rfl ?_
  unfold c_i_finiteList
  have hv1 := hv.one
  simp (disch := first | assumption | omega | rfl | (refine id ?_; simp only [gxD, ne_eq, reduceCtorEq, not_false_eq_true, Nat.reduceAdd, *]; done) | (refine id ?_; simp only [gxD]; omega)) only [↓gxPre, gxPost, ↓reduceIte, Nat.reduceEqDiff, reduceCtorEq, Nat.reduceAdd]
  refine callR_pure (i_areFinite1_ok (by simp (disch := first | assumption | omega | rfl | (refine id ?_; simp only [gxD, ne_eq, reduceCtorEq, not_false_eq_true, Nat.reduceAdd, *]; done) | (refine id ?_; simp only [gxD]; omega)) only [↓gxPre, gxPost, ↓reduceIte, Nat.reduceEqDiff, reduceCtorEq, Nat.reduceAdd, *]; rfl) (by first | omega | (simp only [new_n, put_n]; omega)) (hv.ext ⟨by first | omega | (simp only [new_n, put_n]; omega) | (simp only [new_n, put_n] at *; omega), fun i hi => by simp (disch := first | assumption | omega | rfl | (refine id ?_; simp only [gxD, ne_eq, reduceCtorEq, not_false_eq_true, Nat.reduceAdd, *]; done) | (refine id ?_; simp only [gxD]; omega)) only [↓gxPre, gxPost, ↓reduceIte, Nat.reduceEqDiff, reduceCtorEq, Nat.reduceAdd, *]⟩) hn) (.inl rfl) ?_
  cases h : xs.all finF
  · simp (disch := first | assumption | omega | rfl | (refine id ?_; simp only [gxD, ne_eq, reduceCtorEq, not_false_eq_true, Nat.reduceAdd, *]; done) | (refine id ?_; simp only [gxD]; omega)) only [↓gxPre, gxPost, ↓reduceIte, Nat.reduceEqDiff, reduceCtorEq, Nat.reduceAdd]
    exact ⟨rfl, ⟨by first | omega | (simp only [new_n, put_n]; omega) | (simp only [new_n, put_n] at *; omega), fun i hi => by simp (disch := first | assumption | omega | rfl | (refine id ?_; simp only [gxD, ne_eq, reduceCtorEq, not_false_eq_true, Nat.reduceAdd, *]; done) | (refine id ?_; simp only [gxD]; omega)) only [↓gxPre, gxPost, ↓reduceIte, Nat.reduceEqDiff, reduceCtorEq, Nat.reduceAdd, *]⟩⟩
  · simp (disch := first | assumption | omega | rfl | (refine id ?_; simp only [gxD, ne_eq, reduceCtorEq, not_false_eq_true, Nat.reduceAdd, *]; done) | (refine id ?_; simp only [gxD]; omega)) only [↓gxPre, gxPost, ↓reduceIte, Nat.reduceEqDiff, reduceCtorEq, Nat.reduceAdd]
    exact ⟨rfl, ⟨by first | omega | (simp only [new_n, put_n]; omega) | (simp only [new_n, put_n] at *; omega), fun i hi => by simp (disch := first | assumption | omega | rfl | (refine id ?_; simp only [gxD, ne_eq, reduceCtorEq, not_false_eq_true, Nat.reduceAdd, *]; done) | (refine id ?_; simp only [gxD]; omega)) only [↓gxPre, gxPost, ↓reduceIte, Nat.reduceEqDiff, reduceCtorEq, Nat.reduceAdd, *]⟩⟩
end Go.Proofs.Ytddekdgggpifmaa

namespace Go.Proofs.Ytddekdgggpifmaa
open Go.Gx
set_option maxRecDepth 100000
set_option linter.unusedSimpArgs false
set_option linter.unusedVariables false

def sizeL (xss : List (List Nat)) (i : Nat) : List Nat := (List.range i).map fun j => (xss.getD j []).length
theorem sizeL_length (xss : List (List Nat)) (i : Nat) : (sizeL xss i).length = i := by simp [sizeL]
theorem sizeL_succ (xss : List (List Nat)) (i : Nat) : sizeL xss (i + 1) = sizeL xss i ++ [(xss.getD i []).length] := by simp [sizeL, List.range_succ]
theorem sizeL_all (xss : List (List Nat)) : sizeL xss xss.length = xss.map List.length := by
  refine list_ext_getD 0 (by simp [sizeL]) fun j hj => ?_
  have hj' : j < xss.length := by simpa [sizeL] using hj
  rw [sizeL, getD_range_map hj']
  simp [List.getD_eq_getElem?_getD, hj']
theorem flat_len (xss : List (List Nat)) : ∀ t, t ≤ xss.length → (flatF xss t).length + offN xss (xss.length - t) = offN xss xss.length
  | 0, _ => by simp [flatF, foldI_zero]
  | t + 1, h => by
    have ih := flat_len xss t (by omega)
    have e : xss.length - t = (xss.length - (t + 1)) + 1 := by omega
    rw [e, offN_succ (by omega)] at ih
    have e2 : xss.length - 1 - t = xss.length - (t + 1) := by omega
    simp only [flatF, foldI_succ, List.length_append, e2] at ih ⊢
    omega
theorem flatF_succ (xss : List (List Nat)) (t : Nat) : flatF xss (t + 1) = flatF xss t ++ xss.getD (xss.length - 1 - t) [] := rfl
theorem size_fit {sz : List Nat} {k : Nat} (hk : k < sz.length) (h1 : 1 ≤ sufS sz (k + 1)) : (decide (1 ≤ sz.getD k 0) && fitF (sufS sz (k + 1)) (sz.getD k 0)) = sizeAt sz k := by
  have hs := sufS_succ hk
  rw [Bool.eq_iff_iff]
  simp only [sizeAt, fitF, Bool.and_eq_true, Bool.or_eq_true, decide_eq_true_eq]
  omega
theorem i_sizesOf_ok {H : Heap} {v : Value} {xss : List (List Nat)} (hv : SS H v xss) (hm : totL xss ≤ 2 ^ 40) :
    ACalls Try.prog n_i_sizesOf_float32_ [v] H fun r H' => Ext H H' ∧ r = .slice (some ⟨H.n, 0, none⟩) xss.length xss.length ∧ H.n < H'.n ∧ H'.blk H.n = some ⟨true, t_int, (castL (xss.map List.length)).map iv⟩ := by
  have hnx : xss.length ≤ 2 ^ 40 := by unfold totL at hm; omega
  obtain ⟨us, hu, hul, hus⟩ := hv
  refine k_i_sizesOf_float32_.run rfl ?_
  unfold c_i_sizesOf_float32_
  simp (disch := first | assumption | omega | rfl | (refine id ?_; simp only [gxD, ne_eq, reduceCtorEq, not_false_eq_true, Nat.reduceAdd, *]; done) | (refine id ?_; simp only [gxD]; omega)) only [↓gxPre, gxPost, ↓reduceIte, Nat.reduceEqDiff, reduceCtorEq, Nat.reduceAdd, hu.len, hul]
  refine loop_forH xss.length (fun i => [.slice (some ⟨H.n, 0, none⟩) i i, v, .int .i64 xss.length, .int .i64 i])
    (fun i G => H.n + 1 ≤ G.n ∧ Ext H G ∧ G.blk H.n = some ⟨true, t_int, (castL (sizeL xss i)).map iv⟩) rfl ⟨by simp only [new_n]; omega, ⟨by first | omega | (simp only [new_n, put_n]; omega) | (simp only [new_n, put_n] at *; omega), fun i hi => by simp (disch := first | assumption | omega | rfl | (refine id ?_; simp only [gxD, ne_eq, reduceCtorEq, not_false_eq_true, Nat.reduceAdd, *]; done) | (refine id ?_; simp only [gxD]; omega)) only [↓gxPre, gxPost, ↓reduceIte, Nat.reduceEqDiff, reduceCtorEq, Nat.reduceAdd, *]⟩, by simp (disch := first | assumption | omega | rfl | (refine id ?_; simp only [gxD, ne_eq, reduceCtorEq, not_false_eq_true, Nat.reduceAdd, *]; done) | (refine id ?_; simp only [gxD]; omega)) only [↓gxPre, gxPost, ↓reduceIte, Nat.reduceEqDiff, reduceCtorEq, Nat.reduceAdd]; rfl⟩ ?_ ?_
  · rintro G ⟨hG, hE, hc⟩
    simp (disch := first | assumption | omega | rfl | (refine id ?_; simp only [gxD, ne_eq, reduceCtorEq, not_false_eq_true, Nat.reduceAdd, *]; done) | (refine id ?_; simp only [gxD]; omega)) only [↓gxPre, gxPost, ↓reduceIte, Nat.reduceEqDiff, reduceCtorEq, Nat.reduceAdd, Int.lt_irrefl]
    rw [sizeL_all] at hc
    exact ⟨hE, hG, hc⟩
  · rintro i G hi ⟨hG, hE, hc⟩
    have hu' := hu.ext hE
    have ht : ((castL (sizeL xss i)).map iv).length = i := by rw [lMapI, castL_length, sizeL_length]
    have hm5 : (castL (sizeL xss i)).map iv ++ [.int .i64 ((xss.getD i []).length : Int)] = (castL (sizeL xss (i + 1))).map iv := by rw [castL_snoc, sizeL_succ]
    obtain ⟨f1, f2, f3, f4⟩ := push_at hE hc (Nat.le_refl _) (by omega) hm5
    simp (disch := first | assumption | omega | rfl | (refine id ?_; simp only [gxD, ne_eq, reduceCtorEq, not_false_eq_true, Nat.reduceAdd, *]; done) | (refine id ?_; simp only [gxD]; omega)) only [↓gxPre, gxPost, ↓reduceIte, Nat.reduceEqDiff, reduceCtorEq, Nat.reduceAdd, hu'.ia, hu'.ldD, hul, (hus i hi).len, hc]
    exact ⟨by simp, by omega, f1, by rw [hm5]⟩
theorem i_areSizes_ok {H : Heap} {v : Value} {sz : List Nat} (hv : IS H v (castL sz)) (hn : sz.length ≤ 2 ^ 40) (hs : ∀ j, sz.getD j 0 ≤ 2 ^ 40) (ht : sufS sz 0 ≤ 2 ^ 40) :
    ACalls Try.prog n_i_areSizes [v] H fun r H' => r = .bool (sizesF sz) ∧ H' = H := by
  have hcl := castL_length sz
  refine k_i_areSizes.run rfl ?_
  unfold c_i_areSizes
  simp (disch := first | assumption | omega | rfl | (refine id ?_; simp only [gxD, ne_eq, reduceCtorEq, not_false_eq_true, Nat.reduceAdd, *]; done) | (refine id ?_; simp only [gxD]; omega)) only [↓gxPre, gxPost, ↓reduceIte, Nat.reduceEqDiff, reduceCtorEq, Nat.reduceAdd, hv.len, castL_length]
  refine callR_pure (i_within_ok) (by first | exact Or.inl rfl | (simp (disch := first | assumption | omega | rfl | (refine id ?_; simp only [gxD, ne_eq, reduceCtorEq, not_false_eq_true, Nat.reduceAdd, *]; done) | (refine id ?_; simp only [gxD]; omega)) only [↓gxPre, gxPost, ↓reduceIte, Nat.reduceEqDiff, reduceCtorEq, Nat.reduceAdd, *]; done)) ?_
  simp (disch := first | assumption | omega | rfl | (refine id ?_; simp only [gxD, ne_eq, reduceCtorEq, not_false_eq_true, Nat.reduceAdd, *]; done) | (refine id ?_; simp only [gxD]; omega)) only [↓gxPre, gxPost, ↓reduceIte, Nat.reduceEqDiff, reduceCtorEq, Nat.reduceAdd, *]
  have hw : within ((sz.length : Int) - 1) 0 6 = within sz.length 1 7 := by
    rw [Bool.eq_iff_iff, within_true, within_true]; omega
  simp only [hw]
  cases h1 : within sz.length 1 7
  · simp (disch := first | assumption | omega | rfl | (refine id ?_; simp only [gxD, ne_eq, reduceCtorEq, not_false_eq_true, Nat.reduceAdd, *]; done) | (refine id ?_; simp only [gxD]; omega)) only [↓gxPre, gxPost, ↓reduceIte, Nat.reduceEqDiff, reduceCtorEq, Nat.reduceAdd]
    simp only [sizesF, h1, Bool.false_and]
  have h1' := within_true.1 h1
  have e1 : ((sz.length : Int) - 1).toNat = sz.length - 1 := by omega
  by_cases c1 : 1 ≤ sz.getD (sz.length - 1) 0
  rotate_left
  · have c1' : ((sz.getD (sz.length - 1) 0 : Nat) : Int) < 1 := by omega
    simp (disch := first | assumption | omega | rfl | (refine id ?_; simp only [gxD, ne_eq, reduceCtorEq, not_false_eq_true, Nat.reduceAdd, *]; done) | (refine id ?_; simp only [gxD]; omega)) only [↓gxPre, gxPost, ↓reduceIte, Nat.reduceEqDiff, reduceCtorEq, Nat.reduceAdd, hv.ia, hv.ld, castL_getD, e1, c1']
    simp only [sizesF, decide_eq_false c1, Bool.and_false, Bool.false_and]
  have c1' : ¬ ((sz.getD (sz.length - 1) 0 : Nat) : Int) < 1 := by omega
  have hs1 := hs (sz.length - 1)
  by_cases c2 : (sz.length : Int) - 1 = 0
  · have hz : sz.length - 1 = 0 := by omega
    have c1z : ¬ ((sz.getD 0 0 : Nat) : Int) < 1 := by rw [hz] at c1'; exact c1'
    by_cases c3 : sz.getD 0 0 = 1
    rotate_left
    · have c3' : ¬ ((sz.getD 0 0 : Nat) : Int) = 1 := by omega
      simp (disch := first | assumption | omega | rfl | (refine id ?_; simp only [gxD, ne_eq, reduceCtorEq, not_false_eq_true, Nat.reduceAdd, *]; done) | (refine id ?_; simp only [gxD]; omega)) only [↓gxPre, gxPost, ↓reduceIte, Nat.reduceEqDiff, reduceCtorEq, Nat.reduceAdd, hv.ia, hv.ld, castL_getD, c1z, c2, c3', Int.reduceToNat, ne_eq, not_false_eq_true]
      have : ¬ 1 < sz.length := by omega
      simp only [sizesF, decide_eq_false this, decide_eq_false c3, Bool.or_false, Bool.and_false, Bool.false_and]
    have c3' : ((sz.getD 0 0 : Nat) : Int) = 1 := by omega
    have hl1 : sz.length = 1 := by omega
    simp (disch := first | assumption | omega | rfl | (refine id ?_; simp only [gxD, ne_eq, reduceCtorEq, not_false_eq_true, Nat.reduceAdd, *]; done) | (refine id ?_; simp only [gxD]; omega)) only [↓gxPre, gxPost, ↓reduceIte, Nat.reduceEqDiff, reduceCtorEq, Nat.reduceAdd, hv.ia, hv.ld, castL_getD, c1z, c2, c3', Int.reduceToNat, ne_eq, not_true]
    refine loop_for 0 (fun i => [v, .int .i64 1, .int .i64 (-1)]) (by simp [hl1]) ?_ ?_
    · simp (disch := first | assumption | omega | rfl | (refine id ?_; simp only [gxD, ne_eq, reduceCtorEq, not_false_eq_true, Nat.reduceAdd, *]; done) | (refine id ?_; simp only [gxD]; omega)) only [↓gxPre, gxPost, ↓reduceIte, Nat.reduceEqDiff, reduceCtorEq, Nat.reduceAdd]
      rw [(sizesF_yes h1 c1 (.inr c3) fun j hj => by omega).1]
    · intro i hi; omega
  have c2' : 1 < sz.length := by omega
  simp (disch := first | assumption | omega | rfl | (refine id ?_; simp only [gxD, ne_eq, reduceCtorEq, not_false_eq_true, Nat.reduceAdd, *]; done) | (refine id ?_; simp only [gxD]; omega)) only [↓gxPre, gxPost, ↓reduceIte, Nat.reduceEqDiff, reduceCtorEq, Nat.reduceAdd, hv.ia, hv.ld, castL_getD, e1, c1', c2]
  refine loop_forH (sz.length - 1) (fun t => [v, .int .i64 ((sufS sz (sz.length - 1 - t) : Nat) : Int), .int .i64 ((sz.length : Int) - 1 - 1 - t)]) (fun t G => G = H ∧ ∀ j, sz.length - 1 - t ≤ j → j < sz.length - 1 → sizeAt sz j = true)
    (by rw [Nat.sub_zero, sufS_last (by omega)]; simp) ⟨rfl, by intros; omega⟩ ?_ ?_
  · rintro _ ⟨rfl, hJ⟩
    have h3 := sizesF_yes h1 c1 (.inl c2') fun j hj => hJ j (by omega) hj
    have e2 : sz.length - 1 - (sz.length - 1) = 0 := by omega
    have h5 : ((sufS sz 0 : Nat) : Int) ≤ 128 := by omega
    simp (disch := first | assumption | omega | rfl | (refine id ?_; simp only [gxD, ne_eq, reduceCtorEq, not_false_eq_true, Nat.reduceAdd, *]; done) | (refine id ?_; simp only [gxD]; omega)) only [↓gxPre, gxPost, ↓reduceIte, Nat.reduceEqDiff, reduceCtorEq, Nat.reduceAdd, e2, h5]
    rw [h3.1]
  · rintro t _ hlt ⟨rfl, hJ⟩
    obtain ⟨k, hk⟩ : ∃ k, sz.length - 1 - t = k + 1 := ⟨sz.length - 2 - t, by omega⟩
    have e2 : ((sz.length : Int) - 1 - 1 - t).toNat = k := by omega
    have hsk := sufS_succ (sz := sz) (i := k) (by omega)
    have hle := sufS_le sz (i := 0) (j := k) (by omega)
    have hk2 : sz.length - 1 - (t + 1) = k := by omega
    have hge : 1 ≤ sufS sz (k + 1) := by
      have := sufS_le sz (i := k + 1) (j := sz.length - 1) (by omega)
      rw [sufS_last (by omega)] at this
      omega
    simp only [hk]
    by_cases d1 : 1 ≤ sz.getD k 0
    rotate_left
    · have d1' : ((sz.getD k 0 : Nat) : Int) < 1 := by omega
      simp (disch := first | assumption | omega | rfl | (refine id ?_; simp only [gxD, ne_eq, reduceCtorEq, not_false_eq_true, Nat.reduceAdd, *]; done) | (refine id ?_; simp only [gxD]; omega)) only [↓gxPre, gxPost, ↓reduceIte, Nat.reduceEqDiff, reduceCtorEq, Nat.reduceAdd, hv.ia, hv.ld, castL_getD, e2, d1']
      rw [sizesF_no (j := k) (by omega) (by simp only [sizeAt, decide_eq_false d1, Bool.false_and])]
    have d1' : ¬ ((sz.getD k 0 : Nat) : Int) < 1 := by omega
    by_cases d2 : sz.getD k 0 = sufS sz (k + 1) ∨ sz.getD k 0 + 1 = sufS sz (k + 1)
    rotate_left
    · have d2' : ¬ ((sz.getD k 0 : Nat) : Int) = (sufS sz (k + 1) : Nat) := by omega
      have d2'' : ¬ ((sz.getD k 0 : Nat) : Int) = (sufS sz (k + 1) : Nat) - 1 := by omega
      simp (disch := first | assumption | omega | rfl | (refine id ?_; simp only [gxD, ne_eq, reduceCtorEq, not_false_eq_true, Nat.reduceAdd, *]; done) | (refine id ?_; simp only [gxD]; omega)) only [↓gxPre, gxPost, ↓reduceIte, Nat.reduceEqDiff, reduceCtorEq, Nat.reduceAdd, hv.ia, hv.ld, castL_getD, e2, d1', d2', d2'', ne_eq, not_false_eq_true]
      rw [sizesF_no (j := k) (by omega) (by simp only [sizeAt, decide_eq_false (fun h => d2 (.inl h)), decide_eq_false (fun h => d2 (.inr h)), Bool.or_false, Bool.and_false, Bool.false_and])]
    have d3 : decide (sz.getD k 0 = sufS sz (k + 1)) = true ∨ decide (sz.getD k 0 + 1 = sufS sz (k + 1)) = true := by simpa using d2
    by_cases d4 : sufS sz k ≤ 128
    rotate_left
    · have d4' : (128 : Int) < (sufS sz (k + 1) : Nat) + (sz.getD k 0 : Nat) := by omega
      have hno : sizesF sz = false := sizesF_no (j := k) (by omega) (by simp only [sizeAt, decide_eq_false d4, Bool.and_false])
      rcases d2 with d2 | d2
      · have d2' : ((sz.getD k 0 : Nat) : Int) = (sufS sz (k + 1) : Nat) := by omega
        simp (disch := first | assumption | omega | rfl | (refine id ?_; simp only [gxD, ne_eq, reduceCtorEq, not_false_eq_true, Nat.reduceAdd, *]; done) | (refine id ?_; simp only [gxD]; omega)) only [↓gxPre, gxPost, ↓reduceIte, Nat.reduceEqDiff, reduceCtorEq, Nat.reduceAdd, hv.ia, hv.ld, castL_getD, e2, d1', decide_eq_true d2', d4', ne_eq, not_true]
        rw [hno]
      · have d2' : ¬ ((sz.getD k 0 : Nat) : Int) = (sufS sz (k + 1) : Nat) := by omega
        have d2'' : ((sz.getD k 0 : Nat) : Int) = (sufS sz (k + 1) : Nat) - 1 := by omega
        simp (disch := first | assumption | omega | rfl | (refine id ?_; simp only [gxD, ne_eq, reduceCtorEq, not_false_eq_true, Nat.reduceAdd, *]; done) | (refine id ?_; simp only [gxD]; omega)) only [↓gxPre, gxPost, ↓reduceIte, Nat.reduceEqDiff, reduceCtorEq, Nat.reduceAdd, hv.ia, hv.ld, castL_getD, e2, d1', d2', d2'', d4', ne_eq, not_true, not_false_eq_true]
        rw [hno]
    have d4' : ¬ (128 : Int) < (sufS sz (k + 1) : Nat) + (sz.getD k 0 : Nat) := by omega
    have hyes : sizeAt sz k = true := by
      simp only [sizeAt, decide_eq_true d1, decide_eq_true d4, Bool.and_true, Bool.true_and, Bool.or_eq_true]
      exact d3
    have hJ' : ∀ j, sz.length - 1 - (t + 1) ≤ j → j < sz.length - 1 → sizeAt sz j = true := fun j h1 h2 => by
      by_cases hjk : j = k
      · rw [hjk]; exact hyes
      · exact hJ j (by omega) h2
    have hst : ((sufS sz (k + 1) : Nat) : Int) + (sz.getD k 0 : Nat) = (sufS sz k : Nat) := by omega
    rcases d2 with d2 | d2
    · have d2' : ((sz.getD k 0 : Nat) : Int) = (sufS sz (k + 1) : Nat) := by omega
      simp (disch := first | assumption | omega | rfl | (refine id ?_; simp only [gxD, ne_eq, reduceCtorEq, not_false_eq_true, Nat.reduceAdd, *]; done) | (refine id ?_; simp only [gxD]; omega)) only [↓gxPre, gxPost, ↓reduceIte, Nat.reduceEqDiff, reduceCtorEq, Nat.reduceAdd, hv.ia, hv.ld, castL_getD, e2, d1', decide_eq_true d2', d4', ne_eq, not_true]
      refine ⟨?_, hJ'⟩
      rw [hk2, hst]
      simp; omega
    · have d2' : ¬ ((sz.getD k 0 : Nat) : Int) = (sufS sz (k + 1) : Nat) := by omega
      have d2'' : ((sz.getD k 0 : Nat) : Int) = (sufS sz (k + 1) : Nat) - 1 := by omega
      simp (disch := first | assumption | omega | rfl | (refine id ?_; simp only [gxD, ne_eq, reduceCtorEq, not_false_eq_true, Nat.reduceAdd, *]; done) | (refine id ?_; simp only [gxD]; omega)) only [↓gxPre, gxPost, ↓reduceIte, Nat.reduceEqDiff, reduceCtorEq, Nat.reduceAdd, hv.ia, hv.ld, castL_getD, e2, d1', d2', d2'', d4', ne_eq, not_true, not_false_eq_true]
      refine ⟨?_, hJ'⟩
      have e5 : ((sufS sz (k + 1) : Nat) : Int) + ((sufS sz (k + 1) : Nat) - 1) = (sufS sz k : Nat) := by omega
      rw [hk2, e5]
      simp; omega
theorem sizes_le {xss : List (List Nat)} (hm : totL xss ≤ 2 ^ 40) (j : Nat) : (xss.map List.length).getD j 0 ≤ 2 ^ 40 := by
  by_cases hj : j < xss.length
  · have := totL_row hm j
    simpa [List.getD_eq_getElem?_getD, hj] using this
  · simp [List.getD_eq_getElem?_getD, List.getElem?_eq_none (Nat.le_of_not_lt hj)]
theorem sizes_sum (xss : List (List Nat)) (hm : totL xss ≤ 2 ^ 40) : sufS (xss.map List.length) 0 ≤ 2 ^ 40 := by
  have : sufS (xss.map List.length) 0 = offN xss xss.length := by simp [sufS, offN]
  rw [this]
  unfold totL at hm
  omega
theorem i_AreBands_ok {H : Heap} {v : Value} {xss : List (List Nat)} (hv : SS H v xss) (hm : totL xss ≤ 2 ^ 40) :
    ACalls Try.prog n_i_AreBands [v] H fun r H' => r = .bool (bandsF xss) ∧ Ext H H' := by
  have hnx : xss.length ≤ 2 ^ 40 := by unfold totL at hm; omega
  refine k_i_AreBands.run rfl ?_
  unfold c_i_AreBands
  simp (disch := first | assumption | omega | rfl | (refine id ?_; simp only [gxD, ne_eq, reduceCtorEq, not_false_eq_true, Nat.reduceAdd, *]; done) | (refine id ?_; simp only [gxD]; omega)) only [↓gxPre, gxPost, ↓reduceIte, Nat.reduceEqDiff, reduceCtorEq, Nat.reduceAdd]
  refine callR_of (i_sizesOf_ok hv hm) ?_
  rintro _ G ⟨e, rfl, n1, c1⟩
  simp (disch := first | assumption | omega | rfl | (refine id ?_; simp only [gxD, ne_eq, reduceCtorEq, not_false_eq_true, Nat.reduceAdd, *]; done) | (refine id ?_; simp only [gxD]; omega)) only [↓gxPre, gxPost, ↓reduceIte, Nat.reduceEqDiff, reduceCtorEq, Nat.reduceAdd]
  refine callR_pure (i_areSizes_ok (IS.own c1 n1 (by simp [castL])) (by simpa using hnx) (sizes_le hm) (sizes_sum xss hm)) (.inl rfl) ?_
  cases h : sizesF (xss.map List.length)
  · simp (disch := first | assumption | omega | rfl | (refine id ?_; simp only [gxD, ne_eq, reduceCtorEq, not_false_eq_true, Nat.reduceAdd, *]; done) | (refine id ?_; simp only [gxD]; omega)) only [↓gxPre, gxPost, ↓reduceIte, Nat.reduceEqDiff, reduceCtorEq, Nat.reduceAdd]
    exact ⟨by simp only [bandsF, h, Bool.false_and], e⟩
  simp (disch := first | assumption | omega | rfl | (refine id ?_; simp only [gxD, ne_eq, reduceCtorEq, not_false_eq_true, Nat.reduceAdd, *]; done) | (refine id ?_; simp only [gxD]; omega)) only [↓gxPre, gxPost, ↓reduceIte, Nat.reduceEqDiff, reduceCtorEq, Nat.reduceAdd]
  refine callR_pure (i_areFinite_ok (hv.ext e) hnx fun j _ => totL_row hm j) (.inl rfl) ?_
  simp (disch := first | assumption | omega | rfl | (refine id ?_; simp only [gxD, ne_eq, reduceCtorEq, not_false_eq_true, Nat.reduceAdd, *]; done) | (refine id ?_; simp only [gxD]; omega)) only [↓gxPre, gxPost, ↓reduceIte, Nat.reduceEqDiff, reduceCtorEq, Nat.reduceAdd]
  exact ⟨by simp only [bandsF, h, Bool.true_and], e⟩
theorem i_FlatBands_law {H : Heap} {v0 : Value} {xs0 : List (List Nat)} (A : AS H v0 xs0) : ACalls Try.prog n_i_FlatBands [v0] H fun r H' => ListR fv t_float32 H (bandsF xs0) (flatF xs0 xs0.length) r H' := by
  have hm := A.le
  have hto : offN xs0 xs0.length ≤ 2 ^ 40 := by unfold totL at hm; omega
  have hnx : xs0.length ≤ 2 ^ 40 := by unfold totL at hm; omega
  obtain ⟨us, hu, hul, hus⟩ := A.rd
  refine k_i_FlatBands.run rfl ?_
  unfold c_i_FlatBands
  simp (disch := first | assumption | omega | rfl | (refine id ?_; simp only [gxD, ne_eq, reduceCtorEq, not_false_eq_true, Nat.reduceAdd, *]; done) | (refine id ?_; simp only [gxD]; omega)) only [↓gxPre, gxPost, ↓reduceIte, Nat.reduceEqDiff, reduceCtorEq, Nat.reduceAdd]
  refine callR_ext (i_AreBands_ok A.rd A.le) ?_
  intro K n1 b1
  have eK : Ext H K := ⟨n1, b1⟩
  cases hk : bandsF xs0
  · simp (disch := first | assumption | omega | rfl | (refine id ?_; simp only [gxD, ne_eq, reduceCtorEq, not_false_eq_true, Nat.reduceAdd, *]; done) | (refine id ?_; simp only [gxD]; omega)) only [↓gxPre, gxPost, ↓reduceIte, Nat.reduceEqDiff, reduceCtorEq, Nat.reduceAdd]
    exact .no rfl eK
  simp (disch := first | assumption | omega | rfl | (refine id ?_; simp only [gxD, ne_eq, reduceCtorEq, not_false_eq_true, Nat.reduceAdd, *]; done) | (refine id ?_; simp only [gxD]; omega)) only [↓gxPre, gxPost, ↓reduceIte, Nat.reduceEqDiff, reduceCtorEq, Nat.reduceAdd, hu.len, hul]
  refine loop_forH xs0.length (fun t => [v0, .slice (some ⟨K.n, 0, none⟩) (flatF xs0 t).length (flatF xs0 t).length, .int .i64 ((xs0.length : Int) - 1 - t)])
    (fun t G => K.n + 1 ≤ G.n ∧ Ext K G ∧ G.blk K.n = some ⟨true, t_float32, (flatF xs0 t).map fv⟩) (by simp [flatF, foldI_zero]) ⟨by simp only [new_n]; omega, ⟨by first | omega | (simp only [new_n, put_n]; omega) | (simp only [new_n, put_n] at *; omega), fun i hi => by simp (disch := first | assumption | omega | rfl | (refine id ?_; simp only [gxD, ne_eq, reduceCtorEq, not_false_eq_true, Nat.reduceAdd, *]; done) | (refine id ?_; simp only [gxD]; omega)) only [↓gxPre, gxPost, ↓reduceIte, Nat.reduceEqDiff, reduceCtorEq, Nat.reduceAdd, *]⟩, by simp (disch := first | assumption | omega | rfl | (refine id ?_; simp only [gxD, ne_eq, reduceCtorEq, not_false_eq_true, Nat.reduceAdd, *]; done) | (refine id ?_; simp only [gxD]; omega)) only [↓gxPre, gxPost, ↓reduceIte, Nat.reduceEqDiff, reduceCtorEq, Nat.reduceAdd, flatF, foldI_zero]⟩ ?_ ?_
  · rintro G ⟨hG, hE, hc⟩
    have hl := flat_len xs0 xs0.length (Nat.le_refl _)
    simp (disch := first | assumption | omega | rfl | (refine id ?_; simp only [gxD, ne_eq, reduceCtorEq, not_false_eq_true, Nat.reduceAdd, *]; done) | (refine id ?_; simp only [gxD]; omega)) only [↓gxPre, gxPost, ↓reduceIte, Nat.reduceEqDiff, reduceCtorEq, Nat.reduceAdd]
    exact .yes rfl (eK.trans hE) (.mk hc (by simp) (by first | omega | (simp only [new_n, put_n]; omega)) (by first | omega | (simp only [new_n, put_n]; omega)) (by first | omega | (simp only [new_n, put_n]; omega))) (by omega)
  · rintro t G hlt ⟨hG, hE, hc⟩
    have hu' := (hu.ext eK).ext hE
    have e2 : ((xs0.length : Int) - 1 - t).toNat = xs0.length - 1 - t := by omega
    have hj : xs0.length - 1 - t < xs0.length := by omega
    have hr := ((hus _ hj).ext (eK.trans hE)).read
    have hl := flat_len xs0 (t + 1) (by omega)
    rw [flatF_succ, List.length_append] at hl
    simp (disch := first | assumption | omega | rfl | (refine id ?_; simp only [gxD, ne_eq, reduceCtorEq, not_false_eq_true, Nat.reduceAdd, *]; done) | (refine id ?_; simp only [gxD]; omega)) only [↓gxPre, gxPost, ↓reduceIte, Nat.reduceEqDiff, reduceCtorEq, Nat.reduceAdd, hu'.ia, hu'.ldD, hul, e2, hc, hr, lMapN]
    refine ⟨?_, by omega, hE.put (Nat.le_refl _) _, ?_⟩
    · rw [flatF_succ, List.length_append]
      simp; omega
    · rw [flatF_succ, List.map_append]
theorem i_ListEnergies_law {H : Heap} {v0 : Value} {xs0 : List (List Nat)} (A : AS H v0 xs0) : ACalls Try.prog n_i_ListEnergies [v0] H fun r H' => ListR fv t_float32 H (bandsF xs0 && (tabL xs0.length (sqF xs0)).all finF) (tabL xs0.length (sqF xs0)) r H' := by
  have hm := A.le
  have hnx : xs0.length ≤ 2 ^ 40 := by unfold totL at hm; omega
  obtain ⟨us, hu, hul, hus⟩ := A.rd
  refine k_i_ListEnergies.run rfl ?_
  unfold c_i_ListEnergies
  simp (disch := first | assumption | omega | rfl | (refine id ?_; simp only [gxD, ne_eq, reduceCtorEq, not_false_eq_true, Nat.reduceAdd, *]; done) | (refine id ?_; simp only [gxD]; omega)) only [↓gxPre, gxPost, ↓reduceIte, Nat.reduceEqDiff, reduceCtorEq, Nat.reduceAdd]
  refine callR_ext (i_AreBands_ok A.rd A.le) ?_
  intro K n1 b1
  have eK : Ext H K := ⟨n1, b1⟩
  cases hk : bandsF xs0
  · simp (disch := first | assumption | omega | rfl | (refine id ?_; simp only [gxD, ne_eq, reduceCtorEq, not_false_eq_true, Nat.reduceAdd, *]; done) | (refine id ?_; simp only [gxD]; omega)) only [↓gxPre, gxPost, ↓reduceIte, Nat.reduceEqDiff, reduceCtorEq, Nat.reduceAdd, Bool.false_and, Bool.true_and, Bool.and_true, Bool.and_false, Bool.or_true, Bool.true_or, Bool.false_or, Bool.or_false, Bool.and_self, Bool.or_self]
    exact .no rfl eK
  simp (disch := first | assumption | omega | rfl | (refine id ?_; simp only [gxD, ne_eq, reduceCtorEq, not_false_eq_true, Nat.reduceAdd, *]; done) | (refine id ?_; simp only [gxD]; omega)) only [↓gxPre, gxPost, ↓reduceIte, Nat.reduceEqDiff, reduceCtorEq, Nat.reduceAdd, hu.len, hul]
  refine loop_forH xs0.length (fun i => [.slice (some ⟨K.n, 0, none⟩) i i, v0, .int .i64 xs0.length, .int .i64 i])
    (fun i G => K.n + 1 ≤ G.n ∧ Ext K G ∧ G.blk K.n = some ⟨true, t_float32, (tabL i (sqF xs0)).map fv⟩) rfl ⟨by simp only [new_n]; omega, ⟨by first | omega | (simp only [new_n, put_n]; omega) | (simp only [new_n, put_n] at *; omega), fun i hi => by simp (disch := first | assumption | omega | rfl | (refine id ?_; simp only [gxD, ne_eq, reduceCtorEq, not_false_eq_true, Nat.reduceAdd, *]; done) | (refine id ?_; simp only [gxD]; omega)) only [↓gxPre, gxPost, ↓reduceIte, Nat.reduceEqDiff, reduceCtorEq, Nat.reduceAdd, *]⟩, by simp (disch := first | assumption | omega | rfl | (refine id ?_; simp only [gxD, ne_eq, reduceCtorEq, not_false_eq_true, Nat.reduceAdd, *]; done) | (refine id ?_; simp only [gxD]; omega)) only [↓gxPre, gxPost, ↓reduceIte, Nat.reduceEqDiff, reduceCtorEq, Nat.reduceAdd]; rfl⟩ ?_ ?_
  · rintro G ⟨hG, hE, hc⟩
    have hl := tabL_length xs0.length (sqF xs0)
    simp (disch := first | assumption | omega | rfl | (refine id ?_; simp only [gxD, ne_eq, reduceCtorEq, not_false_eq_true, Nat.reduceAdd, *]; done) | (refine id ?_; simp only [gxD]; omega)) only [↓gxPre, gxPost, ↓reduceIte, Nat.reduceEqDiff, reduceCtorEq, Nat.reduceAdd, Int.lt_irrefl]
    refine callR_ext (i_finiteList_ok (FS.own hc (by omega) hl) (by omega)) ?_
    intro G2 n2 b2
    have e2 : Ext G G2 := ⟨n2, b2⟩
    cases hf : (tabL xs0.length (sqF xs0)).all finF
    · simp (disch := first | assumption | omega | rfl | (refine id ?_; simp only [gxD, ne_eq, reduceCtorEq, not_false_eq_true, Nat.reduceAdd, *]; done) | (refine id ?_; simp only [gxD]; omega)) only [↓gxPre, gxPost, ↓reduceIte, Nat.reduceEqDiff, reduceCtorEq, Nat.reduceAdd, listV]
      exact .no rfl ((eK.trans hE).trans e2)
    · simp (disch := first | assumption | omega | rfl | (refine id ?_; simp only [gxD, ne_eq, reduceCtorEq, not_false_eq_true, Nat.reduceAdd, *]; done) | (refine id ?_; simp only [gxD]; omega)) only [↓gxPre, gxPost, ↓reduceIte, Nat.reduceEqDiff, reduceCtorEq, Nat.reduceAdd, listV]
      exact .yes rfl ((eK.trans hE).trans e2) (.mk ((e2.blk K.n (by omega)).trans hc) (by simpa using hl) (by first | omega | (simp only [new_n, put_n]; omega)) (by first | omega | (simp only [new_n, put_n]; omega)) (by first | omega | (simp only [new_n, put_n]; omega))) (by omega)
  · rintro i G hi ⟨hG, hE, hc⟩
    have hu' := (hu.ext eK).ext hE
    have ht := tabL_length i (sqF xs0)
    have hm5 : (tabL i (sqF xs0)).map fv ++ [.float .f32 (squaresF (xs0.getD i []))] = (tabL (i + 1) (sqF xs0)).map fv := by rw [tabL_succ, ← fv_snoc']; rfl
    obtain ⟨f1, f2, f3, f4⟩ := push_at hE hc (Nat.le_refl _) (by omega) hm5
    simp (disch := first | assumption | omega | rfl | (refine id ?_; simp only [gxD, ne_eq, reduceCtorEq, not_false_eq_true, Nat.reduceAdd, *]; done) | (refine id ?_; simp only [gxD]; omega)) only [↓gxPre, gxPost, ↓reduceIte, Nat.reduceEqDiff, reduceCtorEq, Nat.reduceAdd, hu'.ia, hu'.ldD, hul]
    refine callR_pure (i_squares_ok (((hus i hi).ext eK).ext hE) (totL_row hm i)) (.inl rfl) ?_
    simp (disch := first | assumption | omega | rfl | (refine id ?_; simp only [gxD, ne_eq, reduceCtorEq, not_false_eq_true, Nat.reduceAdd, *]; done) | (refine id ?_; simp only [gxD]; omega)) only [↓gxPre, gxPost, ↓reduceIte, Nat.reduceEqDiff, reduceCtorEq, Nat.reduceAdd, hc, lMapN, tabL_length]
    exact ⟨by simp, by omega, f1, by rw [hm5]⟩
end Go.Proofs.Ytddekdgggpifmaa

namespace Go.Proofs.Ytddekdgggpifmaa
open Go.Gx
set_option maxRecDepth 100000
set_option linter.unusedSimpArgs false
set_option linter.unusedVariables false

theorem rows_yes {xss : List (List Nat)} {most : Int} (h : rowsF xss most = true) : (1 ≤ (xss.length : Int) ∧ (xss.length : Int) ≤ most) ∧ ∀ j, j < xss.length → isLongF (xss.getD j []) = true ∧ (xss.getD j []).length = (xss.getD 0 []).length := by
  unfold rowsF at h
  simp only [Bool.and_eq_true] at h
  refine ⟨within_true.1 h.1, fun j hj => ?_⟩
  have := allR.1 h.2 j hj
  simpa using this
theorem long_len {xs : List Nat} (h : isLongF xs = true) : (1 ≤ xs.length ∧ xs.length ≤ 128) ∧ xs.all finF = true := by
  unfold isLongF at h
  simp only [Bool.and_eq_true] at h
  have := within_true.1 h.1
  exact ⟨by omega, h.2⟩
theorem tab_set {m i a : Nat} {f g : Nat → Nat} (h1 : g i = a) (h2 : ∀ j, j < m → j ≠ i → g j = f j) : (tabL m f).set i a = tabL m g := by
  refine list_ext_getD 0 (by simp [tabL]) fun j hj => ?_
  have hj' : j < m := by simpa [tabL] using hj
  rw [tabL_getD hj']
  by_cases hji : j = i
  · subst hji
    rw [getD_set_self (by rw [tabL_length]; exact hj'), h1]
  · rw [Go.Gx.getD_set_ne (Ne.symm hji), tabL_getD hj', h2 j hj' hji]
theorem rep_tab (m : Nat) : List.replicate m (Value.float .f32 0) = (tabL m fun _ => 0).map fv := by
  simp [tabL, fv, List.map_const']
theorem tab_at {m i : Nat} {f : Nat → Nat} (h : i < m) : ((tabL m f).map fv)[i]? = some (.float .f32 (f i)) := by
  simp [tabL, h, fv]
def frameAt (xss : List (List Nat)) (t i j : Nat) : Nat := if j < i then frameSum xss j (t + 1) else frameSum xss j t
theorem frameAt_zero (xss : List (List Nat)) (t : Nat) : frameAt xss t 0 = fun j => frameSum xss j t := by funext j; simp [frameAt]
theorem frameAt_next (xss : List (List Nat)) (t m : Nat) : tabL m (frameAt xss t m) = tabL m (frameAt xss (t + 1) 0) := tabL_congr fun j hj => by simp [frameAt, hj]
theorem frameAt_set {xss : List (List Nat)} {t i m : Nat} : (tabL m (frameAt xss t i)).set i (fbin .add .f32 (frameAt xss t i i) ((xss.getD (xss.length - 1 - t) []).getD i 0)) = tabL m (frameAt xss t (i + 1)) := by
  refine tab_set ?_ fun j _ hne => ?_
  · simp [frameAt, frameSum, foldI_succ]
  · unfold frameAt
    by_cases h : j < i
    · rw [if_pos h, if_pos (by omega)]
    · rw [if_neg h, if_neg (by omega)]
def frameL (xss : List (List Nat)) : List Nat := tabL (xss.getD 0 []).length (frameAt xss xss.length 0)
theorem bestF_lt {xss : List (List Nat)} {i : Nat} (h : 0 < xss.length) : ∀ k, k ≤ xss.length → bestF xss i k < xss.length
  | 0, _ => h
  | k + 1, hk => by
    have ih := bestF_lt (i := i) h k (by omega)
    simp only [bestF, foldI_succ] at ih ⊢
    split
    · omega
    · exact ih
def ridgeL (xss : List (List Nat)) (i : Nat) : List Int := (List.range i).map fun j => ((bestF xss j xss.length : Nat) : Int)
theorem ridgeL_length (xss : List (List Nat)) (i : Nat) : (ridgeL xss i).length = i := by simp [ridgeL]
theorem ridgeL_snoc (xss : List (List Nat)) (i : Nat) : (ridgeL xss i).map iv ++ [.int .i64 ((bestF xss i xss.length : Nat) : Int)] = (ridgeL xss (i + 1)).map iv := by simp [ridgeL, List.range_succ, iv]
end Go.Proofs.Ytddekdgggpifmaa

namespace Go.Proofs.Ytddekdgggpifmaa
open Go.Gx
set_option maxRecDepth 100000
set_option linter.unusedSimpArgs false
set_option linter.unusedVariables false

theorem wr_range (n : Int) : -9223372036854775808 ≤ wr n ∧ wr n ≤ 9223372036854775807 := by
  unfold wr
  rw [IntKind.wrap_i64]
  omega
def updL (g : Nat → Int) (xs : List Int) (i : Nat) : List Int := (List.range xs.length).map fun k => if k < i then g k else xs.getD k 0
theorem updL_length (g : Nat → Int) (xs : List Int) (i : Nat) : (updL g xs i).length = xs.length := by simp [updL]
theorem updL_zero (g : Nat → Int) (xs : List Int) : updL g xs 0 = xs := by
  refine list_ext_getD 0 (updL_length _ _ _) fun j hj => ?_
  rw [updL_length] at hj
  rw [updL, getD_range_map hj]
  simp
theorem updL_all (g : Nat → Int) (xs : List Int) : updL g xs xs.length = (List.range xs.length).map g := by
  refine list_ext_getD 0 (by simp [updL]) fun j hj => ?_
  rw [updL_length] at hj
  rw [updL, getD_range_map hj, getD_range_map hj, if_pos hj]
theorem updL_at {g : Nat → Int} {xs : List Int} {i : Nat} (h : i < xs.length) : ((updL g xs i).map iv)[i]? = some (.int .i64 (xs.getD i 0)) := by
  simp [updL, h, iv]
theorem updL_set {g : Nat → Int} {xs : List Int} {i : Nat} : (updL g xs i).set i (g i) = updL g xs (i + 1) := by
  refine list_ext_getD 0 (by simp [updL]) fun j hj => ?_
  have hj' : j < xs.length := by simpa [updL] using hj
  by_cases hji : j = i
  · subst hji
    rw [getD_set_self (by rw [updL_length]; exact hj'), updL, getD_range_map hj', if_pos (by omega)]
  · rw [Go.Gx.getD_set_ne (Ne.symm hji), updL, updL, getD_range_map hj', getD_range_map hj']
    by_cases h : j < i
    · rw [if_pos h, if_pos (by omega)]
    · rw [if_neg h, if_neg (by omega)]
theorem i64_range (n : Nat) (f : Nat → Int) (h : ∀ j, -9223372036854775808 ≤ f j ∧ f j ≤ 9223372036854775807) : I64 ((List.range n).map f) := fun j => by
  by_cases hj : j < n
  · rw [getD_range_map hj]; exact h j
  · simp [List.getD_eq_getElem?_getD, List.getElem?_eq_none (l := List.range n) (i := j) (by simp; omega)]
theorem i64_ev {xs : List Int} (h : I64 xs) (n : Nat) : I64 (evL 0 xs n) := i64_range _ _ fun j => h _
theorem i64_od {xs : List Int} (h : I64 xs) (n : Nat) : I64 (odL 0 xs n) := i64_range _ _ fun j => h _
theorem liftO_length (kind : Int) (xs : List Int) : (liftO kind xs).length = xs.length / 2 := by simp [liftO, lowerO, odL_length]
theorem liftE_length (kind : Int) (xs : List Int) : (liftE kind xs).length = (xs.length + 1) / 2 := by simp [liftE, raiseE, evL_length]
theorem i64_liftO (kind : Int) (xs : List Int) : I64 (liftO kind xs) := i64_range _ _ fun j => wr_range _
theorem i64_liftE (kind : Int) (xs : List Int) : I64 (liftE kind xs) := i64_range _ _ fun j => wr_range _
end Go.Proofs.Ytddekdgggpifmaa

namespace Go.Proofs.Ytddekdgggpifmaa
open Go.Gx
set_option maxRecDepth 100000
set_option linter.unusedSimpArgs false
set_option linter.unusedVariables false

theorem OwN_init {lo hi : Nat} {H : Heap} {ty : TypeId} {vs : List Value} {ls : List (List Value)} {v : Value} {l : List Value} (o : OwN lo hi H ty (vs ++ [v]) (ls ++ [l])) : OwN lo hi H ty vs ls := by
  obtain ⟨h1, h2, h3⟩ := o
  have hl : vs.length = ls.length := by simpa using h1
  have ea : ∀ i, i < ls.length → (vs ++ [v]).getD i undef = vs.getD i undef := fun i hi' => getD_app_lt (by omega)
  refine ⟨hl, fun i hi' => ?_, fun i j h hi' hj hh hk => h3 i j h (by simp; omega) (by simp; omega) (by rw [ea i hi']; exact hh) (by rw [ea j hj]; exact hk)⟩
  have := h2 i (by simp; omega)
  rwa [ea i hi', getD_app_lt hi'] at this
theorem OwN_last {lo hi : Nat} {H : Heap} {ty : TypeId} {vs : List Value} {ls : List (List Value)} {v : Value} {l : List Value} (o : OwN lo hi H ty (vs ++ [v]) (ls ++ [l])) : OwL lo hi H ty v l := by
  obtain ⟨h1, h2, h3⟩ := o
  have hl : vs.length = ls.length := by simpa using h1
  have := h2 ls.length (by simp)
  rw [getD_app_at] at this
  rwa [← hl, getD_app_at] at this
theorem OwN_put {lo hi h : Nat} {H : Heap} {ty sty : TypeId} {vs : List Value} {ls : List (List Value)} {cs : List Value} {own : Bool} {b : Blk} (o : OwN lo hi H ty vs ls) (hb : H.blk h = some ⟨own, sty, cs⟩) (hne : sty ≠ ty) : OwN lo hi (H.put h b) ty vs ls :=
  o.keep (Nat.le_refl _) fun i k hi' hk => hput_other _ _ _ _ fun e => (o.2.1 i hi').ne hb hne (by rw [hk, e])
theorem OwL_put {lo hi h : Nat} {H : Heap} {ty sty : TypeId} {v : Value} {l cs : List Value} {own : Bool} {b : Blk} (o : OwL lo hi H ty v l) (hb : H.blk h = some ⟨own, sty, cs⟩) (hne : sty ≠ ty) : OwL lo hi (H.put h b) ty v l :=
  o.keep (Nat.le_refl _) fun k hk => hput_other _ _ _ _ fun e => o.ne hb hne (by rw [hk, e])
/-- Two lists made later. -/
theorem OwN_two {lo : Nat} {G G' : Heap} {ty : TypeId} {vs : List Value} {ls : List (List Value)} {a b : Value} {la lb : List Value} (o : OwN lo G.n G ty vs ls) (e : Ext G G') (hlo : lo ≤ G.n) (p : OwN G.n G'.n G' ty [a, b] [la, lb]) : OwN lo G'.n G' ty (vs ++ [b] ++ [a]) (ls ++ [lb] ++ [la]) := by
  have o1 := (o.ext e).wide (Nat.le_refl _) e.n
  have pa := p.fst
  have pb := p.snd
  have hab : ∀ h, hdl b = some h → hdl a ≠ some h := fun h h1 h2 => by
    have := p.2.2 0 1 h (by simp) (by simp) h2 h1
    omega
  have o2 := o1.snoc (pb.wide hlo (Nat.le_refl _)) fun i h hi' hh hk => by
    have h1 := (o.lt hi' hh).2.1
    have h2 := (pb.hdl hk).1
    omega
  refine o2.snoc (pa.wide hlo (Nat.le_refl _)) fun i h hi' hh hk => ?_
  by_cases hlt : i < ls.length
  · rw [getD_app_lt (by rw [o.1]; exact hlt)] at hh
    have h1 := (o.lt hlt hh).2.1
    have h2 := (pa.hdl hk).1
    omega
  · have hi2 : i = ls.length := by simp at hi'; omega
    rw [hi2, ← o.1, getD_app_at] at hh
    exact hab h hh hk
def nowI (kind : Int) (xs : List Int) : Nat → List Int := foldI (fun _ l => liftE kind l) xs
def outI (kind : Int) (xs : List Int) (t : Nat) : List (List Int) := (List.range t).map fun k => liftO kind (nowI kind xs k)
theorem outI_succ (kind : Int) (xs : List Int) (t : Nat) : outI kind xs (t + 1) = outI kind xs t ++ [liftO kind (nowI kind xs t)] := by simp [outI, List.range_succ]
theorem nowI_succ (kind : Int) (xs : List Int) (t : Nat) : nowI kind xs (t + 1) = liftE kind (nowI kind xs t) := rfl
theorem nowI_le (kind : Int) (xs : List Int) : ∀ t, (nowI kind xs t).length ≤ xs.length + 1
  | 0 => by simp [nowI, foldI_zero]
  | t + 1 => by have := nowI_le kind xs t; rw [nowI_succ, liftE_length]; omega
def stopN (p : Nat → Bool) : Nat → Nat
  | 0 => 0
  | n + 1 => if stopN p n = n ∧ p n = true then n + 1 else stopN p n
theorem stopN_le (p : Nat → Bool) : ∀ n, stopN p n ≤ n
  | 0 => Nat.le_refl _
  | n + 1 => by
    have := stopN_le p n
    unfold stopN
    split <;> omega
theorem stopN_full {p : Nat → Bool} : ∀ t, (∀ s, s < t → p s = true) → stopN p t = t
  | 0, _ => rfl
  | t + 1, h => by
    unfold stopN
    rw [if_pos ⟨stopN_full t fun s hs => h s (by omega), h t (by omega)⟩]
theorem stopN_eq {p : Nat → Bool} {t : Nat} (h : ∀ s, s < t → p s = true) : ∀ n, t ≤ n → (t < n → p t = false) → stopN p n = t
  | 0, hn, _ => by have : t = 0 := by omega
                   subst this; rfl
  | n + 1, hn, hp => by
    by_cases h1 : t = n + 1
    · subst h1; exact stopN_full _ h
    · have ih := stopN_eq h n (by omega) fun _ => hp (by omega)
      unfold stopN
      rw [ih]
      by_cases h2 : t = n
      · subst h2
        rw [hp (by omega)]
        simp
      · rw [if_neg (fun h => h2 h.1)]
def moreI (kind : Int) (xs : List Int) (t : Nat) : Bool := decide (1 < (nowI kind xs t).length)
def levelsI (kind : Int) (xs : List Int) (n : Nat) : List (List Int) := outI kind xs (stopN (moreI kind xs) n) ++ [nowI kind xs (stopN (moreI kind xs) n)]
theorem outI_len (kind : Int) (xs : List Int) (t : Nat) : (outI kind xs t).length = t := by simp [outI]
theorem outI_sum (kind : Int) (xs : List Int) (hx : xs.length ≤ 128) : ∀ t, offN (outI kind xs t) t ≤ 129 * t
  | 0 => by simp [offN_zero]
  | t + 1 => by
    have ih := outI_sum kind xs hx t
    have h1 := nowI_le kind xs t
    have h2 := liftO_length kind (nowI kind xs t)
    rw [outI_succ, offN_succ (by simp [outI_len])]
    have e1 : offN (outI kind xs t ++ [liftO kind (nowI kind xs t)]) t = offN (outI kind xs t) t := by
      unfold offN
      rw [List.take_append_of_le_length (by rw [outI_len]; exact Nat.le_refl _)]
    have e2 : (outI kind xs t ++ [liftO kind (nowI kind xs t)]).getD t [] = liftO kind (nowI kind xs t) := by
      have := @getD_app_at _ (outI kind xs t) (liftO kind (nowI kind xs t)) []
      rwa [outI_len] at this
    rw [e1, e2]
    omega
theorem levelsI_tot (kind : Int) (xs : List Int) (hx : xs.length ≤ 128) (n : Nat) (hn : n ≤ 6) : totL (levelsI kind xs n) ≤ 2 ^ 40 := by
  have hs := stopN_le (moreI kind xs) n
  obtain ⟨t, ht⟩ : ∃ t, t = stopN (moreI kind xs) n := ⟨_, rfl⟩
  unfold levelsI
  rw [← ht] at hs ⊢
  have h1 := outI_sum kind xs hx t
  have h2 := nowI_le kind xs t
  have hl : (outI kind xs t ++ [nowI kind xs t]).length = t + 1 := by simp [outI_len]
  unfold totL
  rw [hl, offN_succ (by rw [hl]; omega)]
  have e1 : offN (outI kind xs t ++ [nowI kind xs t]) t = offN (outI kind xs t) t := by
    unfold offN
    rw [List.take_append_of_le_length (by rw [outI_len]; exact Nat.le_refl _)]
  have e2 : (outI kind xs t ++ [nowI kind xs t]).getD t [] = nowI kind xs t := by
    have := @getD_app_at _ (outI kind xs t) (nowI kind xs t) []
    rwa [outI_len] at this
  rw [e1, e2]
  omega
theorem integers_len {xs : List Int} (h : integersF xs = true) : 1 ≤ xs.length ∧ xs.length ≤ 128 := by
  simp only [integersF, Bool.and_eq_true] at h
  have := within_true.1 h.1
  omega
theorem i64_nowI {kind : Int} {xs : List Int} (h : I64 xs) : ∀ t, I64 (nowI kind xs t)
  | 0 => h
  | t + 1 => i64_liftE _ _
end Go.Proofs.Ytddekdgggpifmaa

namespace Go.Proofs.Ytddekdgggpifmaa
open Go.Gx
set_option maxRecDepth 100000
set_option linter.unusedSimpArgs false
set_option linter.unusedVariables false

theorem rd1_at {H : Heap} {k : Nat} {ty : TypeId} {v : Value} (h : k = H.n) : readSl (H.new ⟨true, ty, [v]⟩) (.slice (some ⟨k, 0, none⟩) 1 1) = some [v] := by subst h; exact rd1_new
theorem tdiv2 (n : Nat) : ((n : Int)).tdiv 2 = ((n / 2 : Nat) : Int) := tdivN n 2
theorem ring_ix (n j k : Nat) : (2 * (j : Int) + (k : Int)).tmod (n : Int) = (((2 * j + k) % n : Nat) : Int) := by
  have : 2 * (j : Int) + (k : Int) = ((2 * j + k : Nat) : Int) := by omega
  rw [this, tmodN]
def tapF (xs ps : List Nat) (j : Nat) : Nat → Nat := foldI (fun k a => fbin .add .f32 a (fbin .mul .f32 (ps.getD k 0) (xs.getD ((2 * j + k) % xs.length) 0))) 0
theorem tapF_succ (xs ps : List Nat) (j k : Nat) : tapF xs ps j (k + 1) = fbin .add .f32 (tapF xs ps j k) (fbin .mul .f32 (ps.getD k 0) (xs.getD ((2 * j + k) % xs.length) 0)) := rfl
def tapL (xs ps : List Nat) : List Nat := tabL (xs.length / 2) fun j => tapF xs ps j ps.length
def splitOk (xs ps : List Nat) : Bool := isLongF xs && decide (xs.length % 2 = 0) && validPairF ps && ((tapL xs ps).all finF && (tapL xs (highL ps)).all finF)
def joinK (lo hi ps hp out : List Nat) (j k : Nat) : List Nat := out.set ((2 * j + k) % (2 * lo.length)) (fbin .add .f32 (out.getD ((2 * j + k) % (2 * lo.length)) 0) (fbin .add .f32 (fbin .mul .f32 (ps.getD k 0) (lo.getD j 0)) (fbin .mul .f32 (hp.getD k 0) (hi.getD j 0))))
def joinJ (lo hi ps hp out : List Nat) (j : Nat) : Nat → List Nat := foldI (fun k o => joinK lo hi ps hp o j k) out
def joinN (lo hi ps hp : List Nat) : Nat → List Nat := foldI (fun j o => joinJ lo hi ps hp o j ps.length) (List.replicate (2 * lo.length) 0)
theorem joinJ_len (lo hi ps hp out : List Nat) (j : Nat) : ∀ k, (joinJ lo hi ps hp out j k).length = out.length
  | 0 => rfl
  | k + 1 => by
    have := joinJ_len lo hi ps hp out j k
    simp only [joinJ, foldI_succ, joinK, List.length_set] at this ⊢
    exact this
theorem joinN_len (lo hi ps hp : List Nat) : ∀ j, (joinN lo hi ps hp j).length = 2 * lo.length
  | 0 => by simp [joinN, foldI_zero]
  | j + 1 => by
    have := joinN_len lo hi ps hp j
    simp only [joinN, foldI_succ] at this ⊢
    rw [joinJ_len]; exact this
theorem joinJ_succ (lo hi ps hp out : List Nat) (j k : Nat) : joinJ lo hi ps hp out j (k + 1) = joinK lo hi ps hp (joinJ lo hi ps hp out j k) j k := rfl
theorem joinN_succ (lo hi ps hp : List Nat) (j : Nat) : joinN lo hi ps hp (j + 1) = joinJ lo hi ps hp (joinN lo hi ps hp j) j ps.length := rfl
def joinL (lo hi ps : List Nat) : List Nat := joinN lo hi ps (highL ps) lo.length
def joinOk (lo hi ps : List Nat) : Bool := within lo.length 1 64 && decide (hi.length = lo.length) && (lo.all finF && hi.all finF) && validPairF ps && (joinL lo hi ps).all finF
theorem fv_at {xs : List Nat} {i : Nat} (h : i < xs.length) : (xs.map fv)[i]? = some (.float .f32 (xs.getD i 0)) := by simp [List.getD_eq_getElem?_getD, h, fv]
theorem rep_fv (n : Nat) : List.replicate n (Value.float .f32 0) = (List.replicate n 0).map fv := by simp [fv]
end Go.Proofs.Ytddekdgggpifmaa

namespace Go.Proofs.Ytddekdgggpifmaa
open Go.Gx
set_option maxRecDepth 100000
set_option linter.unusedSimpArgs false
set_option linter.unusedVariables false

structure AG (H : Heap) (v : Value) (xs : List Nat) : Prop where
  rd : FS H v xs
  le : xs.length ≤ 2 ^ 40
theorem AF_g {H : Heap} {v : Value} {xs : List Nat} (a : AF H v xs) : AG H v xs := ⟨a.rd, a.le⟩
end Go.Proofs.Ytddekdgggpifmaa

namespace Go.Proofs.Ytddekdgggpifmaa
open Go.Gx
set_option maxRecDepth 100000
set_option linter.unusedSimpArgs false
set_option linter.unusedVariables false

def nowJ (xs : List Nat) (yss : List (List Nat)) (ps : List Nat) : Nat → List Nat := foldI (fun t l => joinL l (yss.getD (yss.length - 1 - t) []) ps) xs
theorem nowJ_succ (xs : List Nat) (yss : List (List Nat)) (ps : List Nat) (t : Nat) : nowJ xs yss ps (t + 1) = joinL (nowJ xs yss ps t) (yss.getD (yss.length - 1 - t) []) ps := rfl
theorem nowJ_len_succ (xs : List Nat) (yss : List (List Nat)) (ps : List Nat) (t : Nat) : (nowJ xs yss ps (t + 1)).length = 2 * (nowJ xs yss ps t).length := joinN_len _ _ _ _ _
theorem det_le {xs : List Nat} {yss : List (List Nat)} (h : validBandsF xs yss = true) : ∀ i, i < yss.length → 1 ≤ (yss.getD i []).length ∧ (yss.getD i []).length ≤ (yss.getD 0 []).length
  | 0, hi => by
    have := (vb_yes h).2.2.2.2.1 0 hi
    simp only [detAt, Bool.and_eq_true, decide_eq_true_eq] at this
    exact ⟨this.1, Nat.le_refl _⟩
  | i + 1, hi => by
    have ih := det_le h i (by omega)
    have := (vb_yes h).2.2.2.2.1 (i + 1) hi
    simp only [detAt, Bool.and_eq_true, Bool.or_eq_true, decide_eq_true_eq] at this
    have h2 := this.2
    simp only [Nat.add_sub_cancel] at h2
    omega
theorem nowJ_len {xs : List Nat} {yss : List (List Nat)} {ps : List Nat} (h : validBandsF xs yss = true) : ∀ t, t < yss.length → (nowJ xs yss ps t).length = (yss.getD (yss.length - 1 - t) []).length
  | 0, ht => by
    have := (vb_yes h).2.2.2.2.2
    simpa [nowJ, foldI_zero] using this
  | t + 1, ht => by
    have ih := nowJ_len (ps := ps) h t (by omega)
    have := (vb_yes h).2.2.2.2.1 (yss.length - 1 - t) (by omega)
    simp only [detAt, Bool.and_eq_true, Bool.or_eq_true, decide_eq_true_eq] at this
    rw [nowJ_len_succ, ih, show yss.length - 1 - (t + 1) = yss.length - 1 - t - 1 by omega]
    omega
def allJ (xs : List Nat) (yss : List (List Nat)) (ps : List Nat) : Bool := (List.range yss.length).all fun t => (nowJ xs yss ps (t + 1)).all finF
def joinLevOk (xs : List Nat) (yss : List (List Nat)) (ps : List Nat) : Bool := validBandsF xs yss && validPairF ps && allJ xs yss ps
end Go.Proofs.Ytddekdgggpifmaa

namespace Go.Proofs.Ytddekdgggpifmaa
open Go.Gx
set_option maxRecDepth 100000
set_option linter.unusedSimpArgs false
set_option linter.unusedVariables false

def updF (g : Nat → Nat) (xs : List Nat) (i : Nat) : List Nat := (List.range xs.length).map fun k => if k < i then g k else xs.getD k 0
theorem updF_length (g : Nat → Nat) (xs : List Nat) (i : Nat) : (updF g xs i).length = xs.length := by simp [updF]
theorem updF_zero (g : Nat → Nat) (xs : List Nat) : updF g xs 0 = xs := by
  refine list_ext_getD 0 (updF_length _ _ _) fun j hj => ?_
  rw [updF_length] at hj
  rw [updF, getD_range_map hj]
  simp
theorem updF_all (g : Nat → Nat) (xs : List Nat) : updF g xs xs.length = (List.range xs.length).map g := by
  refine list_ext_getD 0 (by simp [updF]) fun j hj => ?_
  rw [updF_length] at hj
  rw [updF, getD_range_map hj, getD_range_map hj, if_pos hj]
theorem updF_at {g : Nat → Nat} {xs : List Nat} {i : Nat} (h : i < xs.length) : ((updF g xs i).map fv)[i]? = some (.float .f32 (xs.getD i 0)) := by
  simp [updF, h, fv]
theorem updF_set {g : Nat → Nat} {xs : List Nat} {i : Nat} : (updF g xs i).set i (g i) = updF g xs (i + 1) := by
  refine list_ext_getD 0 (by simp [updF]) fun j hj => ?_
  have hj' : j < xs.length := by simpa [updF] using hj
  by_cases hji : j = i
  · subst hji
    rw [getD_set_self (by rw [updF_length]; exact hj'), updF, getD_range_map hj', if_pos (by omega)]
  · rw [Go.Gx.getD_set_ne (Ne.symm hji), updF, updF, getD_range_map hj', getD_range_map hj']
    by_cases h : j < i
    · rw [if_pos h, if_pos (by omega)]
    · rw [if_neg h, if_neg (by omega)]
theorem fin_nan {x : Nat} (h : finF x = true) : nanB .f32 x = false := by
  obtain ⟨s, m, e, hr⟩ := finF_num.1 h
  unfold nanB FloatKind.decode
  have : FloatKind.f32.format.read x = Ieee.single.read x := rfl
  rw [this, hr]; rfl
theorem ares_0 (φ : Go.Gx.Frame) (H : Heap) : ares φ H [] = some (.tuple #[]) := rfl
theorem i_besideOdd_f_ok {H : Heap} {v : Value} {xs : List Nat} {j : Nat} (hv : FS H v xs) (hn : xs.length ≤ 2 ^ 40) (hj : j < xs.length) :
    ACalls Try.prog n_i_besideOdd_float32_ [v, .int .i64 j] H fun r H' => r = .tuple #[.float .f32 (xs.getD j 0), .float .f32 (xs.getD (min (j + 1) (xs.length - 1)) 0)] ∧ H' = H := by
  have e : (min ((j : Int) + 1) ((xs.length : Int) - 1)).toNat = min (j + 1) (xs.length - 1) := by omega
  refine k_i_besideOdd_float32_.run rfl ?_
  unfold c_i_besideOdd_float32_
  simp (disch := first | assumption | omega | rfl | (refine id ?_; simp only [gxD, ne_eq, reduceCtorEq, not_false_eq_true, Nat.reduceAdd, *]; done) | (refine id ?_; simp only [gxD]; omega)) only [↓gxPre, gxPost, ↓reduceIte, Nat.reduceEqDiff, reduceCtorEq, Nat.reduceAdd, hv.len, hv.ia, hv.ld, e]
theorem i_besideEven_f_ok {H : Heap} {v : Value} {xs : List Nat} {j : Nat} (hv : FS H v xs) (hn : xs.length ≤ 2 ^ 40) (hj : j ≤ xs.length) (h1 : 1 ≤ xs.length) :
    ACalls Try.prog n_i_besideEven_float32_ [v, .int .i64 j] H fun r H' => r = .tuple #[.float .f32 (xs.getD (j - 1) 0), .float .f32 (xs.getD (min j (xs.length - 1)) 0)] ∧ H' = H := by
  have e : (min (j : Int) ((xs.length : Int) - 1)).toNat = min j (xs.length - 1) := by omega
  have e2 : (max ((j : Int) - 1) 0).toNat = j - 1 := by omega
  refine k_i_besideEven_float32_.run rfl ?_
  unfold c_i_besideEven_float32_
  simp (disch := first | assumption | omega | rfl | (refine id ?_; simp only [gxD, ne_eq, reduceCtorEq, not_false_eq_true, Nat.reduceAdd, *]; done) | (refine id ?_; simp only [gxD]; omega)) only [↓gxPre, gxPost, ↓reduceIte, Nat.reduceEqDiff, reduceCtorEq, Nat.reduceAdd, hv.len, hv.ia, hv.ld, e, e2]
theorem i_split_f_ok {H : Heap} {v : Value} {xs : List Nat} (hv : FS H v xs) (hn : xs.length ≤ 2 ^ 40) :
    ACalls Try.prog n_i_split_float32_ [v] H fun r H' => Ext H H' ∧ H.n + 2 ≤ H'.n ∧ r = .tuple #[.slice (some ⟨H.n, 0, none⟩) ((xs.length + 1) / 2) ((xs.length + 1) / 2), .slice (some ⟨H.n + 1, 0, none⟩) (xs.length / 2) (xs.length / 2)] ∧
      H'.blk H.n = some ⟨true, t_float32, (evL 0 xs xs.length).map fv⟩ ∧ H'.blk (H.n + 1) = some ⟨true, t_float32, (odL 0 xs xs.length).map fv⟩ := by
  refine k_i_split_float32_.run rfl ?_
  unfold c_i_split_float32_
  simp (disch := first | assumption | omega | rfl | (refine id ?_; simp only [gxD, ne_eq, reduceCtorEq, not_false_eq_true, Nat.reduceAdd, *]; done) | (refine id ?_; simp only [gxD]; omega)) only [↓gxPre, gxPost, ↓reduceIte, Nat.reduceEqDiff, reduceCtorEq, Nat.reduceAdd, hv.len]
  refine loop_forH xs.length (fun i => [.slice (some ⟨H.n, 0, none⟩) ((i + 1) / 2) ((i + 1) / 2), .slice (some ⟨H.n + 1, 0, none⟩) (i / 2) (i / 2), v, .int .i64 xs.length, .int .i64 i])
    (fun i G => H.n + 2 ≤ G.n ∧ Ext H G ∧ G.blk H.n = some ⟨true, t_float32, (evL 0 xs i).map fv⟩ ∧ G.blk (H.n + 1) = some ⟨true, t_float32, (odL 0 xs i).map fv⟩) rfl ⟨by simp only [new_n]; omega, ⟨by first | omega | (simp only [new_n, put_n]; omega) | (simp only [new_n, put_n] at *; omega), fun i hi => by simp (disch := first | assumption | omega | rfl | (refine id ?_; simp only [gxD, ne_eq, reduceCtorEq, not_false_eq_true, Nat.reduceAdd, *]; done) | (refine id ?_; simp only [gxD]; omega)) only [↓gxPre, gxPost, ↓reduceIte, Nat.reduceEqDiff, reduceCtorEq, Nat.reduceAdd, *]⟩, by simp (disch := first | assumption | omega | rfl | (refine id ?_; simp only [gxD, ne_eq, reduceCtorEq, not_false_eq_true, Nat.reduceAdd, *]; done) | (refine id ?_; simp only [gxD]; omega)) only [↓gxPre, gxPost, ↓reduceIte, Nat.reduceEqDiff, reduceCtorEq, Nat.reduceAdd]; rfl, by simp (disch := first | assumption | omega | rfl | (refine id ?_; simp only [gxD, ne_eq, reduceCtorEq, not_false_eq_true, Nat.reduceAdd, *]; done) | (refine id ?_; simp only [gxD]; omega)) only [↓gxPre, gxPost, ↓reduceIte, Nat.reduceEqDiff, reduceCtorEq, Nat.reduceAdd]; rfl⟩ ?_ ?_
  · rintro G ⟨hG, hE, hc, hd⟩
    simp (disch := first | assumption | omega | rfl | (refine id ?_; simp only [gxD, ne_eq, reduceCtorEq, not_false_eq_true, Nat.reduceAdd, *]; done) | (refine id ?_; simp only [gxD]; omega)) only [↓gxPre, gxPost, ↓reduceIte, Nat.reduceEqDiff, reduceCtorEq, Nat.reduceAdd, Int.lt_irrefl]
    exact ⟨hE, hG, hc, hd⟩
  · rintro i G hi ⟨hG, hE, hc, hd⟩
    have hv' := hv.ext hE
    have l1 : ((evL 0 xs i).map fv).length = (i + 1) / 2 := by rw [lMapN, evL_length]
    have l2 : ((odL 0 xs i).map fv).length = i / 2 := by rw [lMapN, odL_length]
    by_cases h2 : i % 2 = 0
    · have hc2 : ((i % 2 : Nat) : Int) = 0 := by omega
      have hm5 : (evL 0 xs i).map fv ++ [.float .f32 (xs.getD i 0)] = (evL 0 xs (i + 1)).map fv := by rw [evL_even h2, fv_snoc']
      obtain ⟨f1, f2, f3, f4⟩ := push_at hE hc (Nat.le_refl _) (by omega) hm5
      have e1 : (i + 1) / 2 + 1 = (i + 1 + 1) / 2 := by omega
      have e2 : i / 2 = (i + 1) / 2 := by omega
      simp (disch := first | assumption | omega | rfl | (refine id ?_; simp only [gxD, ne_eq, reduceCtorEq, not_false_eq_true, Nat.reduceAdd, *]; done) | (refine id ?_; simp only [gxD]; omega)) only [↓gxPre, gxPost, ↓reduceIte, Nat.reduceEqDiff, reduceCtorEq, Nat.reduceAdd, hv'.ia, hv'.ld, tmod2, hc2, hc, hd]
      refine ⟨by rw [e1, ← e2]; simp, by omega, f1, by rw [hm5], by rw [odL_even h2]⟩
    · have hc2 : ¬ ((i % 2 : Nat) : Int) = 0 := by omega
      have hm5 : (odL 0 xs i).map fv ++ [.float .f32 (xs.getD i 0)] = (odL 0 xs (i + 1)).map fv := by rw [odL_odd h2, fv_snoc']
      obtain ⟨f1, f2, f3, f4⟩ := push_at hE hd (by omega) (by omega) hm5
      have e1 : (i + 1) / 2 = (i + 1 + 1) / 2 := by omega
      have e2 : i / 2 + 1 = (i + 1) / 2 := by omega
      simp (disch := first | assumption | omega | rfl | (refine id ?_; simp only [gxD, ne_eq, reduceCtorEq, not_false_eq_true, Nat.reduceAdd, *]; done) | (refine id ?_; simp only [gxD]; omega)) only [↓gxPre, gxPost, ↓reduceIte, Nat.reduceEqDiff, reduceCtorEq, Nat.reduceAdd, hv'.ia, hv'.ld, tmod2, hc2, hc, hd]
      refine ⟨by rw [e2, ← e1]; simp, by omega, f1, by rw [evL_odd h2], by rw [hm5]⟩
theorem i_ValidScheme_ok {H : Heap} {a : Nat} {v : Value} {xs : List Nat} (hv : FS H v xs) (hn : xs.length ≤ 2 ^ 40) : ACalls Try.prog n_i_ValidScheme [.agg #[v, .float .f32 a]] H fun r H' => r = .bool (schemeF xs a) ∧ Ext H H' := by
  refine k_i_ValidScheme.run rfl ?_
  unfold c_i_ValidScheme
  have o1 := hv.one
  have e : Ext H (H.new ⟨true, t_Scheme, [v, .float .f32 a]⟩) := .new _ _
  simp (disch := first | assumption | omega | rfl | (refine id ?_; simp only [gxD, ne_eq, reduceCtorEq, not_false_eq_true, Nat.reduceAdd, *]; done) | (refine id ?_; simp only [gxD]; omega)) only [↓gxPre, gxPost, ↓reduceIte, Nat.reduceEqDiff, reduceCtorEq, Nat.reduceAdd, hv.len]
  refine callR_pure (i_within_ok) (by first | exact Or.inl rfl | (simp (disch := first | assumption | omega | rfl | (refine id ?_; simp only [gxD, ne_eq, reduceCtorEq, not_false_eq_true, Nat.reduceAdd, *]; done) | (refine id ?_; simp only [gxD]; omega)) only [↓gxPre, gxPost, ↓reduceIte, Nat.reduceEqDiff, reduceCtorEq, Nat.reduceAdd, *]; done)) ?_
  simp (disch := first | assumption | omega | rfl | (refine id ?_; simp only [gxD, ne_eq, reduceCtorEq, not_false_eq_true, Nat.reduceAdd, *]; done) | (refine id ?_; simp only [gxD]; omega)) only [↓gxPre, gxPost, ↓reduceIte, Nat.reduceEqDiff, reduceCtorEq, Nat.reduceAdd, *]
  cases h : within xs.length 1 8
  · simp (disch := first | assumption | omega | rfl | (refine id ?_; simp only [gxD, ne_eq, reduceCtorEq, not_false_eq_true, Nat.reduceAdd, *]; done) | (refine id ?_; simp only [gxD]; omega)) only [↓gxPre, gxPost, ↓reduceIte, Nat.reduceEqDiff, reduceCtorEq, Nat.reduceAdd]
    exact ⟨by simp only [schemeF, h, Bool.false_and], e⟩
  simp (disch := first | assumption | omega | rfl | (refine id ?_; simp only [gxD, ne_eq, reduceCtorEq, not_false_eq_true, Nat.reduceAdd, *]; done) | (refine id ?_; simp only [gxD]; omega)) only [↓gxPre, gxPost, ↓reduceIte, Nat.reduceEqDiff, reduceCtorEq, Nat.reduceAdd]
  refine callR_pure (i_areFinite1_ok (by simp (disch := first | assumption | omega | rfl | (refine id ?_; simp only [gxD, ne_eq, reduceCtorEq, not_false_eq_true, Nat.reduceAdd, *]; done) | (refine id ?_; simp only [gxD]; omega)) only [↓gxPre, gxPost, ↓reduceIte, Nat.reduceEqDiff, reduceCtorEq, Nat.reduceAdd, *]; rfl) (by first | omega | (simp only [new_n, put_n]; omega)) (hv.ext ⟨by first | omega | (simp only [new_n, put_n]; omega) | (simp only [new_n, put_n] at *; omega), fun i hi => by simp (disch := first | assumption | omega | rfl | (refine id ?_; simp only [gxD, ne_eq, reduceCtorEq, not_false_eq_true, Nat.reduceAdd, *]; done) | (refine id ?_; simp only [gxD]; omega)) only [↓gxPre, gxPost, ↓reduceIte, Nat.reduceEqDiff, reduceCtorEq, Nat.reduceAdd, *]⟩) hn) (.inl rfl) ?_
  have e2 : Ext H ((H.new ⟨true, t_Scheme, [v, .float .f32 a]⟩).new ⟨true, t_sfloat32, [v]⟩) := e.news _
  cases h2 : xs.all finF
  · simp (disch := first | assumption | omega | rfl | (refine id ?_; simp only [gxD, ne_eq, reduceCtorEq, not_false_eq_true, Nat.reduceAdd, *]; done) | (refine id ?_; simp only [gxD]; omega)) only [↓gxPre, gxPost, ↓reduceIte, Nat.reduceEqDiff, reduceCtorEq, Nat.reduceAdd]
    exact ⟨by simp only [schemeF, h2, Bool.and_false, Bool.false_and], e2⟩
  simp (disch := first | assumption | omega | rfl | (refine id ?_; simp only [gxD, ne_eq, reduceCtorEq, not_false_eq_true, Nat.reduceAdd, *]; done) | (refine id ?_; simp only [gxD]; omega)) only [↓gxPre, gxPost, ↓reduceIte, Nat.reduceEqDiff, reduceCtorEq, Nat.reduceAdd]
  refine callR_pure (i_isOver_ok) (by first | exact Or.inl rfl | (simp (disch := first | assumption | omega | rfl | (refine id ?_; simp only [gxD, ne_eq, reduceCtorEq, not_false_eq_true, Nat.reduceAdd, *]; done) | (refine id ?_; simp only [gxD]; omega)) only [↓gxPre, gxPost, ↓reduceIte, Nat.reduceEqDiff, reduceCtorEq, Nat.reduceAdd, *]; done)) ?_
  simp (disch := first | assumption | omega | rfl | (refine id ?_; simp only [gxD, ne_eq, reduceCtorEq, not_false_eq_true, Nat.reduceAdd, *]; done) | (refine id ?_; simp only [gxD]; omega)) only [↓gxPre, gxPost, ↓reduceIte, Nat.reduceEqDiff, reduceCtorEq, Nat.reduceAdd, *]
  first | exact ⟨by simp only [schemeF, h, h2, overF, Bool.true_and], e2⟩ | (simp only [schemeF, h, h2, overF, Bool.true_and]; done)
theorem i_IsList_ok {H : Heap} {v : Value} {xs : List Nat} (hv : FS H v xs) (hn : xs.length ≤ 2 ^ 40) : ACalls Try.prog n_i_IsList [v] H fun r H' => r = .bool (isLongF xs) ∧ Ext H H' := by
  refine k_i_IsList.run rfl ?_
  unfold c_i_IsList
  have hv1 := hv.one
  ((try simp (disch := first | assumption | omega | rfl | (refine id ?_; simp only [gxD, ne_eq, reduceCtorEq, not_false_eq_true, Nat.reduceAdd, *]; done) | (refine id ?_; simp only [gxD]; omega)) only [↓gxPre, gxPost, ↓reduceIte, Nat.reduceEqDiff, reduceCtorEq, Nat.reduceAdd, hv.len, *]); repeat' (first | (refine grdR_split (fun _ => ?_) (fun _ => ?_) <;> simp (disch := first | assumption | omega | rfl | (refine id ?_; simp only [gxD, ne_eq, reduceCtorEq, not_false_eq_true, Nat.reduceAdd, *]; done) | (refine id ?_; simp only [gxD]; omega)) only [↓gxPre, gxPost, ↓reduceIte, Nat.reduceEqDiff, reduceCtorEq, Nat.reduceAdd, hv.len, *]) | (refine condR_split (fun _ => ?_) (fun _ => ?_) <;> simp (disch := first | assumption | omega | rfl | (refine id ?_; simp only [gxD, ne_eq, reduceCtorEq, not_false_eq_true, Nat.reduceAdd, *]; done) | (refine id ?_; simp only [gxD]; omega)) only [↓gxPre, gxPost, ↓reduceIte, Nat.reduceEqDiff, reduceCtorEq, Nat.reduceAdd, hv.len, *]) | (refine callR_pure (i_within_ok) (by first | exact Or.inl rfl | (simp (disch := first | assumption | omega | rfl | (refine id ?_; simp only [gxD, ne_eq, reduceCtorEq, not_false_eq_true, Nat.reduceAdd, *]; done) | (refine id ?_; simp only [gxD]; omega)) only [↓gxPre, gxPost, ↓reduceIte, Nat.reduceEqDiff, reduceCtorEq, Nat.reduceAdd, hv.len, *]; done)) ?_; simp (disch := first | assumption | omega | rfl | (refine id ?_; simp only [gxD, ne_eq, reduceCtorEq, not_false_eq_true, Nat.reduceAdd, *]; done) | (refine id ?_; simp only [gxD]; omega)) only [↓gxPre, gxPost, ↓reduceIte, Nat.reduceEqDiff, reduceCtorEq, Nat.reduceAdd, hv.len, *]) | (refine callR_pure (i_areFinite1_ok (by simp (disch := first | assumption | omega | rfl | (refine id ?_; simp only [gxD, ne_eq, reduceCtorEq, not_false_eq_true, Nat.reduceAdd, *]; done) | (refine id ?_; simp only [gxD]; omega)) only [↓gxPre, gxPost, ↓reduceIte, Nat.reduceEqDiff, reduceCtorEq, Nat.reduceAdd, *]; rfl) (by first | omega | (simp only [new_n, put_n]; omega)) (hv.ext ⟨by first | omega | (simp only [new_n, put_n]; omega) | (simp only [new_n, put_n] at *; omega), fun i hi => by simp (disch := first | assumption | omega | rfl | (refine id ?_; simp only [gxD, ne_eq, reduceCtorEq, not_false_eq_true, Nat.reduceAdd, *]; done) | (refine id ?_; simp only [gxD]; omega)) only [↓gxPre, gxPost, ↓reduceIte, Nat.reduceEqDiff, reduceCtorEq, Nat.reduceAdd, *]⟩) hn) (by first | exact Or.inl rfl | (simp (disch := first | assumption | omega | rfl | (refine id ?_; simp only [gxD, ne_eq, reduceCtorEq, not_false_eq_true, Nat.reduceAdd, *]; done) | (refine id ?_; simp only [gxD]; omega)) only [↓gxPre, gxPost, ↓reduceIte, Nat.reduceEqDiff, reduceCtorEq, Nat.reduceAdd, hv.len, *]; done)) ?_; simp (disch := first | assumption | omega | rfl | (refine id ?_; simp only [gxD, ne_eq, reduceCtorEq, not_false_eq_true, Nat.reduceAdd, *]; done) | (refine id ?_; simp only [gxD]; omega)) only [↓gxPre, gxPost, ↓reduceIte, Nat.reduceEqDiff, reduceCtorEq, Nat.reduceAdd, hv.len, *])))
  all_goals first | exact ⟨by simp_all [isLongF], ⟨by first | omega | (simp only [new_n, put_n]; omega) | (simp only [new_n, put_n] at *; omega), fun i hi => by simp (disch := first | assumption | omega | rfl | (refine id ?_; simp only [gxD, ne_eq, reduceCtorEq, not_false_eq_true, Nat.reduceAdd, *]; done) | (refine id ?_; simp only [gxD]; omega)) only [↓gxPre, gxPost, ↓reduceIte, Nat.reduceEqDiff, reduceCtorEq, Nat.reduceAdd, *]⟩⟩ | simp_all [isLongF]
theorem i_weigh_1_ok {H : Heap} {h j n b c w x y : Nat} {bk : Bool} {ty sb sc : TypeId} {ob oc : Bool} {xs : List Nat} (hb : H.blk h = some ⟨true, ty, xs.map fv⟩) (hn : xs.length = n) (hj : j < n) (h1 : H.blk b = some ⟨ob, sb, [.float .f32 w]⟩) (h2 : H.blk c = some ⟨oc, sc, [.bool bk]⟩) (hw : nanB .f32 w = false) :
    ACalls Try.prog n_i_weigh_1 [.pointer (some ⟨h, j, some n⟩), .float .f32 x, .float .f32 y, .pointer (some ⟨b, 0, some 1⟩), .pointer (some ⟨c, 0, some 1⟩)] H fun r H' => r = .tuple #[] ∧ H' = H.put h ⟨true, ty, (xs.set j (addF (xs.getD j 0) (mulF (if bk = true then fneg .f32 w else w) (addF x y)))).map fv⟩ := by
  have hl : (xs.map fv).length = n := by rw [lMapN, hn]
  have ha : (xs.map fv)[j]? = some (.float .f32 (xs.getD j 0)) := by simp [List.getD_eq_getElem?_getD, hn, hj, fv]
  refine k_i_weigh_1.run rfl ?_
  unfold c_i_weigh_1
  cases bk
  · simp (disch := first | assumption | omega | rfl | (refine id ?_; simp only [gxD, ne_eq, reduceCtorEq, not_false_eq_true, Nat.reduceAdd, *]; done) | (refine id ?_; simp only [gxD]; omega)) only [↓gxPre, gxPost, ↓reduceIte, Nat.reduceEqDiff, reduceCtorEq, Nat.reduceAdd, h1, h2, hb, ha, ares_0]
    rw [fv_set']; rfl
  · have hs := sub_mul_neg (x := xs.getD j 0) (w := w) (y := addF x y) hw
    unfold addF at hs
    simp (disch := first | assumption | omega | rfl | (refine id ?_; simp only [gxD, ne_eq, reduceCtorEq, not_false_eq_true, Nat.reduceAdd, *]; done) | (refine id ?_; simp only [gxD]; omega)) only [↓gxPre, gxPost, ↓reduceIte, Nat.reduceEqDiff, reduceCtorEq, Nat.reduceAdd, h1, h2, hb, ha, ares_0]
    rw [fv_set', hs]; rfl
theorem i_weigh_ok {H : Heap} {a b k w : Nat} {bk : Bool} {ev od : List Nat} (ha : H.blk a = some ⟨true, t_float32, ev.map fv⟩) (hb : H.blk b = some ⟨true, t_float32, od.map fv⟩) (hab : a ≠ b) (han : a < H.n) (hbn : b < H.n) (h1 : 1 ≤ od.length) (h2 : od.length ≤ ev.length) (h3 : ev.length ≤ od.length + 1) (h4 : ev.length ≤ 2 ^ 30) (hw : nanB .f32 w = false) (hk : k ≤ 2 ^ 30) :
    ACalls Try.prog n_i_weigh [.slice (some ⟨a, 0, none⟩) ev.length ev.length, .slice (some ⟨b, 0, none⟩) od.length od.length, .int .i64 k, .float .f32 w, .bool bk] H fun r H' => r = .tuple #[] ∧ H.n ≤ H'.n ∧
      H'.blk a = some ⟨true, t_float32, (weighF k (if bk = true then fneg .f32 w else w) (ev, od)).1.map fv⟩ ∧ H'.blk b = some ⟨true, t_float32, (weighF k (if bk = true then fneg .f32 w else w) (ev, od)).2.map fv⟩ ∧ ∀ i, i < H.n → i ≠ a → i ≠ b → H'.blk i = H.blk i := by
  obtain ⟨w', hw'⟩ : ∃ w', w' = if bk = true then fneg .f32 w else w := ⟨_, rfl⟩
  rw [← hw']
  refine k_i_weigh.run rfl ?_
  unfold c_i_weigh
  by_cases hp : k % 2 = 0
  · have hp' : ((k % 2 : Nat) : Int) = 0 := by omega
    have hW : weighF k w' (ev, od) = (ev, (List.range od.length).map (wO ev od w')) := by unfold weighF; rw [if_pos hp]
    rw [hW]
    simp (disch := first | assumption | omega | rfl | (refine id ?_; simp only [gxD, ne_eq, reduceCtorEq, not_false_eq_true, Nat.reduceAdd, *]; done) | (refine id ?_; simp only [gxD]; omega)) only [↓gxPre, gxPost, ↓reduceIte, Nat.reduceEqDiff, reduceCtorEq, Nat.reduceAdd, tmod2, hp']
    have hu0 : updF (wO ev od w') od 0 = od := updF_zero _ _
    refine loop_forH od.length (fun j => [.slice (some ⟨a, 0, none⟩) ev.length ev.length, .slice (some ⟨b, 0, none⟩) od.length od.length, .func (.func n_i_weigh_1) #[] #[.pointer (some ⟨H.n, 0, some 1⟩), .pointer (some ⟨H.n + 1, 0, some 1⟩)], .int .i64 od.length, .int .i64 j])
      (fun j G => G.n = H.n + 2 ∧ G.blk a = some ⟨true, t_float32, ev.map fv⟩ ∧ G.blk b = some ⟨true, t_float32, (updF (wO ev od w') od j).map fv⟩ ∧ G.blk H.n = some ⟨true, t_float32, [.float .f32 w]⟩ ∧ G.blk (H.n + 1) = some ⟨true, t_bool, [.bool bk]⟩ ∧ ∀ i, i < H.n → i ≠ a → i ≠ b → G.blk i = H.blk i) rfl
      ⟨by simp [new_n], by simp (disch := first | assumption | omega | rfl | (refine id ?_; simp only [gxD, ne_eq, reduceCtorEq, not_false_eq_true, Nat.reduceAdd, *]; done) | (refine id ?_; simp only [gxD]; omega)) only [↓gxPre, gxPost, ↓reduceIte, Nat.reduceEqDiff, reduceCtorEq, Nat.reduceAdd, ha], by rw [hu0]; simp (disch := first | assumption | omega | rfl | (refine id ?_; simp only [gxD, ne_eq, reduceCtorEq, not_false_eq_true, Nat.reduceAdd, *]; done) | (refine id ?_; simp only [gxD]; omega)) only [↓gxPre, gxPost, ↓reduceIte, Nat.reduceEqDiff, reduceCtorEq, Nat.reduceAdd, hb], by simp (disch := first | assumption | omega | rfl | (refine id ?_; simp only [gxD, ne_eq, reduceCtorEq, not_false_eq_true, Nat.reduceAdd, *]; done) | (refine id ?_; simp only [gxD]; omega)) only [↓gxPre, gxPost, ↓reduceIte, Nat.reduceEqDiff, reduceCtorEq, Nat.reduceAdd], by simp (disch := first | assumption | omega | rfl | (refine id ?_; simp only [gxD, ne_eq, reduceCtorEq, not_false_eq_true, Nat.reduceAdd, *]; done) | (refine id ?_; simp only [gxD]; omega)) only [↓gxPre, gxPost, ↓reduceIte, Nat.reduceEqDiff, reduceCtorEq, Nat.reduceAdd], fun i h1 _ _ => by simp (disch := first | assumption | omega | rfl | (refine id ?_; simp only [gxD, ne_eq, reduceCtorEq, not_false_eq_true, Nat.reduceAdd, *]; done) | (refine id ?_; simp only [gxD]; omega)) only [↓gxPre, gxPost, ↓reduceIte, Nat.reduceEqDiff, reduceCtorEq, Nat.reduceAdd]⟩ ?_ ?_
    · rintro G ⟨hG, hga, hgb, _, _, hF⟩
      rw [updF_all] at hgb
      simp (disch := first | assumption | omega | rfl | (refine id ?_; simp only [gxD, ne_eq, reduceCtorEq, not_false_eq_true, Nat.reduceAdd, *]; done) | (refine id ?_; simp only [gxD]; omega)) only [↓gxPre, gxPost, ↓reduceIte, Nat.reduceEqDiff, reduceCtorEq, Nat.reduceAdd, Int.lt_irrefl, ares_0]
      exact ⟨by omega, hga, hgb, hF⟩
    · rintro j G hj ⟨hG, hga, hgb, hx, hy, hF⟩
      have lo := updF_length (wO ev od w') od j
      have lo' : ((updF (wO ev od w') od j).map fv).length = od.length := by rw [lMapN, lo]
      have gj : (updF (wO ev od w') od j).getD j 0 = od.getD j 0 := by
        have := updF_at (g := wO ev od w') hj
        simp [List.getD_eq_getElem?_getD, fv, lo, hj] at this
        simpa [List.getD_eq_getElem?_getD, lo, hj] using this
      simp (disch := first | assumption | omega | rfl | (refine id ?_; simp only [gxD, ne_eq, reduceCtorEq, not_false_eq_true, Nat.reduceAdd, *]; done) | (refine id ?_; simp only [gxD]; omega)) only [↓gxPre, gxPost, ↓reduceIte, Nat.reduceEqDiff, reduceCtorEq, Nat.reduceAdd]
      refine callR_pure (i_besideOdd_f_ok (FS.own hga (by omega) rfl) (by omega) (by omega)) (by first | exact .inl rfl | (simp (disch := first | assumption | omega | rfl | (refine id ?_; simp only [gxD, ne_eq, reduceCtorEq, not_false_eq_true, Nat.reduceAdd, *]; done) | (refine id ?_; simp only [gxD]; omega)) only [↓gxPre, gxPost, ↓reduceIte, Nat.reduceEqDiff, reduceCtorEq, Nat.reduceAdd]; done)) ?_
      simp (disch := first | assumption | omega | rfl | (refine id ?_; simp only [gxD, ne_eq, reduceCtorEq, not_false_eq_true, Nat.reduceAdd, *]; done) | (refine id ?_; simp only [gxD]; omega)) only [↓gxPre, gxPost, ↓reduceIte, Nat.reduceEqDiff, reduceCtorEq, Nat.reduceAdd, hgb]
      refine callR_of (i_weigh_1_ok hgb lo hj hx hy hw) ?_
      rw [← hw', gj, show addF (od.getD j 0) (mulF w' (addF (ev.getD j 0) (ev.getD (min (j + 1) (ev.length - 1)) 0))) = wO ev od w' j from rfl, updF_set]
      rintro _ _ ⟨rfl, rfl⟩
      simp (disch := first | assumption | omega | rfl | (refine id ?_; simp only [gxD, ne_eq, reduceCtorEq, not_false_eq_true, Nat.reduceAdd, *]; done) | (refine id ?_; simp only [gxD]; omega)) only [↓gxPre, gxPost, ↓reduceIte, Nat.reduceEqDiff, reduceCtorEq, Nat.reduceAdd]
      refine ⟨by simp, hG, ?_, ?_, ?_, fun i h1 h2 h3 => ?_⟩
      · first | exact hga | rw [hput_other _ _ _ _ hab, hga]
      · first | exact hx | rw [hput_other _ _ _ _ (by omega), hx]
      · first | exact hy | rw [hput_other _ _ _ _ (by omega), hy]
      · first | exact hF i h1 h2 h3 | rw [hput_other _ _ _ _ h3, hF i h1 h2 h3]
  · have hp' : ¬ ((k % 2 : Nat) : Int) = 0 := by omega
    have hW : weighF k w' (ev, od) = ((List.range ev.length).map (wE ev od w'), od) := by unfold weighF; rw [if_neg hp]
    rw [hW]
    simp (disch := first | assumption | omega | rfl | (refine id ?_; simp only [gxD, ne_eq, reduceCtorEq, not_false_eq_true, Nat.reduceAdd, *]; done) | (refine id ?_; simp only [gxD]; omega)) only [↓gxPre, gxPost, ↓reduceIte, Nat.reduceEqDiff, reduceCtorEq, Nat.reduceAdd, tmod2, hp']
    have hu0 : updF (wE ev od w') ev 0 = ev := updF_zero _ _
    refine loop_forH ev.length (fun j => [.slice (some ⟨a, 0, none⟩) ev.length ev.length, .slice (some ⟨b, 0, none⟩) od.length od.length, .func (.func n_i_weigh_1) #[] #[.pointer (some ⟨H.n, 0, some 1⟩), .pointer (some ⟨H.n + 1, 0, some 1⟩)], .int .i64 ev.length, .int .i64 j])
      (fun j G => G.n = H.n + 2 ∧ G.blk a = some ⟨true, t_float32, (updF (wE ev od w') ev j).map fv⟩ ∧ G.blk b = some ⟨true, t_float32, od.map fv⟩ ∧ G.blk H.n = some ⟨true, t_float32, [.float .f32 w]⟩ ∧ G.blk (H.n + 1) = some ⟨true, t_bool, [.bool bk]⟩ ∧ ∀ i, i < H.n → i ≠ a → i ≠ b → G.blk i = H.blk i) rfl
      ⟨by simp [new_n], by rw [hu0]; simp (disch := first | assumption | omega | rfl | (refine id ?_; simp only [gxD, ne_eq, reduceCtorEq, not_false_eq_true, Nat.reduceAdd, *]; done) | (refine id ?_; simp only [gxD]; omega)) only [↓gxPre, gxPost, ↓reduceIte, Nat.reduceEqDiff, reduceCtorEq, Nat.reduceAdd, ha], by simp (disch := first | assumption | omega | rfl | (refine id ?_; simp only [gxD, ne_eq, reduceCtorEq, not_false_eq_true, Nat.reduceAdd, *]; done) | (refine id ?_; simp only [gxD]; omega)) only [↓gxPre, gxPost, ↓reduceIte, Nat.reduceEqDiff, reduceCtorEq, Nat.reduceAdd, hb], by simp (disch := first | assumption | omega | rfl | (refine id ?_; simp only [gxD, ne_eq, reduceCtorEq, not_false_eq_true, Nat.reduceAdd, *]; done) | (refine id ?_; simp only [gxD]; omega)) only [↓gxPre, gxPost, ↓reduceIte, Nat.reduceEqDiff, reduceCtorEq, Nat.reduceAdd], by simp (disch := first | assumption | omega | rfl | (refine id ?_; simp only [gxD, ne_eq, reduceCtorEq, not_false_eq_true, Nat.reduceAdd, *]; done) | (refine id ?_; simp only [gxD]; omega)) only [↓gxPre, gxPost, ↓reduceIte, Nat.reduceEqDiff, reduceCtorEq, Nat.reduceAdd], fun i h1 _ _ => by simp (disch := first | assumption | omega | rfl | (refine id ?_; simp only [gxD, ne_eq, reduceCtorEq, not_false_eq_true, Nat.reduceAdd, *]; done) | (refine id ?_; simp only [gxD]; omega)) only [↓gxPre, gxPost, ↓reduceIte, Nat.reduceEqDiff, reduceCtorEq, Nat.reduceAdd]⟩ ?_ ?_
    · rintro G ⟨hG, hga, hgb, _, _, hF⟩
      rw [updF_all] at hga
      simp (disch := first | assumption | omega | rfl | (refine id ?_; simp only [gxD, ne_eq, reduceCtorEq, not_false_eq_true, Nat.reduceAdd, *]; done) | (refine id ?_; simp only [gxD]; omega)) only [↓gxPre, gxPost, ↓reduceIte, Nat.reduceEqDiff, reduceCtorEq, Nat.reduceAdd, Int.lt_irrefl, ares_0]
      exact ⟨by omega, hga, hgb, hF⟩
    · rintro j G hj ⟨hG, hga, hgb, hx, hy, hF⟩
      have lo := updF_length (wE ev od w') ev j
      have lo' : ((updF (wE ev od w') ev j).map fv).length = ev.length := by rw [lMapN, lo]
      have gj : (updF (wE ev od w') ev j).getD j 0 = ev.getD j 0 := by
        have := updF_at (g := wE ev od w') hj
        simp [List.getD_eq_getElem?_getD, fv, lo, hj] at this
        simpa [List.getD_eq_getElem?_getD, lo, hj] using this
      simp (disch := first | assumption | omega | rfl | (refine id ?_; simp only [gxD, ne_eq, reduceCtorEq, not_false_eq_true, Nat.reduceAdd, *]; done) | (refine id ?_; simp only [gxD]; omega)) only [↓gxPre, gxPost, ↓reduceIte, Nat.reduceEqDiff, reduceCtorEq, Nat.reduceAdd]
      refine callR_pure (i_besideEven_f_ok (FS.own hgb (by omega) rfl) (by omega) (by omega) (by omega)) (by first | exact .inl rfl | (simp (disch := first | assumption | omega | rfl | (refine id ?_; simp only [gxD, ne_eq, reduceCtorEq, not_false_eq_true, Nat.reduceAdd, *]; done) | (refine id ?_; simp only [gxD]; omega)) only [↓gxPre, gxPost, ↓reduceIte, Nat.reduceEqDiff, reduceCtorEq, Nat.reduceAdd]; done)) ?_
      simp (disch := first | assumption | omega | rfl | (refine id ?_; simp only [gxD, ne_eq, reduceCtorEq, not_false_eq_true, Nat.reduceAdd, *]; done) | (refine id ?_; simp only [gxD]; omega)) only [↓gxPre, gxPost, ↓reduceIte, Nat.reduceEqDiff, reduceCtorEq, Nat.reduceAdd, hga]
      refine callR_of (i_weigh_1_ok hga lo hj hx hy hw) ?_
      rw [← hw', gj, show addF (ev.getD j 0) (mulF w' (addF (od.getD (j - 1) 0) (od.getD (min j (od.length - 1)) 0))) = wE ev od w' j from rfl, updF_set]
      rintro _ _ ⟨rfl, rfl⟩
      simp (disch := first | assumption | omega | rfl | (refine id ?_; simp only [gxD, ne_eq, reduceCtorEq, not_false_eq_true, Nat.reduceAdd, *]; done) | (refine id ?_; simp only [gxD]; omega)) only [↓gxPre, gxPost, ↓reduceIte, Nat.reduceEqDiff, reduceCtorEq, Nat.reduceAdd]
      refine ⟨by simp, hG, ?_, ?_, ?_, fun i h1 h2 h3 => ?_⟩
      · first | exact hgb | rw [hput_other _ _ _ _ (Ne.symm hab), hgb]
      · first | exact hx | rw [hput_other _ _ _ _ (by omega), hx]
      · first | exact hy | rw [hput_other _ _ _ _ (by omega), hy]
      · first | exact hF i h1 h2 h3 | rw [hput_other _ _ _ _ h2, hF i h1 h2 h3]
theorem i_weigh_at {H : Heap} {a b k w n m : Nat} {bk : Bool} {ev od : List Nat} (ha : H.blk a = some ⟨true, t_float32, ev.map fv⟩) (hb : H.blk b = some ⟨true, t_float32, od.map fv⟩) (hn : ev.length = n) (hm : od.length = m) (hab : a ≠ b) (han : a < H.n) (hbn : b < H.n) (h1 : 1 ≤ m) (h2 : m ≤ n) (h3 : n ≤ m + 1) (h4 : n ≤ 2 ^ 30) (hw : nanB .f32 w = false) (hk : k ≤ 2 ^ 30) :
    ACalls Try.prog n_i_weigh [.slice (some ⟨a, 0, none⟩) n n, .slice (some ⟨b, 0, none⟩) m m, .int .i64 k, .float .f32 w, .bool bk] H fun r H' => r = .tuple #[] ∧ H.n ≤ H'.n ∧
      H'.blk a = some ⟨true, t_float32, (weighF k (if bk = true then fneg .f32 w else w) (ev, od)).1.map fv⟩ ∧ H'.blk b = some ⟨true, t_float32, (weighF k (if bk = true then fneg .f32 w else w) (ev, od)).2.map fv⟩ ∧ ∀ i, i < H.n → i ≠ a → i ≠ b → H'.blk i = H.blk i := by
  subst hn hm
  exact i_weigh_ok ha hb hab han hbn h1 h2 h3 h4 hw hk
theorem isLong_len {xs : List Nat} (h : isLongF xs = true) : xs.length ≤ 128 ∧ 1 ≤ xs.length := by
  simp only [isLongF, Bool.and_eq_true] at h
  have := within_true.1 h.1
  omega
def mulL (sc : Nat) (xs : List Nat) : Nat → List Nat := updF (fun k => fbin .mul .f32 (xs.getD k 0) sc) xs
def quoL (sc : Nat) (xs : List Nat) : Nat → List Nat := updF (fun k => fbin .quo .f32 (xs.getD k 0) sc) xs
theorem range_getD_map (f : Nat → Nat) (xs : List Nat) : (List.range xs.length).map (fun k => f (xs.getD k 0)) = xs.map f := by
  refine List.ext_getElem (by simp) fun i h1 h2 => ?_
  have h : i < xs.length := by simpa using h2
  simp [List.getD_eq_getElem?_getD, h]
theorem mulL_all (sc : Nat) (xs : List Nat) : mulL sc xs xs.length = xs.map fun x => fbin .mul .f32 x sc := by
  rw [mulL, updF_all]; exact range_getD_map (fun x => fbin .mul .f32 x sc) xs
theorem quoL_all (sc : Nat) (xs : List Nat) : quoL sc xs xs.length = xs.map fun x => fbin .quo .f32 x sc := by
  rw [quoL, updF_all]; exact range_getD_map (fun x => fbin .quo .f32 x sc) xs
theorem mulL_length (sc : Nat) (xs : List Nat) (i : Nat) : (mulL sc xs i).length = xs.length := updF_length _ _ _
theorem quoL_length (sc : Nat) (xs : List Nat) (i : Nat) : (quoL sc xs i).length = xs.length := updF_length _ _ _
theorem mulL_zero (sc : Nat) (xs : List Nat) : mulL sc xs 0 = xs := updF_zero _ _
theorem quoL_zero (sc : Nat) (xs : List Nat) : quoL sc xs 0 = xs := updF_zero _ _
theorem mulL_at {sc : Nat} {xs : List Nat} {i : Nat} (h : i < xs.length) : ((mulL sc xs i).map fv)[i]? = some (.float .f32 (xs.getD i 0)) := updF_at h
theorem quoL_at {sc : Nat} {xs : List Nat} {i : Nat} (h : i < xs.length) : ((quoL sc xs i).map fv)[i]? = some (.float .f32 (xs.getD i 0)) := updF_at h
theorem mulL_set {sc : Nat} {xs : List Nat} {i : Nat} : ((mulL sc xs i).map fv).set i (.float .f32 (fbin .mul .f32 (xs.getD i 0) sc)) = (mulL sc xs (i + 1)).map fv := by rw [fv_set']; exact congrArg (List.map fv) updF_set
theorem quoL_set {sc : Nat} {xs : List Nat} {i : Nat} : ((quoL sc xs i).map fv).set i (.float .f32 (fbin .quo .f32 (xs.getD i 0) sc)) = (quoL sc xs (i + 1)).map fv := by rw [fv_set']; exact congrArg (List.map fv) updF_set
theorem weighUp_zero (ws : List Nat) (p : List Nat × List Nat) : weighUp ws p 0 = p := rfl
theorem weighUp_succ (ws : List Nat) (p : List Nat × List Nat) (i : Nat) : weighUp ws p (i + 1) = weighF i (ws.getD i 0) (weighUp ws p i) := rfl
structure RF (H : Heap) (v : Value) (xs : List Nat) : Prop where
  rd : FS H v xs
  le : xs.length ≤ 2 ^ 40
theorem i_LiftOnce_core {H : Heap} {v0 v1 : Value} {xs0 xs1 : List Nat} {a0 : Nat} (A0 : RF H v0 xs0) (b0 : a0 < 2 ^ 32) (A1 : RF H v1 xs1) :
    ACalls Try.prog n_i_LiftOnce [.agg #[v0, .float .f32 a0], v1] H fun r H' => TwoR fv t_float32 H (schemeF xs0 a0 && isLongF xs1 && liftOkF xs0 a0 xs1) (liftF xs0 a0 xs1).1 (liftF xs0 a0 xs1).2 r H' := by
  refine k_i_LiftOnce.run rfl ?_
  unfold c_i_LiftOnce
  have o0 := A0.rd.one
  have e0 : Ext H (H.new ⟨true, t_Scheme, [v0, .float .f32 a0]⟩) := .new _ _
  simp (disch := first | assumption | omega | rfl | (refine id ?_; simp only [gxD, ne_eq, reduceCtorEq, not_false_eq_true, Nat.reduceAdd, *]; done) | (refine id ?_; simp only [gxD]; omega)) only [↓gxPre, gxPost, ↓reduceIte, Nat.reduceEqDiff, reduceCtorEq, Nat.reduceAdd]
  refine callR_ext (i_ValidScheme_ok (A0.rd.ext e0) A0.le) ?_
  intro H1 n1 bb1
  have e1 := e0.trans ⟨n1, bb1⟩
  have hs1 : H1.blk H.n = some ⟨true, t_Scheme, [v0, .float .f32 a0]⟩ := (bb1 _ (by first | omega | (simp only [new_n, put_n]; omega))).trans (by simp (disch := first | assumption | omega | rfl | (refine id ?_; simp only [gxD, ne_eq, reduceCtorEq, not_false_eq_true, Nat.reduceAdd, *]; done) | (refine id ?_; simp only [gxD]; omega)) only [↓gxPre, gxPost, ↓reduceIte, Nat.reduceEqDiff, reduceCtorEq, Nat.reduceAdd])
  simp only [new_n] at n1
  cases h0 : schemeF xs0 a0
  · simp (disch := first | assumption | omega | rfl | (refine id ?_; simp only [gxD, ne_eq, reduceCtorEq, not_false_eq_true, Nat.reduceAdd, *]; done) | (refine id ?_; simp only [gxD]; omega)) only [↓gxPre, gxPost, ↓reduceIte, Nat.reduceEqDiff, reduceCtorEq, Nat.reduceAdd]
    exact .no (by simp only [Bool.false_and, Bool.true_and, Bool.and_true, Bool.and_false, Bool.or_true, Bool.true_or, Bool.false_or, Bool.or_false, Bool.and_self, Bool.or_self]) e1
  simp (disch := first | assumption | omega | rfl | (refine id ?_; simp only [gxD, ne_eq, reduceCtorEq, not_false_eq_true, Nat.reduceAdd, *]; done) | (refine id ?_; simp only [gxD]; omega)) only [↓gxPre, gxPost, ↓reduceIte, Nat.reduceEqDiff, reduceCtorEq, Nat.reduceAdd]
  refine callR_ext (i_IsList_ok (A1.rd.ext e1) A1.le) ?_
  intro H2 n2 bb2
  have e2 := e1.trans ⟨n2, bb2⟩
  have hs2 : H2.blk H.n = some ⟨true, t_Scheme, [v0, .float .f32 a0]⟩ := (bb2 _ (by omega)).trans hs1
  cases h1 : isLongF xs1
  · simp (disch := first | assumption | omega | rfl | (refine id ?_; simp only [gxD, ne_eq, reduceCtorEq, not_false_eq_true, Nat.reduceAdd, *]; done) | (refine id ?_; simp only [gxD]; omega)) only [↓gxPre, gxPost, ↓reduceIte, Nat.reduceEqDiff, reduceCtorEq, Nat.reduceAdd]
    exact .no (by simp only [Bool.false_and, Bool.true_and, Bool.and_true, Bool.and_false, Bool.or_true, Bool.true_or, Bool.false_or, Bool.or_false, Bool.and_self, Bool.or_self]) e2
  obtain ⟨hl, hl1⟩ := isLong_len h1
  have hf0 : xs0.all finF = true := by
    unfold schemeF at h0
    simp only [Bool.and_eq_true] at h0
    exact h0.1.2
  simp (disch := first | assumption | omega | rfl | (refine id ?_; simp only [gxD, ne_eq, reduceCtorEq, not_false_eq_true, Nat.reduceAdd, *]; done) | (refine id ?_; simp only [gxD]; omega)) only [↓gxPre, gxPost, ↓reduceIte, Nat.reduceEqDiff, reduceCtorEq, Nat.reduceAdd]
  refine callR_of (i_split_f_ok (A1.rd.ext e2) A1.le) ?_
  rintro _ K ⟨e3, n3, rfl, hc, hd⟩
  have eK := e2.trans e3
  have hsK : K.blk H.n = some ⟨true, t_Scheme, [v0, .float .f32 a0]⟩ := (e3.blk _ (by omega)).trans hs2
  have l1 := evL_length (d := 0) (xs := xs1) xs1.length
  have l2 := odL_length (d := 0) (xs := xs1) xs1.length
  simp (disch := first | assumption | omega | rfl | (refine id ?_; simp only [gxD, ne_eq, reduceCtorEq, not_false_eq_true, Nat.reduceAdd, *]; done) | (refine id ?_; simp only [gxD]; omega)) only [↓gxPre, gxPost, ↓reduceIte, Nat.reduceEqDiff, reduceCtorEq, Nat.reduceAdd]
  by_cases hz : xs1.length / 2 = 0
  · have hz' : ((xs1.length / 2 : Nat) : Int) = 0 := by omega
    have hL : liftF xs0 a0 xs1 = (evL 0 xs1 xs1.length, odL 0 xs1 xs1.length) := by unfold liftF; rw [if_pos hz]
    have hO : liftOkF xs0 a0 xs1 = true := by unfold liftOkF; simp [hz]
    rw [hL, hO]
    simp (disch := first | assumption | omega | rfl | (refine id ?_; simp only [gxD, ne_eq, reduceCtorEq, not_false_eq_true, Nat.reduceAdd, *]; done) | (refine id ?_; simp only [gxD]; omega)) only [↓gxPre, gxPost, ↓reduceIte, Nat.reduceEqDiff, reduceCtorEq, Nat.reduceAdd, hz']
    exact .yes rfl eK (OwN.two (.mk hc (by simpa using l1) (by omega) (by omega) (by omega)) (.mk hd (by simpa using l2) (by omega) (by omega) (by omega)) fun h h1 h2 => by simp only [hdl, Option.some.injEq] at h1 h2; omega) (by omega) (by omega)
  have hz' : ¬ ((xs1.length / 2 : Nat) : Int) = 0 := by omega
  have hv0K := A0.rd.ext eK
  obtain ⟨p, hp⟩ : ∃ p, p = (evL 0 xs1 xs1.length, odL 0 xs1 xs1.length) := ⟨_, rfl⟩
  have lp1 : p.1.length = (xs1.length + 1) / 2 := by rw [hp]; exact l1
  have lp2 : p.2.length = xs1.length / 2 := by rw [hp]; exact l2
  have lw1 : ∀ i, (weighUp xs0 p i).1.length = (xs1.length + 1) / 2 := fun i => (weighUp_len xs0 p i).1.trans lp1
  have lw2 : ∀ i, (weighUp xs0 p i).2.length = xs1.length / 2 := fun i => (weighUp_len xs0 p i).2.trans lp2
  simp (disch := first | assumption | omega | rfl | (refine id ?_; simp only [gxD, ne_eq, reduceCtorEq, not_false_eq_true, Nat.reduceAdd, *]; done) | (refine id ?_; simp only [gxD]; omega)) only [↓gxPre, gxPost, ↓reduceIte, Nat.reduceEqDiff, reduceCtorEq, Nat.reduceAdd, hz', hsK, hv0K.len]
  refine loop_forH xs0.length (fun i => [.pointer (some ⟨H.n, 0, some 2⟩), .slice (some ⟨H2.n, 0, none⟩) ((xs1.length + 1) / 2) ((xs1.length + 1) / 2), .slice (some ⟨H2.n + 1, 0, none⟩) (xs1.length / 2) (xs1.length / 2), v0, .int .i64 xs0.length, .int .i64 i])
    (fun i G => K.n ≤ G.n ∧ G.blk H2.n = some ⟨true, t_float32, (weighUp xs0 p i).1.map fv⟩ ∧ G.blk (H2.n + 1) = some ⟨true, t_float32, (weighUp xs0 p i).2.map fv⟩ ∧ ∀ j, j < K.n → j ≠ H2.n → j ≠ H2.n + 1 → G.blk j = K.blk j) rfl
    ⟨Nat.le_refl _, by rw [weighUp_zero, hp]; exact hc, by rw [weighUp_zero, hp]; exact hd, fun _ _ _ _ => rfl⟩ ?_ ?_
  rotate_left
  · rintro i G hi ⟨hG, hga, hgb, hF⟩
    have eG : Ext H G := ⟨by have := eK.n; omega, fun j hj => (hF j (by omega) (by omega) (by omega)).trans (eK.blk j hj)⟩
    have hv := A0.rd.ext eG
    have hi8 : xs0.length ≤ 2 ^ 30 := by
      unfold schemeF at h0
      simp only [Bool.and_eq_true] at h0
      have := within_true.1 h0.1.1
      omega
    have hnan : nanB .f32 (xs0.getD i 0) = false := fin_nan (all_getD.1 hf0 i hi)
    simp (disch := first | assumption | omega | rfl | (refine id ?_; simp only [gxD, ne_eq, reduceCtorEq, not_false_eq_true, Nat.reduceAdd, *]; done) | (refine id ?_; simp only [gxD]; omega)) only [↓gxPre, gxPost, ↓reduceIte, Nat.reduceEqDiff, reduceCtorEq, Nat.reduceAdd, hv.ia, hv.ld]
    refine callR_of (i_weigh_at hga hgb (lw1 i) (lw2 i) (by omega) (by omega) (by omega) (by omega) (by omega) (by omega) (by omega) hnan (by omega)) ?_
    rintro _ G' ⟨rfl, hn', ha', hb', hF'⟩
    simp (disch := first | assumption | omega | rfl | (refine id ?_; simp only [gxD, ne_eq, reduceCtorEq, not_false_eq_true, Nat.reduceAdd, *]; done) | (refine id ?_; simp only [gxD]; omega)) only [↓gxPre, gxPost, ↓reduceIte, Nat.reduceEqDiff, reduceCtorEq, Nat.reduceAdd]
    refine ⟨by simp, by omega, ?_, ?_, fun j h1 h2 h3 => (hF' j (by omega) h2 h3).trans (hF j h1 h2 h3)⟩
    · rw [weighUp_succ]; simpa using ha'
    · rw [weighUp_succ]; simpa using hb'
  rintro G ⟨hG, hga, hgb, hF⟩
  obtain ⟨q, hq⟩ : ∃ q, q = weighUp xs0 p xs0.length := ⟨_, rfl⟩
  have lq1 : q.1.length = (xs1.length + 1) / 2 := by rw [hq]; exact lw1 _
  have lq2 : q.2.length = xs1.length / 2 := by rw [hq]; exact lw2 _
  rw [← hq] at hga hgb
  have hL : liftF xs0 a0 xs1 = (q.1.map fun x => fbin .mul .f32 x a0, q.2.map fun x => fbin .quo .f32 x a0) := by unfold liftF; rw [if_neg hz, ← hp, ← hq]
  have hsG : G.blk H.n = some ⟨true, t_Scheme, [v0, .float .f32 a0]⟩ := (hF _ (by omega) (by omega) (by omega)).trans hsK
  simp (disch := first | assumption | omega | rfl | (refine id ?_; simp only [gxD, ne_eq, reduceCtorEq, not_false_eq_true, Nat.reduceAdd, *]; done) | (refine id ?_; simp only [gxD]; omega)) only [↓gxPre, gxPost, ↓reduceIte, Nat.reduceEqDiff, reduceCtorEq, Nat.reduceAdd, Int.lt_irrefl]
  refine loop_forH ((xs1.length + 1) / 2) (fun i => [.pointer (some ⟨H.n, 0, some 2⟩), .slice (some ⟨H2.n, 0, none⟩) ((xs1.length + 1) / 2) ((xs1.length + 1) / 2), .slice (some ⟨H2.n + 1, 0, none⟩) (xs1.length / 2) (xs1.length / 2), .int .i64 ((xs1.length + 1) / 2 : Nat), .int .i64 i])
    (fun i F => G.n ≤ F.n ∧ F.blk H2.n = some ⟨true, t_float32, (mulL a0 q.1 i).map fv⟩ ∧ F.blk (H2.n + 1) = some ⟨true, t_float32, q.2.map fv⟩ ∧ F.blk H.n = some ⟨true, t_Scheme, [v0, .float .f32 a0]⟩ ∧ ∀ j, j < K.n → j ≠ H2.n → j ≠ H2.n + 1 → F.blk j = K.blk j) rfl
    ⟨Nat.le_refl _, by rw [mulL_zero]; exact hga, hgb, hsG, hF⟩ ?_ ?_
  rotate_left
  · rintro i F hi ⟨hFn, hfa, hfb, hfs, hFF⟩
    have ht := mulL_at (sc := a0) (xs := q.1) (i := i) (by omega)
    have lm : ((mulL a0 q.1 i).map fv).length = (xs1.length + 1) / 2 := by rw [lMapN, mulL_length, lq1]
    simp (disch := first | assumption | omega | rfl | (refine id ?_; simp only [gxD, ne_eq, reduceCtorEq, not_false_eq_true, Nat.reduceAdd, *]; done) | (refine id ?_; simp only [gxD]; omega)) only [↓gxPre, gxPost, ↓reduceIte, Nat.reduceEqDiff, reduceCtorEq, Nat.reduceAdd, hfa, ht, hfs]
    refine ⟨by simp, by simpa using hFn, ?_, hfb, fun j h1 h2 h3 => ?_⟩
    · first | (rw [mulL_set]; done) | (rw [hput_self, mulL_set])
    · first | exact hFF j h1 h2 h3 | rw [hput_other _ _ _ _ h2, hFF j h1 h2 h3]
  rintro F ⟨hFn, hfa, hfb, hfs, hFF⟩
  rw [← lq1, mulL_all] at hfa
  simp (disch := first | assumption | omega | rfl | (refine id ?_; simp only [gxD, ne_eq, reduceCtorEq, not_false_eq_true, Nat.reduceAdd, *]; done) | (refine id ?_; simp only [gxD]; omega)) only [↓gxPre, gxPost, ↓reduceIte, Nat.reduceEqDiff, reduceCtorEq, Nat.reduceAdd, Int.lt_irrefl]
  refine loop_forH (xs1.length / 2) (fun i => [.pointer (some ⟨H.n, 0, some 2⟩), .slice (some ⟨H2.n, 0, none⟩) ((xs1.length + 1) / 2) ((xs1.length + 1) / 2), .slice (some ⟨H2.n + 1, 0, none⟩) (xs1.length / 2) (xs1.length / 2), .int .i64 (xs1.length / 2 : Nat), .int .i64 i])
    (fun i F => G.n ≤ F.n ∧ F.blk H2.n = some ⟨true, t_float32, (q.1.map fun x => fbin .mul .f32 x a0).map fv⟩ ∧ F.blk (H2.n + 1) = some ⟨true, t_float32, (quoL a0 q.2 i).map fv⟩ ∧ F.blk H.n = some ⟨true, t_Scheme, [v0, .float .f32 a0]⟩ ∧ ∀ j, j < K.n → j ≠ H2.n → j ≠ H2.n + 1 → F.blk j = K.blk j) rfl
    ⟨hFn, hfa, by rw [quoL_zero]; exact hfb, hfs, hFF⟩ ?_ ?_
  rotate_left
  · rintro i F hi ⟨hFn, hfa, hfb, hfs, hFF⟩
    have ht := quoL_at (sc := a0) (xs := q.2) (i := i) (by omega)
    have lm : ((quoL a0 q.2 i).map fv).length = xs1.length / 2 := by rw [lMapN, quoL_length, lq2]
    simp (disch := first | assumption | omega | rfl | (refine id ?_; simp only [gxD, ne_eq, reduceCtorEq, not_false_eq_true, Nat.reduceAdd, *]; done) | (refine id ?_; simp only [gxD]; omega)) only [↓gxPre, gxPost, ↓reduceIte, Nat.reduceEqDiff, reduceCtorEq, Nat.reduceAdd, hfb, ht, hfs]
    refine ⟨by simp, by simpa using hFn, hfa, ?_, fun j h1 h2 h3 => ?_⟩
    · first | (rw [quoL_set]; done) | (rw [hput_self, quoL_set])
    · first | exact hFF j h1 h2 h3 | rw [hput_other _ _ _ _ h3, hFF j h1 h2 h3]
  rintro M ⟨hMn, hma, hmb, _, hMF⟩
  rw [← lq2, quoL_all] at hmb
  have eM : Ext H M := ⟨by have := eK.n; omega, fun j hj => (hMF j (by omega) (by omega) (by omega)).trans (eK.blk j hj)⟩
  have lA : (q.1.map fun x => fbin .mul .f32 x a0).length = (xs1.length + 1) / 2 := by rw [List.length_map, lq1]
  have lB : (q.2.map fun x => fbin .quo .f32 x a0).length = xs1.length / 2 := by rw [List.length_map, lq2]
  have hO : liftOkF xs0 a0 xs1 = ((q.1.map fun x => fbin .mul .f32 x a0).all finF && (q.2.map fun x => fbin .quo .f32 x a0).all finF) := by
    unfold liftOkF
    rw [hL, decide_eq_false hz, Bool.false_or]
  obtain ⟨xA, hxA⟩ : ∃ xA, xA = q.1.map fun x => fbin .mul .f32 x a0 := ⟨_, rfl⟩
  obtain ⟨xB, hxB⟩ : ∃ xB, xB = q.2.map fun x => fbin .quo .f32 x a0 := ⟨_, rfl⟩
  rw [← hxA, ← hxB] at hL hO
  rw [← hxA] at hma lA
  rw [← hxB] at hmb lB
  rw [hL, hO]
  simp (disch := first | assumption | omega | rfl | (refine id ?_; simp only [gxD, ne_eq, reduceCtorEq, not_false_eq_true, Nat.reduceAdd, *]; done) | (refine id ?_; simp only [gxD]; omega)) only [↓gxPre, gxPost, ↓reduceIte, Nat.reduceEqDiff, reduceCtorEq, Nat.reduceAdd, Int.lt_irrefl]
  have eN : Ext M (M.new ⟨true, t_sfloat32, [.slice (some ⟨H2.n, 0, none⟩) ((xs1.length + 1) / 2) ((xs1.length + 1) / 2), .slice (some ⟨H2.n + 1, 0, none⟩) (xs1.length / 2) (xs1.length / 2)]⟩) := .new _ _
  refine callR_pure (i_areFinite2_ok (by simp (disch := first | assumption | omega | rfl | (refine id ?_; simp only [gxD, ne_eq, reduceCtorEq, not_false_eq_true, Nat.reduceAdd, *]; done) | (refine id ?_; simp only [gxD]; omega)) only [↓gxPre, gxPost, ↓reduceIte, Nat.reduceEqDiff, reduceCtorEq, Nat.reduceAdd, *]; rfl) (by first | omega | (simp only [new_n, put_n]; omega)) ((FS.own hma (by omega) lA).ext eN) ((FS.own hmb (by omega) lB).ext eN) (by omega) (by omega)) (.inl rfl) ?_
  cases h5 : (xA.all finF && xB.all finF)
  · simp (disch := first | assumption | omega | rfl | (refine id ?_; simp only [gxD, ne_eq, reduceCtorEq, not_false_eq_true, Nat.reduceAdd, *]; done) | (refine id ?_; simp only [gxD]; omega)) only [↓gxPre, gxPost, ↓reduceIte, Nat.reduceEqDiff, reduceCtorEq, Nat.reduceAdd]
    exact .no (by simp only [Bool.false_and, Bool.true_and, Bool.and_true, Bool.and_false, Bool.or_true, Bool.true_or, Bool.false_or, Bool.or_false, Bool.and_self, Bool.or_self]) (eM.trans eN)
  simp (disch := first | assumption | omega | rfl | (refine id ?_; simp only [gxD, ne_eq, reduceCtorEq, not_false_eq_true, Nat.reduceAdd, *]; done) | (refine id ?_; simp only [gxD]; omega)) only [↓gxPre, gxPost, ↓reduceIte, Nat.reduceEqDiff, reduceCtorEq, Nat.reduceAdd]
  exact .yes (by simp only [Bool.false_and, Bool.true_and, Bool.and_true, Bool.and_false, Bool.or_true, Bool.true_or, Bool.false_or, Bool.or_false, Bool.and_self, Bool.or_self]) (eM.trans eN) (OwN.two (.mk (by rw [eN.blk _ (by omega)]; exact hma) (by simpa using lA) (by first | omega | (simp only [new_n, put_n]; omega)) (by first | omega | (simp only [new_n, put_n]; omega)) (by first | omega | (simp only [new_n, put_n]; omega))) (.mk (by rw [eN.blk _ (by omega)]; exact hmb) (by simpa using lB) (by first | omega | (simp only [new_n, put_n]; omega)) (by first | omega | (simp only [new_n, put_n]; omega)) (by first | omega | (simp only [new_n, put_n]; omega))) fun h h1 h2 => by simp only [hdl, Option.some.injEq] at h1 h2; omega) (by omega) (by omega)
theorem i_LiftOnce_law {H : Heap} {v0 v1 : Value} {xs0 xs1 : List Nat} {a0 : Nat} (A0 : AF H v0 xs0) (b0 : a0 < 2 ^ 32) (A1 : AF H v1 xs1) :
    ACalls Try.prog n_i_LiftOnce [.agg #[v0, .float .f32 a0], v1] H fun r H' => TwoR fv t_float32 H (schemeF xs0 a0 && isLongF xs1 && liftOkF xs0 a0 xs1) (liftF xs0 a0 xs1).1 (liftF xs0 a0 xs1).2 r H' :=
  i_LiftOnce_core ⟨A0.rd, A0.le⟩ b0 ⟨A1.rd, A1.le⟩
end Go.Proofs.Ytddekdgggpifmaa
