/- Bands, pairs and rows of filters. -/
import Derived.Test.YtkojmlpaamdhoaeJoinLevelsL
namespace Go.Proofs.Ytkojmlpaamdhoae
open Go.Gx
set_option maxRecDepth 100000
set_option linter.unusedSimpArgs false
set_option linter.unusedVariables false

theorem i_highOf_ok {H : Heap} {v : Value} {xs : List Nat} (hv : FS H v xs) (hn : xs.length ≤ 2 ^ 40) :
    ACalls Try.prog n_i_highOf [.agg #[v]] H fun r H' => Ext H H' ∧ r = .slice (some ⟨H.n + 1, 0, none⟩) xs.length xs.length ∧ H.n + 2 ≤ H'.n ∧ H'.blk (H.n + 1) = some ⟨true, t_float32, (highL xs).map fv⟩ := by
  refine k_i_highOf.run rfl ?_
  unfold c_i_highOf
  have o1 := hv.one
  have e : Ext H (H.new ⟨true, t_Pair, [v]⟩) := .new _ _
  simp (disch := first | assumption | omega | rfl | (refine id ?_; simp only [gxD, ne_eq, reduceCtorEq, not_false_eq_true, Nat.reduceAdd, *]; done) | (refine id ?_; simp only [gxD]; omega)) only [↓gxPre, gxPost, ↓reduceIte, Nat.reduceEqDiff, reduceCtorEq, Nat.reduceAdd, (hv.ext (e.news ⟨true, t_float32, []⟩)).len]
  refine loop_forH xs.length (fun i => [.pointer (some ⟨H.n, 0, some 1⟩), .slice (some ⟨H.n + 1, 0, none⟩) i i, .int .i64 xs.length, .int .i64 i])
    (fun i G => H.n + 2 ≤ G.n ∧ Ext H G ∧ G.blk H.n = some ⟨true, t_Pair, [v]⟩ ∧ G.blk (H.n + 1) = some ⟨true, t_float32, (tabL i (highF xs)).map fv⟩) rfl ⟨by simp only [new_n]; omega, ⟨by first | omega | (simp only [new_n, put_n]; omega) | (simp only [new_n, put_n] at *; omega), fun i hi => by simp (disch := first | assumption | omega | rfl | (refine id ?_; simp only [gxD, ne_eq, reduceCtorEq, not_false_eq_true, Nat.reduceAdd, *]; done) | (refine id ?_; simp only [gxD]; omega)) only [↓gxPre, gxPost, ↓reduceIte, Nat.reduceEqDiff, reduceCtorEq, Nat.reduceAdd, *]⟩, by simp (disch := first | assumption | omega | rfl | (refine id ?_; simp only [gxD, ne_eq, reduceCtorEq, not_false_eq_true, Nat.reduceAdd, *]; done) | (refine id ?_; simp only [gxD]; omega)) only [↓gxPre, gxPost, ↓reduceIte, Nat.reduceEqDiff, reduceCtorEq, Nat.reduceAdd], by simp (disch := first | assumption | omega | rfl | (refine id ?_; simp only [gxD, ne_eq, reduceCtorEq, not_false_eq_true, Nat.reduceAdd, *]; done) | (refine id ?_; simp only [gxD]; omega)) only [↓gxPre, gxPost, ↓reduceIte, Nat.reduceEqDiff, reduceCtorEq, Nat.reduceAdd]; rfl⟩ ?_ ?_
  · rintro G ⟨hG, hE, hb, hc⟩
    simp (disch := first | assumption | omega | rfl | (refine id ?_; simp only [gxD, ne_eq, reduceCtorEq, not_false_eq_true, Nat.reduceAdd, *]; done) | (refine id ?_; simp only [gxD]; omega)) only [↓gxPre, gxPost, ↓reduceIte, Nat.reduceEqDiff, reduceCtorEq, Nat.reduceAdd, Int.lt_irrefl]
    exact ⟨hE, hG, hc⟩
  · rintro i G hi ⟨hG, hE, hb, hc⟩
    have hv' := hv.ext hE
    have e1 : ((xs.length : Int) - 1 - i).toNat = xs.length - 1 - i := by omega
    have ht := tabL_length i (highF xs)
    have hs := tabL_succ i (highF xs)
    have f := (hE.news ⟨true, t_float32, [.float .f32 (highF xs i)]⟩).put (i := H.n + 1) (by omega) ⟨true, t_float32, (tabL (i + 1) (highF xs)).map fv⟩
    rw [hs, ← fv_snoc'] at f
    by_cases h2 : i % 2 = 1
    · have hc2 : ((i % 2 : Nat) : Int) = 1 := by omega
      have hf : highF xs i = fneg .f32 (xs.getD (xs.length - 1 - i) 0) := if_pos h2
      rw [hf] at f
      simp (disch := first | assumption | omega | rfl | (refine id ?_; simp only [gxD, ne_eq, reduceCtorEq, not_false_eq_true, Nat.reduceAdd, *]; done) | (refine id ?_; simp only [gxD]; omega)) only [↓gxPre, gxPost, ↓reduceIte, Nat.reduceEqDiff, reduceCtorEq, Nat.reduceAdd, hb, hc, hv'.len, hv'.ia, hv'.ld, e1, tmod2, hc2, lMapN, ht]
      exact ⟨by simp, by omega, f, by rw [hs, ← fv_snoc', hf]⟩
    · have hc2 : ¬ ((i % 2 : Nat) : Int) = 1 := by omega
      have hf : highF xs i = xs.getD (xs.length - 1 - i) 0 := if_neg h2
      rw [hf] at f
      simp (disch := first | assumption | omega | rfl | (refine id ?_; simp only [gxD, ne_eq, reduceCtorEq, not_false_eq_true, Nat.reduceAdd, *]; done) | (refine id ?_; simp only [gxD]; omega)) only [↓gxPre, gxPost, ↓reduceIte, Nat.reduceEqDiff, reduceCtorEq, Nat.reduceAdd, hb, hc, hv'.len, hv'.ia, hv'.ld, e1, tmod2, hc2, lMapN, ht]
      exact ⟨by simp, by omega, f, by rw [hs, ← fv_snoc', hf]⟩
theorem s_l03High_ok {H : Heap} {h : Nat} {own : Bool} {ty : TypeId} {v : Value} {xs : List Nat} (hp : H.blk h = some ⟨own, ty, [v]⟩) (hh : h < H.n) (hv : FS H v xs) (hn : xs.length ≤ 2 ^ 40) :
    ACalls Try.prog n_s_l03High [.pointer (some ⟨h, 0, some 1⟩)] H fun r H' => Ext H H' ∧ r = .slice (some ⟨H.n, 0, none⟩) xs.length xs.length ∧ H.n + 1 ≤ H'.n ∧ H'.blk H.n = some ⟨true, t_float32, (highL xs).map fv⟩ := by
  refine k_s_l03High.run rfl ?_
  unfold c_s_l03High
  simp (disch := first | assumption | omega | rfl | (refine id ?_; simp only [gxD, ne_eq, reduceCtorEq, not_false_eq_true, Nat.reduceAdd, *]; done) | (refine id ?_; simp only [gxD]; omega)) only [↓gxPre, gxPost, ↓reduceIte, Nat.reduceEqDiff, reduceCtorEq, Nat.reduceAdd, hp, (hv.ext (.new H ⟨true, t_float32, []⟩)).len]
  refine loop_forH xs.length (fun i => [.pointer (some ⟨h, 0, some 1⟩), .slice (some ⟨H.n, 0, none⟩) i i, .int .i64 xs.length, .int .i64 i])
    (fun i G => H.n + 1 ≤ G.n ∧ Ext H G ∧ G.blk H.n = some ⟨true, t_float32, (tabL i (highF xs)).map fv⟩) rfl ⟨by simp only [new_n]; omega, ⟨by first | omega | (simp only [new_n, put_n]; omega) | (simp only [new_n, put_n] at *; omega), fun i hi => by simp (disch := first | assumption | omega | rfl | (refine id ?_; simp only [gxD, ne_eq, reduceCtorEq, not_false_eq_true, Nat.reduceAdd, *]; done) | (refine id ?_; simp only [gxD]; omega)) only [↓gxPre, gxPost, ↓reduceIte, Nat.reduceEqDiff, reduceCtorEq, Nat.reduceAdd, *]⟩, by simp (disch := first | assumption | omega | rfl | (refine id ?_; simp only [gxD, ne_eq, reduceCtorEq, not_false_eq_true, Nat.reduceAdd, *]; done) | (refine id ?_; simp only [gxD]; omega)) only [↓gxPre, gxPost, ↓reduceIte, Nat.reduceEqDiff, reduceCtorEq, Nat.reduceAdd]; rfl⟩ ?_ ?_
  · rintro G ⟨hG, hE, hc⟩
    simp (disch := first | assumption | omega | rfl | (refine id ?_; simp only [gxD, ne_eq, reduceCtorEq, not_false_eq_true, Nat.reduceAdd, *]; done) | (refine id ?_; simp only [gxD]; omega)) only [↓gxPre, gxPost, ↓reduceIte, Nat.reduceEqDiff, reduceCtorEq, Nat.reduceAdd, Int.lt_irrefl]
    exact ⟨hE, hG, hc⟩
  · rintro i G hi ⟨hG, hE, hc⟩
    have hv' := hv.ext hE
    have hb := (hE.blk h hh).trans hp
    have e1 : ((xs.length : Int) - 1 - i).toNat = xs.length - 1 - i := by omega
    have ht := tabL_length i (highF xs)
    have hs := tabL_succ i (highF xs)
    have f := (hE.news ⟨true, t_float32, [.float .f32 (highF xs i)]⟩).put (i := H.n) (by omega) ⟨true, t_float32, (tabL (i + 1) (highF xs)).map fv⟩
    rw [hs, ← fv_snoc'] at f
    by_cases h2 : i % 2 = 1
    · have hc2 : ((i % 2 : Nat) : Int) = 1 := by omega
      have hf : highF xs i = fneg .f32 (xs.getD (xs.length - 1 - i) 0) := if_pos h2
      rw [hf] at f
      simp (disch := first | assumption | omega | rfl | (refine id ?_; simp only [gxD, ne_eq, reduceCtorEq, not_false_eq_true, Nat.reduceAdd, *]; done) | (refine id ?_; simp only [gxD]; omega)) only [↓gxPre, gxPost, ↓reduceIte, Nat.reduceEqDiff, reduceCtorEq, Nat.reduceAdd, hb, hc, hv'.len, hv'.ia, hv'.ld, e1, tmod2, hc2, lMapN, ht]
      exact ⟨by simp, by omega, f, by rw [hs, ← fv_snoc', hf]⟩
    · have hc2 : ¬ ((i % 2 : Nat) : Int) = 1 := by omega
      have hf : highF xs i = xs.getD (xs.length - 1 - i) 0 := if_neg h2
      rw [hf] at f
      simp (disch := first | assumption | omega | rfl | (refine id ?_; simp only [gxD, ne_eq, reduceCtorEq, not_false_eq_true, Nat.reduceAdd, *]; done) | (refine id ?_; simp only [gxD]; omega)) only [↓gxPre, gxPost, ↓reduceIte, Nat.reduceEqDiff, reduceCtorEq, Nat.reduceAdd, hb, hc, hv'.len, hv'.ia, hv'.ld, e1, tmod2, hc2, lMapN, ht]
      exact ⟨by simp, by omega, f, by rw [hs, ← fv_snoc', hf]⟩
end Go.Proofs.Ytkojmlpaamdhoae
