/- Pictures that are made. -/
import Derived.Test.YtkojmlpaamdhoadBandOfK
namespace Go.Proofs.Ytkojmlpaamdhoad
open Go.Gx
set_option maxRecDepth 100000
set_option linter.unusedSimpArgs false
set_option linter.unusedVariables false

theorem i_pictureBy_ok {H : Heap} {w h : Int} {f : FuncId} {cap : Array Value} {L : Nat → Nat → Nat}
    (hL : ∀ (x y : Nat) (G : Heap), (x : Int) < w → (y : Int) < h → Ext H G → ACalls Try.prog f ([.int .i64 x, .int .i64 y] ++ cap.toList) G fun r G' => r = .float .f32 (L x y) ∧ Ext G G') :
    ACalls Try.prog n_i_pictureBy [.int .i64 w, .int .i64 h, .func (.func f) #[] cap] H fun r H' => PicR t_float32 H (within w 1 16 && within h 1 16 && (tabL (w.toNat * h.toNat) fun i => L (i % w.toNat) (i / w.toNat)).all finF) w h (tabL (w.toNat * h.toNat) fun i => L (i % w.toNat) (i / w.toNat)) r H' := by
  refine k_i_pictureBy.run rfl ?_
  unfold c_i_pictureBy
  simp (disch := first | assumption | omega | rfl | (refine id ?_; simp only [gxD, ne_eq, reduceCtorEq, not_false_eq_true, Nat.reduceAdd, *]; done) | (refine id ?_; simp only [gxD]; omega)) only [↓gxPre, gxPost, ↓reduceIte, Nat.reduceEqDiff, reduceCtorEq, Nat.reduceAdd]
  refine callR_pure (i_within_ok) (by first | exact Or.inl rfl | (simp (disch := first | assumption | omega | rfl | (refine id ?_; simp only [gxD, ne_eq, reduceCtorEq, not_false_eq_true, Nat.reduceAdd, *]; done) | (refine id ?_; simp only [gxD]; omega)) only [↓gxPre, gxPost, ↓reduceIte, Nat.reduceEqDiff, reduceCtorEq, Nat.reduceAdd, *]; done)) ?_
  simp (disch := first | assumption | omega | rfl | (refine id ?_; simp only [gxD, ne_eq, reduceCtorEq, not_false_eq_true, Nat.reduceAdd, *]; done) | (refine id ?_; simp only [gxD]; omega)) only [↓gxPre, gxPost, ↓reduceIte, Nat.reduceEqDiff, reduceCtorEq, Nat.reduceAdd, *]
  cases hw : within w 1 16
  · simp (disch := first | assumption | omega | rfl | (refine id ?_; simp only [gxD, ne_eq, reduceCtorEq, not_false_eq_true, Nat.reduceAdd, *]; done) | (refine id ?_; simp only [gxD]; omega)) only [↓gxPre, gxPost, ↓reduceIte, Nat.reduceEqDiff, reduceCtorEq, Nat.reduceAdd]
    exact .no rfl ⟨by first | omega | (simp only [new_n, put_n]; omega) | (simp only [new_n, put_n] at *; omega), fun i hi => by simp (disch := first | assumption | omega | rfl | (refine id ?_; simp only [gxD, ne_eq, reduceCtorEq, not_false_eq_true, Nat.reduceAdd, *]; done) | (refine id ?_; simp only [gxD]; omega)) only [↓gxPre, gxPost, ↓reduceIte, Nat.reduceEqDiff, reduceCtorEq, Nat.reduceAdd, *]⟩
  simp (disch := first | assumption | omega | rfl | (refine id ?_; simp only [gxD, ne_eq, reduceCtorEq, not_false_eq_true, Nat.reduceAdd, *]; done) | (refine id ?_; simp only [gxD]; omega)) only [↓gxPre, gxPost, ↓reduceIte, Nat.reduceEqDiff, reduceCtorEq, Nat.reduceAdd]
  refine callR_pure (i_within_ok) (by first | exact Or.inl rfl | (simp (disch := first | assumption | omega | rfl | (refine id ?_; simp only [gxD, ne_eq, reduceCtorEq, not_false_eq_true, Nat.reduceAdd, *]; done) | (refine id ?_; simp only [gxD]; omega)) only [↓gxPre, gxPost, ↓reduceIte, Nat.reduceEqDiff, reduceCtorEq, Nat.reduceAdd, *]; done)) ?_
  simp (disch := first | assumption | omega | rfl | (refine id ?_; simp only [gxD, ne_eq, reduceCtorEq, not_false_eq_true, Nat.reduceAdd, *]; done) | (refine id ?_; simp only [gxD]; omega)) only [↓gxPre, gxPost, ↓reduceIte, Nat.reduceEqDiff, reduceCtorEq, Nat.reduceAdd, *]
  cases hh : within h 1 16
  · simp (disch := first | assumption | omega | rfl | (refine id ?_; simp only [gxD, ne_eq, reduceCtorEq, not_false_eq_true, Nat.reduceAdd, *]; done) | (refine id ?_; simp only [gxD]; omega)) only [↓gxPre, gxPost, ↓reduceIte, Nat.reduceEqDiff, reduceCtorEq, Nat.reduceAdd]
    exact .no rfl ⟨by first | omega | (simp only [new_n, put_n]; omega) | (simp only [new_n, put_n] at *; omega), fun i hi => by simp (disch := first | assumption | omega | rfl | (refine id ?_; simp only [gxD, ne_eq, reduceCtorEq, not_false_eq_true, Nat.reduceAdd, *]; done) | (refine id ?_; simp only [gxD]; omega)) only [↓gxPre, gxPost, ↓reduceIte, Nat.reduceEqDiff, reduceCtorEq, Nat.reduceAdd, *]⟩
  obtain ⟨w, rfl, w1, w2⟩ := side_nat hw
  obtain ⟨h, rfl, h1, h2⟩ := side_nat hh
  simp only [Int.toNat_natCast, Bool.true_and]
  obtain ⟨n, hn⟩ : ∃ n, n = w * h := ⟨_, rfl⟩
  obtain ⟨F, hF⟩ : ∃ F : Nat → Nat, F = fun i => L (i % w) (i / w) := ⟨_, rfl⟩
  have hFx : ∀ x y, x < w → F (y * w + x) = L x y := fun x y hx => by rw [hF]; simp only [row_mod hx, row_div hx]
  rw [← hn, ← hF]
  have hle := mul_le_256 w2 h2
  rw [← hn] at hle
  have hrow : ∀ y, y ≤ h → y * w ≤ n := fun y hy => by rw [hn, Nat.mul_comm w h]; exact Nat.mul_le_mul_right _ hy
  simp (disch := first | assumption | omega | rfl | (refine id ?_; simp only [gxD, ne_eq, reduceCtorEq, not_false_eq_true, Nat.reduceAdd, *]; done) | (refine id ?_; simp only [gxD]; omega)) only [↓gxPre, gxPost, ↓reduceIte, Nat.reduceEqDiff, reduceCtorEq, Nat.reduceAdd]
  refine loop_forH h (fun y => [.int .i64 w, .func (.func f) #[] cap, .pointer (some ⟨H.n, 0, some 3⟩), .pointer (some ⟨H.n + 1, 0, some 3⟩), .int .i64 h, .int .i64 y])
    (fun y G => H.n + 2 ≤ G.n ∧ Ext H G ∧ G.blk H.n = some ⟨true, t_Picture, [.int .i64 0, .int .i64 0, .slice none 0 0]⟩ ∧ ∃ v, G.blk (H.n + 1) = some ⟨true, t_Picture, [.int .i64 w, .int .i64 h, v]⟩ ∧ OwL H.n G.n G t_float32 v ((tabL (y * w) F).map fv)) rfl
    ⟨by simp only [new_n, put_n]; omega, ⟨by first | omega | (simp only [new_n, put_n]; omega) | (simp only [new_n, put_n] at *; omega), fun i hi => by simp (disch := first | assumption | omega | rfl | (refine id ?_; simp only [gxD, ne_eq, reduceCtorEq, not_false_eq_true, Nat.reduceAdd, *]; done) | (refine id ?_; simp only [gxD]; omega)) only [↓gxPre, gxPost, ↓reduceIte, Nat.reduceEqDiff, reduceCtorEq, Nat.reduceAdd, *]⟩, by simp (disch := first | assumption | omega | rfl | (refine id ?_; simp only [gxD, ne_eq, reduceCtorEq, not_false_eq_true, Nat.reduceAdd, *]; done) | (refine id ?_; simp only [gxD]; omega)) only [↓gxPre, gxPost, ↓reduceIte, Nat.reduceEqDiff, reduceCtorEq, Nat.reduceAdd], .slice none 0 0, by simp (disch := first | assumption | omega | rfl | (refine id ?_; simp only [gxD, ne_eq, reduceCtorEq, not_false_eq_true, Nat.reduceAdd, *]; done) | (refine id ?_; simp only [gxD]; omega)) only [↓gxPre, gxPost, ↓reduceIte, Nat.reduceEqDiff, reduceCtorEq, Nat.reduceAdd], by rw [Nat.zero_mul]; exact .nil⟩ ?_ ?_
  · rintro G ⟨hG, hE, hb0, v, hb, o⟩
    have hv1 := o.one
    have hnh : h * w = n := by rw [hn, Nat.mul_comm]
    rw [hnh] at o
    simp (disch := first | assumption | omega | rfl | (refine id ?_; simp only [gxD, ne_eq, reduceCtorEq, not_false_eq_true, Nat.reduceAdd, *]; done) | (refine id ?_; simp only [gxD]; omega)) only [↓gxPre, gxPost, ↓reduceIte, Nat.reduceEqDiff, reduceCtorEq, Nat.reduceAdd, hb, hb0, Int.lt_irrefl]
    refine callR_ext (i_validPicture_ok o.fs (by rw [tabL_length]; omega)) ?_
    intro G' n' b'
    have hval : validPicF w h (tabL n F) = (tabL n F).all finF := by
      cases hf : (tabL n F).all finF
      · simp [validPicF, hf]
      · exact valid_mk w1 w2 h1 h2 (by rw [tabL_length, hn]) hf
    have e' : Ext G G' := ⟨n', b'⟩
    have hb0' := (e'.blk H.n (by omega)).trans hb0
    rw [hval]
    cases hf : (tabL n F).all finF
    · simp (disch := first | assumption | omega | rfl | (refine id ?_; simp only [gxD, ne_eq, reduceCtorEq, not_false_eq_true, Nat.reduceAdd, *]; done) | (refine id ?_; simp only [gxD]; omega)) only [↓gxPre, gxPost, ↓reduceIte, Nat.reduceEqDiff, reduceCtorEq, Nat.reduceAdd, picV, hb0']
      exact .no rfl ((hE.trans e').put (Nat.le_refl _) _)
    · simp (disch := first | assumption | omega | rfl | (refine id ?_; simp only [gxD, ne_eq, reduceCtorEq, not_false_eq_true, Nat.reduceAdd, *]; done) | (refine id ?_; simp only [gxD]; omega)) only [↓gxPre, gxPost, ↓reduceIte, Nat.reduceEqDiff, reduceCtorEq, Nat.reduceAdd, picV, hb0']
      refine .yes rfl ((hE.trans e').put (Nat.le_refl _) _) ?_ (by rw [tabL_length]; omega)
      refine (o.ext e').wide (Nat.le_refl _) n' |>.keep (Nat.le_refl _) fun k hk => hput_other _ _ _ _ fun e => ?_
      exact o.ne hb0 (by decide) (by rw [hk, e])
  · rintro y G hy ⟨hG, hE, hb0, v, hb, o⟩
    simp (disch := first | assumption | omega | rfl | (refine id ?_; simp only [gxD, ne_eq, reduceCtorEq, not_false_eq_true, Nat.reduceAdd, *]; done) | (refine id ?_; simp only [gxD]; omega)) only [↓gxPre, gxPost, ↓reduceIte, Nat.reduceEqDiff, reduceCtorEq, Nat.reduceAdd, hb, hb0]
    refine loop_forH w (fun x => [.int .i64 w, .func (.func f) #[] cap, .pointer (some ⟨H.n, 0, some 3⟩), .pointer (some ⟨H.n + 1, 0, some 3⟩), .int .i64 y, .int .i64 h, .int .i64 y, .int .i64 w, .int .i64 x])
      (fun x G => H.n + 2 ≤ G.n ∧ Ext H G ∧ G.blk H.n = some ⟨true, t_Picture, [.int .i64 0, .int .i64 0, .slice none 0 0]⟩ ∧ ∃ v, G.blk (H.n + 1) = some ⟨true, t_Picture, [.int .i64 w, .int .i64 h, v]⟩ ∧ OwL H.n G.n G t_float32 v ((tabL (y * w + x) F).map fv)) rfl
      ⟨hG, hE, hb0, v, hb, o⟩ ?_ ?_
    · rintro G ⟨hG, hE, hb0, v, hb, o⟩
      simp (disch := first | assumption | omega | rfl | (refine id ?_; simp only [gxD, ne_eq, reduceCtorEq, not_false_eq_true, Nat.reduceAdd, *]; done) | (refine id ?_; simp only [gxD]; omega)) only [↓gxPre, gxPost, ↓reduceIte, Nat.reduceEqDiff, reduceCtorEq, Nat.reduceAdd, Int.lt_irrefl]
      refine ⟨by simp, hG, hE, hb0, v, hb, ?_⟩
      rw [Nat.add_mul, Nat.one_mul]
      exact o
    · rintro x G hx ⟨hG, hE, hb0, v, hb, o⟩
      have hrl := row_lt hx hy
      rw [← hn] at hrl
      simp (disch := first | assumption | omega | rfl | (refine id ?_; simp only [gxD, ne_eq, reduceCtorEq, not_false_eq_true, Nat.reduceAdd, *]; done) | (refine id ?_; simp only [gxD]; omega)) only [↓gxPre, gxPost, ↓reduceIte, Nat.reduceEqDiff, reduceCtorEq, Nat.reduceAdd, hb, hb0]
      refine callR_of (hL x y G (by omega) (by omega) hE) ?_
      rintro _ G1 ⟨rfl, e1⟩
      have n1 := e1.n
      have hb1 := (e1.blk (H.n + 1) (by omega)).trans hb
      have hb10 := (e1.blk H.n (by omega)).trans hb0
      obtain ⟨v', G', e, n', hb', o1, hk, hfin⟩ := push_ow (bytes := 4) (x := .float .f32 (L x y)) (hE.trans e1) ((o.ext e1).wide (Nat.le_refl _) n1) (Nat.le_refl _) (by omega) hb1 (by omega) (by omega) (by decide) (by simp [tabL_length]; omega)
      have hb0' : G'.blk H.n = some ⟨true, t_Picture, [.int .i64 0, .int .i64 0, .slice none 0 0]⟩ := by rw [hk _ (by omega) ((o.ext e1).ne hb10 (by decide)), hb10]
      obtain ⟨f1, f2⟩ := hfin [.int .i64 w, .int .i64 h, v']
      rw [← hFx x y hx, fv_snoc', ← tabL_succ] at f2
      simp (disch := first | assumption | omega | rfl | (refine id ?_; simp only [gxD, ne_eq, reduceCtorEq, not_false_eq_true, Nat.reduceAdd, *]; done) | (refine id ?_; simp only [gxD]; omega)) only [↓gxPre, gxPost, ↓reduceIte, Nat.reduceEqDiff, reduceCtorEq, Nat.reduceAdd, hb1, hb10]
      rw [e]
      simp (disch := first | assumption | omega | rfl | (refine id ?_; simp only [gxD, ne_eq, reduceCtorEq, not_false_eq_true, Nat.reduceAdd, *]; done) | (refine id ?_; simp only [gxD]; omega)) only [↓gxPre, gxPost, ↓reduceIte, Nat.reduceEqDiff, reduceCtorEq, Nat.reduceAdd, hb']
      refine ⟨by simp, by omega, f1, ?_, v', rfl, f2⟩
      simp (disch := first | assumption | omega | rfl | (refine id ?_; simp only [gxD, ne_eq, reduceCtorEq, not_false_eq_true, Nat.reduceAdd, *]; done) | (refine id ?_; simp only [gxD]; omega)) only [↓gxPre, gxPost, ↓reduceIte, Nat.reduceEqDiff, reduceCtorEq, Nat.reduceAdd, hb0']
end Go.Proofs.Ytkojmlpaamdhoad
