/- Bands of pictures. -/
import Derived.Test.YtkojmlpaamdhoadBandOfXH
namespace Go.Proofs.Ytkojmlpaamdhoad
open Go.Gx
set_option maxRecDepth 100000
set_option linter.unusedSimpArgs false
set_option linter.unusedVariables false

theorem region_facts {a c l b : Int} (hk : regionOk a c l b = true) : 0 ≤ (regionF a c l b).1 ∧ 0 ≤ (regionF a c l b).2.1 ∧ 0 ≤ (regionF a c l b).2.2.1 ∧ 0 ≤ (regionF a c l b).2.2.2 ∧ (regionF a c l b).1 + (regionF a c l b).2.2.1 ≤ a ∧ (regionF a c l b).2.1 + (regionF a c l b).2.2.2 ≤ c ∧ a ≤ 16 ∧ c ≤ 16 := by
  unfold regionOk at hk
  simp only [Bool.and_eq_true] at hk
  have h1 := within_true.1 hk.1.1.1
  have h2 := within_true.1 hk.1.1.2
  have g1 := halfN_le' h1.1 (l - 1).toNat
  have g2 := halfN_le' h2.1 (l - 1).toNat
  have g3 := halfN_le' g1.1 1
  have g4 := halfN_le' g2.1 1
  unfold regionF
  dsimp only
  generalize halfN (halfN a (l - 1).toNat) 1 = U at *
  generalize halfN (halfN c (l - 1).toNat) 1 = V at *
  repeat' split
  all_goals (dsimp only; omega)
def bandOk (a c : Int) (xs : List Nat) (l b : Int) : Bool := regionOk a c l b && partOk a c xs (regionF a c l b).1 (regionF a c l b).2.1 (regionF a c l b).2.2.1 (regionF a c l b).2.2.2
def bandL (a c : Int) (xs : List Nat) (l b : Int) : List Nat := tabL ((regionF a c l b).2.2.1.toNat * (regionF a c l b).2.2.2.toNat) (cropF a.toNat xs (regionF a c l b).1.toNat (regionF a c l b).2.1.toNat (regionF a c l b).2.2.1.toNat)
theorem band_part {a c : Int} {xs : List Nat} {l b : Int} (hv : validPicF a c xs = true) (hk : regionOk a c l b = true) (h1 : ¬ (regionF a c l b).2.2.1 = 0) (h2 : ¬ (regionF a c l b).2.2.2 = 0) : partOk a c xs (regionF a c l b).1 (regionF a c l b).2.1 (regionF a c l b).2.2.1 (regionF a c l b).2.2.2 = true := by
  have h := region_facts hk
  unfold partOk
  rw [hv, within_true.2 (by omega), within_true.2 (by omega), within_true.2 (by omega), within_true.2 (by omega)]
  rfl
theorem band_none {a c : Int} {xs : List Nat} {l b : Int} (h1 : (regionF a c l b).2.2.1 = 0 ∨ (regionF a c l b).2.2.2 = 0) : bandOk a c xs l b = false := by
  unfold bandOk partOk
  rcases h1 with h | h
  · rw [h]
    simp [within]
  · rw [h]
    simp [within]
theorem i_BandOf_law {H : Heap} {a0 c0 a1 a2 : Int} {v0 : Value} {xs0 : List Nat} (A0 : AF H v0 xs0) (b0 : -9223372036854775808 ≤ a0 ∧ a0 ≤ 9223372036854775807) (d0 : -9223372036854775808 ≤ c0 ∧ c0 ≤ 9223372036854775807) (b1 : -9223372036854775808 ≤ a1 ∧ a1 ≤ 9223372036854775807) (b2 : -9223372036854775808 ≤ a2 ∧ a2 ≤ 9223372036854775807) :
    ACalls Try.prog n_i_BandOf [.agg #[.int .i64 a0, .int .i64 c0, v0], .int .i64 a1, .int .i64 a2] H fun r H' => PicR t_float32 H (bandOk a0 c0 xs0 a1 a2) (regionF a0 c0 a1 a2).2.2.1 (regionF a0 c0 a1 a2).2.2.2 (bandL a0 c0 xs0 a1 a2) r H' := by
  refine k_i_BandOf.run rfl ?_
  unfold c_i_BandOf
  have o0 := A0.rd.one
  simp (disch := first | assumption | omega | rfl | (refine id ?_; simp only [gxD, ne_eq, reduceCtorEq, not_false_eq_true, Nat.reduceAdd, *]; done) | (refine id ?_; simp only [gxD]; omega)) only [↓gxPre, gxPost, ↓reduceIte, Nat.reduceEqDiff, reduceCtorEq, Nat.reduceAdd]
  have e0 : Ext H ((H.new ⟨true, t_Picture, [.int .i64 a0, .int .i64 c0, v0]⟩).new ⟨true, t_Picture, [.int .i64 0, .int .i64 0, .slice none 0 0]⟩) := ⟨by first | omega | (simp only [new_n, put_n]; omega) | (simp only [new_n, put_n] at *; omega), fun i hi => by simp (disch := first | assumption | omega | rfl | (refine id ?_; simp only [gxD, ne_eq, reduceCtorEq, not_false_eq_true, Nat.reduceAdd, *]; done) | (refine id ?_; simp only [gxD]; omega)) only [↓gxPre, gxPost, ↓reduceIte, Nat.reduceEqDiff, reduceCtorEq, Nat.reduceAdd, *]⟩
  have g1 : ((H.new ⟨true, t_Picture, [.int .i64 a0, .int .i64 c0, v0]⟩).new ⟨true, t_Picture, [.int .i64 0, .int .i64 0, .slice none 0 0]⟩).blk H.n = some ⟨true, t_Picture, [.int .i64 a0, .int .i64 c0, v0]⟩ := by simp (disch := first | assumption | omega | rfl | (refine id ?_; simp only [gxD, ne_eq, reduceCtorEq, not_false_eq_true, Nat.reduceAdd, *]; done) | (refine id ?_; simp only [gxD]; omega)) only [↓gxPre, gxPost, ↓reduceIte, Nat.reduceEqDiff, reduceCtorEq, Nat.reduceAdd]
  have g4 : ((H.new ⟨true, t_Picture, [.int .i64 a0, .int .i64 c0, v0]⟩).new ⟨true, t_Picture, [.int .i64 0, .int .i64 0, .slice none 0 0]⟩).blk (H.n + 1) = some ⟨true, t_Picture, [.int .i64 0, .int .i64 0, .slice none 0 0]⟩ := by simp (disch := first | assumption | omega | rfl | (refine id ?_; simp only [gxD, ne_eq, reduceCtorEq, not_false_eq_true, Nat.reduceAdd, *]; done) | (refine id ?_; simp only [gxD]; omega)) only [↓gxPre, gxPost, ↓reduceIte, Nat.reduceEqDiff, reduceCtorEq, Nat.reduceAdd]
  have g5 : ((H.new ⟨true, t_Picture, [.int .i64 a0, .int .i64 c0, v0]⟩).new ⟨true, t_Picture, [.int .i64 0, .int .i64 0, .slice none 0 0]⟩).n = H.n + 2 := by simp only [new_n]
  generalize ((H.new ⟨true, t_Picture, [.int .i64 a0, .int .i64 c0, v0]⟩).new ⟨true, t_Picture, [.int .i64 0, .int .i64 0, .slice none 0 0]⟩) = K at e0 g1 g4 g5 ⊢
  refine callR_pure i_RegionOf_ok (.inl rfl) ?_
  cases hk : regionOk a0 c0 a1 a2
  · simp only [regionV, hk, tup5, if_false, Bool.false_eq_true]
    simp (disch := first | assumption | omega | rfl | (refine id ?_; simp only [gxD, ne_eq, reduceCtorEq, not_false_eq_true, Nat.reduceAdd, *]; done) | (refine id ?_; simp only [gxD]; omega)) only [↓gxPre, gxPost, ↓reduceIte, Nat.reduceEqDiff, reduceCtorEq, Nat.reduceAdd, g4]
    exact .no (by simp only [bandOk, hk, Bool.false_and, Bool.true_and, Bool.and_true, Bool.and_false, Bool.or_true, Bool.true_or, Bool.false_or, Bool.or_false, Bool.and_self, Bool.or_self]) (e0.put (by omega) _)
  simp only [regionV, hk, tup5, if_true]
  have hr := region_facts hk
  simp (disch := first | assumption | omega | rfl | (refine id ?_; simp only [gxD, ne_eq, reduceCtorEq, not_false_eq_true, Nat.reduceAdd, *]; done) | (refine id ?_; simp only [gxD]; omega)) only [↓gxPre, gxPost, ↓reduceIte, Nat.reduceEqDiff, reduceCtorEq, Nat.reduceAdd, g1]
  refine callR_of (i_CropPicture_law ⟨A0.rd.ext e0, A0.le, A0.w⟩ b0 d0 (by omega) (by omega) (by omega) (by omega)) ?_
  rintro _ M ⟨eM, v, rfl, o, q⟩
  have nM := eM.n
  have g4M := (eM.blk _ (by omega)).trans g4
  have ov := o.one
  simp (disch := first | assumption | omega | rfl | (refine id ?_; simp only [gxD, ne_eq, reduceCtorEq, not_false_eq_true, Nat.reduceAdd, *]; done) | (refine id ?_; simp only [gxD]; omega)) only [↓gxPre, gxPost, ↓reduceIte, Nat.reduceEqDiff, reduceCtorEq, Nat.reduceAdd, g4M]
  exact PicR.fin e0 eM o q (by omega) (by omega) (by simp only [bandOk, hk, Bool.false_and, Bool.true_and, Bool.and_true, Bool.and_false, Bool.or_true, Bool.true_or, Bool.false_or, Bool.or_false, Bool.and_self, Bool.or_self]) rfl
theorem s_l04Band_no {H : Heap} {p : Nat} {own : Bool} {ty : TypeId} {v0 : Value} {a c l b : Int} (hb : H.blk p = some ⟨own, ty, [.int .i64 a, .int .i64 c, v0]⟩) (hp : p < H.n) (hk : regionOk a c l b = true) (hz : (regionF a c l b).2.2.1 = 0 ∨ (regionF a c l b).2.2.2 = 0) :
    ACalls Try.prog n_s_l04Band [.pointer (some ⟨p, 0, some 3⟩), .int .i64 l, .int .i64 b] H fun r H' => r = .agg #[.int .i64 0, .int .i64 0, .slice none 0 0] ∧ Ext H H' := by
  refine k_s_l04Band.run rfl ?_
  unfold c_s_l04Band
  have hk' := hk
  unfold regionOk at hk'
  simp only [Bool.and_eq_true] at hk'
  simp (disch := first | assumption | omega | rfl | (refine id ?_; simp only [gxD, ne_eq, reduceCtorEq, not_false_eq_true, Nat.reduceAdd, *]; done) | (refine id ?_; simp only [gxD]; omega)) only [↓gxPre, gxPost, ↓reduceIte, Nat.reduceEqDiff, reduceCtorEq, Nat.reduceAdd, hb]
  refine callR_pure (s_l04Region_ok hk'.1.1.1 hk'.1.1.2 hk'.1.2) (.inl rfl) ?_
  simp only [tup4]
  by_cases h1 : (regionF a c l b).2.2.1 = 0
  · simp (disch := first | assumption | omega | rfl | (refine id ?_; simp only [gxD, ne_eq, reduceCtorEq, not_false_eq_true, Nat.reduceAdd, *]; done) | (refine id ?_; simp only [gxD]; omega)) only [↓gxPre, gxPost, ↓reduceIte, Nat.reduceEqDiff, reduceCtorEq, Nat.reduceAdd, h1]
    exact ⟨by first | omega | (simp only [new_n, put_n]; omega) | (simp only [new_n, put_n] at *; omega), fun i hi => by simp (disch := first | assumption | omega | rfl | (refine id ?_; simp only [gxD, ne_eq, reduceCtorEq, not_false_eq_true, Nat.reduceAdd, *]; done) | (refine id ?_; simp only [gxD]; omega)) only [↓gxPre, gxPost, ↓reduceIte, Nat.reduceEqDiff, reduceCtorEq, Nat.reduceAdd, *]⟩
  · have h2 := hz.resolve_left h1
    simp (disch := first | assumption | omega | rfl | (refine id ?_; simp only [gxD, ne_eq, reduceCtorEq, not_false_eq_true, Nat.reduceAdd, *]; done) | (refine id ?_; simp only [gxD]; omega)) only [↓gxPre, gxPost, ↓reduceIte, Nat.reduceEqDiff, reduceCtorEq, Nat.reduceAdd, h1, h2]
    exact ⟨by first | omega | (simp only [new_n, put_n]; omega) | (simp only [new_n, put_n] at *; omega), fun i hi => by simp (disch := first | assumption | omega | rfl | (refine id ?_; simp only [gxD, ne_eq, reduceCtorEq, not_false_eq_true, Nat.reduceAdd, *]; done) | (refine id ?_; simp only [gxD]; omega)) only [↓gxPre, gxPost, ↓reduceIte, Nat.reduceEqDiff, reduceCtorEq, Nat.reduceAdd, *]⟩
theorem s_l04Band_yes {H : Heap} {p m n : Nat} {own : Bool} {ty : TypeId} {v0 : Value} {xs : List Nat} {l b : Int} (hb : H.blk p = some ⟨own, ty, [.int .i64 m, .int .i64 n, v0]⟩) (hp : p < H.n) (hv : FS H v0 xs) (hk : regionOk m n l b = true) (hl : xs.length = m * n) (h1 : ¬ (regionF m n l b).2.2.1 = 0) (h2 : ¬ (regionF m n l b).2.2.2 = 0) :
    ACalls Try.prog n_s_l04Band [.pointer (some ⟨p, 0, some 3⟩), .int .i64 l, .int .i64 b] H fun r H' => Ext H H' ∧ ∃ v, r = .agg #[.int .i64 (regionF m n l b).2.2.1, .int .i64 (regionF m n l b).2.2.2, v] ∧ OwL H.n H'.n H' t_float32 v ((bandL m n xs l b).map fv) := by
  refine k_s_l04Band.run rfl ?_
  unfold c_s_l04Band
  have hk' := hk
  unfold regionOk at hk'
  simp only [Bool.and_eq_true] at hk'
  have hr := region_facts hk
  simp (disch := first | assumption | omega | rfl | (refine id ?_; simp only [gxD, ne_eq, reduceCtorEq, not_false_eq_true, Nat.reduceAdd, *]; done) | (refine id ?_; simp only [gxD]; omega)) only [↓gxPre, gxPost, ↓reduceIte, Nat.reduceEqDiff, reduceCtorEq, Nat.reduceAdd, hb]
  refine callR_pure (s_l04Region_ok hk'.1.1.1 hk'.1.1.2 hk'.1.2) (.inl rfl) ?_
  simp only [tup4]
  simp (disch := first | assumption | omega | rfl | (refine id ?_; simp only [gxD, ne_eq, reduceCtorEq, not_false_eq_true, Nat.reduceAdd, *]; done) | (refine id ?_; simp only [gxD]; omega)) only [↓gxPre, gxPost, ↓reduceIte, Nat.reduceEqDiff, reduceCtorEq, Nat.reduceAdd, h1, h2]
  unfold bandL
  generalize regionF m n l b = R at hr h1 h2 ⊢
  obtain ⟨x, y, w, h⟩ := R
  simp only at hr h1 h2 ⊢
  obtain ⟨x', rfl⟩ : ∃ x' : Nat, x = x' := ⟨x.toNat, by omega⟩
  obtain ⟨y', rfl⟩ : ∃ y' : Nat, y = y' := ⟨y.toNat, by omega⟩
  obtain ⟨w', rfl⟩ : ∃ w' : Nat, w = w' := ⟨w.toNat, by omega⟩
  obtain ⟨h', rfl⟩ : ∃ h' : Nat, h = h' := ⟨h.toNat, by omega⟩
  simp only [Int.toNat_natCast]
  have eN : Ext H (H.new ⟨true, t_Picture, [.int .i64 0, .int .i64 0, .slice none 0 0]⟩) := .new _ _
  refine callR_of (s_l04Crop_ok ((eN.blk _ hp).trans hb) (by first | omega | (simp only [new_n, put_n]; omega)) (hv.ext eN) (by omega) (by omega) (by omega) (by omega) (by omega) (by omega) hl) ?_
  rintro _ M ⟨eM, v, rfl, o⟩
  have nM := eM.n
  have bb := eM.blk
  simp only [new_n] at nM bb
  have ov := o.one
  simp (disch := first | assumption | omega | rfl | (refine id ?_; simp only [gxD, ne_eq, reduceCtorEq, not_false_eq_true, Nat.reduceAdd, *]; done) | (refine id ?_; simp only [gxD]; omega)) only [↓gxPre, gxPost, ↓reduceIte, Nat.reduceEqDiff, reduceCtorEq, Nat.reduceAdd, bb]
  obtain ⟨x1, y1⟩ := fin_put (p := H.n) (b := ⟨true, t_Picture, [.int .i64 w', .int .i64 h', v]⟩) eN eM o (Nat.le_refl _) (by first | omega | (simp only [new_n, put_n]; omega))
  exact ⟨x1, v, rfl, y1⟩
theorem s_BandOf_law {H : Heap} {a0 c0 a1 a2 : Int} {v0 : Value} {xs0 : List Nat} (A0 : AF H v0 xs0) (b0 : -9223372036854775808 ≤ a0 ∧ a0 ≤ 9223372036854775807) (d0 : -9223372036854775808 ≤ c0 ∧ c0 ≤ 9223372036854775807) (b1 : -9223372036854775808 ≤ a1 ∧ a1 ≤ 9223372036854775807) (b2 : -9223372036854775808 ≤ a2 ∧ a2 ≤ 9223372036854775807) :
    ACalls Try.prog n_s_BandOf [.agg #[.int .i64 a0, .int .i64 c0, v0], .int .i64 a1, .int .i64 a2] H fun r H' => PicR t_float32 H (bandOk a0 c0 xs0 a1 a2) (regionF a0 c0 a1 a2).2.2.1 (regionF a0 c0 a1 a2).2.2.2 (bandL a0 c0 xs0 a1 a2) r H' := by
  refine k_s_BandOf.run rfl ?_
  unfold c_s_BandOf
  have o0 := A0.rd.one
  simp (disch := first | assumption | omega | rfl | (refine id ?_; simp only [gxD, ne_eq, reduceCtorEq, not_false_eq_true, Nat.reduceAdd, *]; done) | (refine id ?_; simp only [gxD]; omega)) only [↓gxPre, gxPost, ↓reduceIte, Nat.reduceEqDiff, reduceCtorEq, Nat.reduceAdd]
  have e0 : Ext H ((H.new ⟨true, t_Picture, [.int .i64 a0, .int .i64 c0, v0]⟩).new ⟨true, t_Picture, [.int .i64 0, .int .i64 0, .slice none 0 0]⟩) := ⟨by first | omega | (simp only [new_n, put_n]; omega) | (simp only [new_n, put_n] at *; omega), fun i hi => by simp (disch := first | assumption | omega | rfl | (refine id ?_; simp only [gxD, ne_eq, reduceCtorEq, not_false_eq_true, Nat.reduceAdd, *]; done) | (refine id ?_; simp only [gxD]; omega)) only [↓gxPre, gxPost, ↓reduceIte, Nat.reduceEqDiff, reduceCtorEq, Nat.reduceAdd, *]⟩
  have g1 : ((H.new ⟨true, t_Picture, [.int .i64 a0, .int .i64 c0, v0]⟩).new ⟨true, t_Picture, [.int .i64 0, .int .i64 0, .slice none 0 0]⟩).blk H.n = some ⟨true, t_Picture, [.int .i64 a0, .int .i64 c0, v0]⟩ := by simp (disch := first | assumption | omega | rfl | (refine id ?_; simp only [gxD, ne_eq, reduceCtorEq, not_false_eq_true, Nat.reduceAdd, *]; done) | (refine id ?_; simp only [gxD]; omega)) only [↓gxPre, gxPost, ↓reduceIte, Nat.reduceEqDiff, reduceCtorEq, Nat.reduceAdd]
  have g4 : ((H.new ⟨true, t_Picture, [.int .i64 a0, .int .i64 c0, v0]⟩).new ⟨true, t_Picture, [.int .i64 0, .int .i64 0, .slice none 0 0]⟩).blk (H.n + 1) = some ⟨true, t_Picture, [.int .i64 0, .int .i64 0, .slice none 0 0]⟩ := by simp (disch := first | assumption | omega | rfl | (refine id ?_; simp only [gxD, ne_eq, reduceCtorEq, not_false_eq_true, Nat.reduceAdd, *]; done) | (refine id ?_; simp only [gxD]; omega)) only [↓gxPre, gxPost, ↓reduceIte, Nat.reduceEqDiff, reduceCtorEq, Nat.reduceAdd]
  have g5 : ((H.new ⟨true, t_Picture, [.int .i64 a0, .int .i64 c0, v0]⟩).new ⟨true, t_Picture, [.int .i64 0, .int .i64 0, .slice none 0 0]⟩).n = H.n + 2 := by simp only [new_n]
  generalize ((H.new ⟨true, t_Picture, [.int .i64 a0, .int .i64 c0, v0]⟩).new ⟨true, t_Picture, [.int .i64 0, .int .i64 0, .slice none 0 0]⟩) = K at e0 g1 g4 g5 ⊢
  refine callR_pure (s_l04Is_ok g1 (A0.rd.ext e0) A0.le) (.inl rfl) ?_
  cases h1 : validPicF a0 c0 xs0
  · simp (disch := first | assumption | omega | rfl | (refine id ?_; simp only [gxD, ne_eq, reduceCtorEq, not_false_eq_true, Nat.reduceAdd, *]; done) | (refine id ?_; simp only [gxD]; omega)) only [↓gxPre, gxPost, ↓reduceIte, Nat.reduceEqDiff, reduceCtorEq, Nat.reduceAdd, g4]
    exact .no (by simp only [bandOk, partOk, h1, Bool.false_and, Bool.true_and, Bool.and_true, Bool.and_false, Bool.or_true, Bool.true_or, Bool.false_or, Bool.or_false, Bool.and_self, Bool.or_self]) (e0.put (by omega) _)
  simp (disch := first | assumption | omega | rfl | (refine id ?_; simp only [gxD, ne_eq, reduceCtorEq, not_false_eq_true, Nat.reduceAdd, *]; done) | (refine id ?_; simp only [gxD]; omega)) only [↓gxPre, gxPost, ↓reduceIte, Nat.reduceEqDiff, reduceCtorEq, Nat.reduceAdd]
  refine callR_pure s_l04Levels_ok (.inl rfl) ?_
  cases h2 : within a1 1 4
  · simp (disch := first | assumption | omega | rfl | (refine id ?_; simp only [gxD, ne_eq, reduceCtorEq, not_false_eq_true, Nat.reduceAdd, *]; done) | (refine id ?_; simp only [gxD]; omega)) only [↓gxPre, gxPost, ↓reduceIte, Nat.reduceEqDiff, reduceCtorEq, Nat.reduceAdd, g4]
    exact .no (by simp only [bandOk, regionOk, h2, Bool.false_and, Bool.true_and, Bool.and_true, Bool.and_false, Bool.or_true, Bool.true_or, Bool.false_or, Bool.or_false, Bool.and_self, Bool.or_self]) (e0.put (by omega) _)
  simp (disch := first | assumption | omega | rfl | (refine id ?_; simp only [gxD, ne_eq, reduceCtorEq, not_false_eq_true, Nat.reduceAdd, *]; done) | (refine id ?_; simp only [gxD]; omega)) only [↓gxPre, gxPost, ↓reduceIte, Nat.reduceEqDiff, reduceCtorEq, Nat.reduceAdd]
  refine callR_pure s_l00In_ok (.inl rfl) ?_
  cases h3 : within a2 0 3
  · simp (disch := first | assumption | omega | rfl | (refine id ?_; simp only [gxD, ne_eq, reduceCtorEq, not_false_eq_true, Nat.reduceAdd, *]; done) | (refine id ?_; simp only [gxD]; omega)) only [↓gxPre, gxPost, ↓reduceIte, Nat.reduceEqDiff, reduceCtorEq, Nat.reduceAdd, g4]
    exact .no (by simp only [bandOk, regionOk, h3, Bool.false_and, Bool.true_and, Bool.and_true, Bool.and_false, Bool.or_true, Bool.true_or, Bool.false_or, Bool.or_false, Bool.and_self, Bool.or_self]) (e0.put (by omega) _)
  obtain ⟨m, n, rfl, rfl, q1, q2, q3, q4, q5, q6⟩ := valid_sides h1
  have hk : regionOk m n a1 a2 = true := by simp only [regionOk, h2, h3, within_true.2 (show (1 : Int) ≤ (m : Int) ∧ (m : Int) ≤ 16 by omega), within_true.2 (show (1 : Int) ≤ (n : Int) ∧ (n : Int) ≤ 16 by omega), Bool.false_and, Bool.true_and, Bool.and_true, Bool.and_false, Bool.or_true, Bool.true_or, Bool.false_or, Bool.or_false, Bool.and_self, Bool.or_self]
  simp (disch := first | assumption | omega | rfl | (refine id ?_; simp only [gxD, ne_eq, reduceCtorEq, not_false_eq_true, Nat.reduceAdd, *]; done) | (refine id ?_; simp only [gxD]; omega)) only [↓gxPre, gxPost, ↓reduceIte, Nat.reduceEqDiff, reduceCtorEq, Nat.reduceAdd]
  by_cases hz : (regionF m n a1 a2).2.2.1 = 0 ∨ (regionF m n a1 a2).2.2.2 = 0
  · refine callR_ext (s_l04Band_no g1 (by omega) hk hz) ?_
    intro M nM bM
    have eM : Ext K M := ⟨nM, bM⟩
    have g4M := (bM _ (by omega)).trans g4
    simp (disch := first | assumption | omega | rfl | (refine id ?_; simp only [gxD, ne_eq, reduceCtorEq, not_false_eq_true, Nat.reduceAdd, *]; done) | (refine id ?_; simp only [gxD]; omega)) only [↓gxPre, gxPost, ↓reduceIte, Nat.reduceEqDiff, reduceCtorEq, Nat.reduceAdd]
    refine callR_ext (s_l04Give_ok (xs := []) FS.nil (by simp)) ?_
    intro N nN bN
    have eN : Ext M N := ⟨nN, bN⟩
    have g4N := (bN _ (by omega)).trans g4M
    have hno : validPicF 0 0 [] = false := by decide
    rw [hno]
    simp (disch := first | assumption | omega | rfl | (refine id ?_; simp only [gxD, ne_eq, reduceCtorEq, not_false_eq_true, Nat.reduceAdd, *]; done) | (refine id ?_; simp only [gxD]; omega)) only [↓gxPre, gxPost, ↓reduceIte, Nat.reduceEqDiff, reduceCtorEq, Nat.reduceAdd, picV, g4N]
    exact .no (band_none hz) (((e0.trans eM).trans eN).put (by omega) _)
  have hz1 : ¬ (regionF m n a1 a2).2.2.1 = 0 := fun h => hz (.inl h)
  have hz2 : ¬ (regionF m n a1 a2).2.2.2 = 0 := fun h => hz (.inr h)
  have hpt := band_part h1 hk hz1 hz2
  obtain ⟨m', n', i, j, k, l, em, en, ei, ej, ek, el, r1, r2, r3, r4, r5, r6, r7, r8⟩ := part_nat hpt
  have em' : m' = m := by omega
  have en' : n' = n := by omega
  subst em' en'
  have hle := mul_le_256 (w := k) (g := l) (by omega) (by omega)
  have hbl : bandL m' n' xs0 a1 a2 = tabL (k * l) (cropF m' xs0 i j k) := by unfold bandL; rw [ei, ej, ek, el]; rfl
  have hlen : (bandL m' n' xs0 a1 a2).length = k * l := by rw [hbl, tabL_length]
  have hval : validPicF (regionF m' n' a1 a2).2.2.1 (regionF m' n' a1 a2).2.2.2 (bandL m' n' xs0 a1 a2) = true := by
    rw [ek, el]
    exact valid_mk r1 (by omega) r2 (by omega) hlen (by rw [hbl]; exact crop_fin r1 r3 r4 r7 r8)
  refine callR_of (s_l04Band_yes g1 (by omega) (A0.rd.ext e0) hk r7 hz1 hz2) ?_
  rintro _ M ⟨eM, v, rfl, o⟩
  have nM := eM.n
  have ov := o.one
  have g4M := (eM.blk _ (by omega)).trans g4
  simp (disch := first | assumption | omega | rfl | (refine id ?_; simp only [gxD, ne_eq, reduceCtorEq, not_false_eq_true, Nat.reduceAdd, *]; done) | (refine id ?_; simp only [gxD]; omega)) only [↓gxPre, gxPost, ↓reduceIte, Nat.reduceEqDiff, reduceCtorEq, Nat.reduceAdd]
  refine callR_ext (s_l04Give_ok o.fs (by rw [hlen]; omega)) ?_
  intro N nN bN
  have eN : Ext M N := ⟨nN, bN⟩
  have g4N := (bN _ (by omega)).trans g4M
  rw [hval]
  simp (disch := first | assumption | omega | rfl | (refine id ?_; simp only [gxD, ne_eq, reduceCtorEq, not_false_eq_true, Nat.reduceAdd, *]; done) | (refine id ?_; simp only [gxD]; omega)) only [↓gxPre, gxPost, ↓reduceIte, Nat.reduceEqDiff, reduceCtorEq, Nat.reduceAdd, picV, g4N]
  obtain ⟨x, y⟩ := fin_put (p := H.n + 1) (b := ⟨true, t_Picture, [.int .i64 (regionF m' n' a1 a2).2.2.1, .int .i64 (regionF m' n' a1 a2).2.2.2, v]⟩) e0 (eM.trans eN) ((o.ext eN).wide (Nat.le_refl _) nN) (by omega) (by omega)
  exact .yes (by simp only [bandOk, hk, hpt, Bool.false_and, Bool.true_and, Bool.and_true, Bool.and_false, Bool.or_true, Bool.true_or, Bool.false_or, Bool.or_false, Bool.and_self, Bool.or_self]) x y (by rw [hlen]; omega)
end Go.Proofs.Ytkojmlpaamdhoad
