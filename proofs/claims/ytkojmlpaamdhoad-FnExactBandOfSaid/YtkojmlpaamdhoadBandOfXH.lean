/- Parts of pictures. -/
import Derived.Test.YtkojmlpaamdhoadBandOfXG
namespace Go.Proofs.Ytkojmlpaamdhoad
open Go.Gx
set_option maxRecDepth 100000
set_option linter.unusedSimpArgs false
set_option linter.unusedVariables false

theorem part_nat {a c x y w h : Int} {xs : List Nat} (p : partOk a c xs x y w h = true) : ∃ m n i j k l : Nat, a = m ∧ c = n ∧ x = i ∧ y = j ∧ w = k ∧ h = l ∧ 1 ≤ k ∧ 1 ≤ l ∧ i + k ≤ m ∧ j + l ≤ n ∧ m ≤ 16 ∧ n ≤ 16 ∧ xs.length = m * n ∧ xs.all finF = true := by
  unfold partOk at p
  simp only [Bool.and_eq_true] at p
  obtain ⟨⟨⟨⟨p0, p1⟩, p2⟩, p3⟩, p4⟩ := p
  obtain ⟨m, n, rfl, rfl, h1, h2, h3, h4, h5, h6⟩ := valid_sides p0
  have q1 := within_true.1 p1
  have q2 := within_true.1 p2
  have q3 := within_true.1 p3
  have q4 := within_true.1 p4
  exact ⟨m, n, x.toNat, y.toNat, w.toNat, h.toNat, rfl, rfl, by omega, by omega, by omega, by omega, by omega, by omega, by omega, by omega, h2, h4, h5, h6⟩
theorem crop_ix {m n x y a b : Nat} (hx : x + a < m) (hy : y + b < n) : (y + b) * m + x + a < m * n := by
  have h1 : (y + b + 1) * m ≤ n * m := Nat.mul_le_mul_right m hy
  rw [Nat.add_mul, Nat.one_mul, Nat.mul_comm n m] at h1
  omega
theorem crop_fin {m n i j k l : Nat} {xs : List Nat} (hk : 1 ≤ k) (h1 : i + k ≤ m) (h2 : j + l ≤ n) (hl : xs.length = m * n) (hf : xs.all finF = true) : (tabL (k * l) (cropF m xs i j k)).all finF = true := tabL_fin fun t ht => by
  have ha : t % k < k := Nat.mod_lt _ hk
  have hb : t / k < l := Nat.div_lt_of_lt_mul ht
  exact all_getD.1 hf _ (by rw [hl]; exact crop_ix (by omega) (by omega))
theorem i_CropPicture_1_ok {H : Heap} {p q r m n x0 y0 x y : Nat} {o1 o2 o3 : Bool} {s1 s2 s3 : TypeId} {v : Value} {xs : List Nat} (h1 : H.blk p = some ⟨o1, s1, [.int .i64 m, .int .i64 n, v]⟩) (h2 : H.blk q = some ⟨o2, s2, [.int .i64 y0]⟩) (h3 : H.blk r = some ⟨o3, s3, [.int .i64 x0]⟩)
    (hv : FS H v xs) (hl : xs.length = m * n) (hx : x0 + x < m) (hy : y0 + y < n) (hm : m ≤ 16) (hn : n ≤ 16) :
    ACalls Try.prog n_i_CropPicture_1 [.int .i64 x, .int .i64 y, .pointer (some ⟨p, 0, some 3⟩), .pointer (some ⟨q, 0, some 1⟩), .pointer (some ⟨r, 0, some 1⟩)] H fun g H' => g = .float .f32 (xs.getD ((y0 + y) * m + x0 + x) 0) ∧ Ext H H' := by
  refine k_i_CropPicture_1.run rfl ?_
  unfold c_i_CropPicture_1
  have hix := crop_ix hx hy
  have hle := mul_le_256 hm hn
  have hmm : IntKind.wrap .i64 (((y0 : Int) + (y : Int)) * (m : Int)) = (((y0 + y) * m : Nat) : Int) := by
    rw [show (y0 : Int) + (y : Int) = ((y0 + y : Nat) : Int) by omega, mulN, wrN _ (by omega)]
  have ht : ((((y0 + y) * m : Nat) : Int) + (x0 : Int) + (x : Int)).toNat = (y0 + y) * m + x0 + x := by omega
  simp (disch := first | assumption | omega | rfl | (refine id ?_; simp only [gxD, ne_eq, reduceCtorEq, not_false_eq_true, Nat.reduceAdd, *]; done) | (refine id ?_; simp only [gxD]; omega)) only [↓gxPre, gxPost, ↓reduceIte, Nat.reduceEqDiff, reduceCtorEq, Nat.reduceAdd, h1, h2, h3, hmm, hv.ia, hv.ld, ht]
  exact .refl _
theorem i_CropPicture_law {H : Heap} {a0 c0 a1 a2 a3 a4 : Int} {v0 : Value} {xs0 : List Nat} (A0 : AF H v0 xs0) (b0 : -9223372036854775808 ≤ a0 ∧ a0 ≤ 9223372036854775807) (d0 : -9223372036854775808 ≤ c0 ∧ c0 ≤ 9223372036854775807) (b1 : -9223372036854775808 ≤ a1 ∧ a1 ≤ 9223372036854775807) (b2 : -9223372036854775808 ≤ a2 ∧ a2 ≤ 9223372036854775807) (b3 : -9223372036854775808 ≤ a3 ∧ a3 ≤ 9223372036854775807) (b4 : -9223372036854775808 ≤ a4 ∧ a4 ≤ 9223372036854775807) :
    ACalls Try.prog n_i_CropPicture [.agg #[.int .i64 a0, .int .i64 c0, v0], .int .i64 a1, .int .i64 a2, .int .i64 a3, .int .i64 a4] H fun r H' => PicR t_float32 H (partOk a0 c0 xs0 a1 a2 a3 a4) a3 a4 (tabL (a3.toNat * a4.toNat) (cropF a0.toNat xs0 a1.toNat a2.toNat a3.toNat)) r H' := by
  refine k_i_CropPicture.run rfl ?_
  unfold c_i_CropPicture
  have o0 := A0.rd.one
  simp (disch := first | assumption | omega | rfl | (refine id ?_; simp only [gxD, ne_eq, reduceCtorEq, not_false_eq_true, Nat.reduceAdd, *]; done) | (refine id ?_; simp only [gxD]; omega)) only [↓gxPre, gxPost, ↓reduceIte, Nat.reduceEqDiff, reduceCtorEq, Nat.reduceAdd]
  have e0 : Ext H ((((H.new ⟨true, t_Picture, [.int .i64 a0, .int .i64 c0, v0]⟩).new ⟨true, t_int64, [.int .i64 a1]⟩).new ⟨true, t_int64, [.int .i64 a2]⟩).new ⟨true, t_Picture, [.int .i64 0, .int .i64 0, .slice none 0 0]⟩) := ⟨by first | omega | (simp only [new_n, put_n]; omega) | (simp only [new_n, put_n] at *; omega), fun i hi => by simp (disch := first | assumption | omega | rfl | (refine id ?_; simp only [gxD, ne_eq, reduceCtorEq, not_false_eq_true, Nat.reduceAdd, *]; done) | (refine id ?_; simp only [gxD]; omega)) only [↓gxPre, gxPost, ↓reduceIte, Nat.reduceEqDiff, reduceCtorEq, Nat.reduceAdd, *]⟩
  have g1 : ((((H.new ⟨true, t_Picture, [.int .i64 a0, .int .i64 c0, v0]⟩).new ⟨true, t_int64, [.int .i64 a1]⟩).new ⟨true, t_int64, [.int .i64 a2]⟩).new ⟨true, t_Picture, [.int .i64 0, .int .i64 0, .slice none 0 0]⟩).blk H.n = some ⟨true, t_Picture, [.int .i64 a0, .int .i64 c0, v0]⟩ := by simp (disch := first | assumption | omega | rfl | (refine id ?_; simp only [gxD, ne_eq, reduceCtorEq, not_false_eq_true, Nat.reduceAdd, *]; done) | (refine id ?_; simp only [gxD]; omega)) only [↓gxPre, gxPost, ↓reduceIte, Nat.reduceEqDiff, reduceCtorEq, Nat.reduceAdd]
  have g2 : ((((H.new ⟨true, t_Picture, [.int .i64 a0, .int .i64 c0, v0]⟩).new ⟨true, t_int64, [.int .i64 a1]⟩).new ⟨true, t_int64, [.int .i64 a2]⟩).new ⟨true, t_Picture, [.int .i64 0, .int .i64 0, .slice none 0 0]⟩).blk (H.n + 1) = some ⟨true, t_int64, [.int .i64 a1]⟩ := by simp (disch := first | assumption | omega | rfl | (refine id ?_; simp only [gxD, ne_eq, reduceCtorEq, not_false_eq_true, Nat.reduceAdd, *]; done) | (refine id ?_; simp only [gxD]; omega)) only [↓gxPre, gxPost, ↓reduceIte, Nat.reduceEqDiff, reduceCtorEq, Nat.reduceAdd]
  have g3 : ((((H.new ⟨true, t_Picture, [.int .i64 a0, .int .i64 c0, v0]⟩).new ⟨true, t_int64, [.int .i64 a1]⟩).new ⟨true, t_int64, [.int .i64 a2]⟩).new ⟨true, t_Picture, [.int .i64 0, .int .i64 0, .slice none 0 0]⟩).blk (H.n + 1 + 1) = some ⟨true, t_int64, [.int .i64 a2]⟩ := by simp (disch := first | assumption | omega | rfl | (refine id ?_; simp only [gxD, ne_eq, reduceCtorEq, not_false_eq_true, Nat.reduceAdd, *]; done) | (refine id ?_; simp only [gxD]; omega)) only [↓gxPre, gxPost, ↓reduceIte, Nat.reduceEqDiff, reduceCtorEq, Nat.reduceAdd]
  have g4 : ((((H.new ⟨true, t_Picture, [.int .i64 a0, .int .i64 c0, v0]⟩).new ⟨true, t_int64, [.int .i64 a1]⟩).new ⟨true, t_int64, [.int .i64 a2]⟩).new ⟨true, t_Picture, [.int .i64 0, .int .i64 0, .slice none 0 0]⟩).blk (H.n + 1 + 1 + 1) = some ⟨true, t_Picture, [.int .i64 0, .int .i64 0, .slice none 0 0]⟩ := by simp (disch := first | assumption | omega | rfl | (refine id ?_; simp only [gxD, ne_eq, reduceCtorEq, not_false_eq_true, Nat.reduceAdd, *]; done) | (refine id ?_; simp only [gxD]; omega)) only [↓gxPre, gxPost, ↓reduceIte, Nat.reduceEqDiff, reduceCtorEq, Nat.reduceAdd]
  have g5 : ((((H.new ⟨true, t_Picture, [.int .i64 a0, .int .i64 c0, v0]⟩).new ⟨true, t_int64, [.int .i64 a1]⟩).new ⟨true, t_int64, [.int .i64 a2]⟩).new ⟨true, t_Picture, [.int .i64 0, .int .i64 0, .slice none 0 0]⟩).n = H.n + 4 := by simp only [new_n]
  generalize ((((H.new ⟨true, t_Picture, [.int .i64 a0, .int .i64 c0, v0]⟩).new ⟨true, t_int64, [.int .i64 a1]⟩).new ⟨true, t_int64, [.int .i64 a2]⟩).new ⟨true, t_Picture, [.int .i64 0, .int .i64 0, .slice none 0 0]⟩) = K at e0 g1 g2 g3 g4 g5 ⊢
  refine callR_ext (i_isPartAt_ok (A0.rd.ext e0) A0.le) ?_
  intro G n1 bb1
  have eG : Ext K G := ⟨n1, bb1⟩
  have e1 := e0.trans eG
  replace g1 := (bb1 _ (by omega)).trans g1
  replace g2 := (bb1 _ (by omega)).trans g2
  replace g3 := (bb1 _ (by omega)).trans g3
  replace g4 := (bb1 _ (by omega)).trans g4
  cases hp : partOk a0 c0 xs0 a1 a2 a3 a4
  · simp (disch := first | assumption | omega | rfl | (refine id ?_; simp only [gxD, ne_eq, reduceCtorEq, not_false_eq_true, Nat.reduceAdd, *]; done) | (refine id ?_; simp only [gxD]; omega)) only [↓gxPre, gxPost, ↓reduceIte, Nat.reduceEqDiff, reduceCtorEq, Nat.reduceAdd, g4]
    exact .no rfl (e1.put (by omega) _)
  obtain ⟨m, n, i, j, k, l, rfl, rfl, rfl, rfl, rfl, rfl, q1, q2, q3, q4, q5, q6, q7, q8⟩ := part_nat hp
  simp (disch := first | assumption | omega | rfl | (refine id ?_; simp only [gxD, ne_eq, reduceCtorEq, not_false_eq_true, Nat.reduceAdd, *]; done) | (refine id ?_; simp only [gxD]; omega)) only [↓gxPre, gxPost, ↓reduceIte, Nat.reduceEqDiff, reduceCtorEq, Nat.reduceAdd, g1, g2, g3, g4]
  refine callR_of (i_pictureBy_ok (L := fun x y => xs0.getD ((j + y) * m + i + x) 0) fun x y F hx hy e =>
    i_CropPicture_1_ok ((e.blk _ (by omega)).trans g1) ((e.blk _ (by omega)).trans g3) ((e.blk _ (by omega)).trans g2) ((A0.rd.ext e1).ext e) q7 (by omega) (by omega) q5 q6) ?_
  rintro _ M ⟨eM, v, rfl, o, q⟩
  have nM := eM.n
  have g4M := (eM.blk _ (by omega)).trans g4
  simp only [Int.toNat_natCast] at o q ⊢
  have hcg : (tabL (k * l) fun t => xs0.getD ((j + t / k) * m + i + t % k) 0) = tabL (k * l) (cropF m xs0 i j k) := rfl
  have hfin := crop_fin q1 q3 q4 q7 q8
  rw [hcg, within_true.2 ⟨by omega, by omega⟩, within_true.2 ⟨by omega, by omega⟩, hfin] at o q ⊢
  simp only [Bool.and_self, selL, if_true] at o q ⊢
  have ov := o.one
  simp (disch := first | assumption | omega | rfl | (refine id ?_; simp only [gxD, ne_eq, reduceCtorEq, not_false_eq_true, Nat.reduceAdd, *]; done) | (refine id ?_; simp only [gxD]; omega)) only [↓gxPre, gxPost, ↓reduceIte, Nat.reduceEqDiff, reduceCtorEq, Nat.reduceAdd, g4M]
  refine .yes rfl ((e1.trans eM).put (by omega) _) ((o.wide (by omega) (Nat.le_refl _)).keep (Nat.le_refl _) fun t ht => hput_other _ _ _ _ fun e => ?_) q
  have := (o.hdl ht).1
  omega
theorem s_l04Crop_ok {H : Heap} {p m n x y w h : Nat} {own : Bool} {ty : TypeId} {v0 : Value} {xs : List Nat} (hb0 : H.blk p = some ⟨own, ty, [.int .i64 m, .int .i64 n, v0]⟩) (hp : p < H.n) (hv : FS H v0 xs)
    (q1 : 1 ≤ w) (q2 : 1 ≤ h) (q3 : x + w ≤ m) (q4 : y + h ≤ n) (q5 : m ≤ 16) (q6 : n ≤ 16) (q7 : xs.length = m * n) :
    ACalls Try.prog n_s_l04Crop [.pointer (some ⟨p, 0, some 3⟩), .int .i64 x, .int .i64 y, .int .i64 w, .int .i64 h] H fun q H' => Ext H H' ∧ ∃ v, q = .agg #[.int .i64 w, .int .i64 h, v] ∧ OwL H.n H'.n H' t_float32 v ((tabL (w * h) (cropF m xs x y w)).map fv) := by
  refine k_s_l04Crop.run rfl ?_
  unfold c_s_l04Crop
  have hle := mul_le_256 (w := w) (g := h) (by omega) (by omega)
  have hle2 := mul_le_256 q5 q6
  have hm : IntKind.wrap .i64 ((w : Int) * h) = ((w * h : Nat) : Int) := by rw [mulN, wrN _ (by omega)]
  simp (disch := first | assumption | omega | rfl | (refine id ?_; simp only [gxD, ne_eq, reduceCtorEq, not_false_eq_true, Nat.reduceAdd, *]; done) | (refine id ?_; simp only [gxD]; omega)) only [↓gxPre, gxPost, ↓reduceIte, Nat.reduceEqDiff, reduceCtorEq, Nat.reduceAdd]
  refine loop_forH (w * h) (fun i => [.pointer (some ⟨p, 0, some 3⟩), .int .i64 x, .int .i64 y, .int .i64 w, .int .i64 h, .pointer (some ⟨H.n, 0, some 3⟩), .pointer (some ⟨H.n + 2, 0, some 3⟩), .int .i64 i])
    (fun i G => H.n + 3 ≤ G.n ∧ Ext H G ∧ G.blk H.n = some ⟨true, t_Picture, [.int .i64 0, .int .i64 0, .slice none 0 0]⟩ ∧ ∃ v, G.blk (H.n + 2) = some ⟨true, t_Picture, [.int .i64 w, .int .i64 h, v]⟩ ∧ OwL H.n G.n G t_float32 v ((tabL i (cropF m xs x y w)).map fv)) rfl
    ⟨by simp only [new_n, put_n]; omega, ⟨by first | omega | (simp only [new_n, put_n]; omega) | (simp only [new_n, put_n] at *; omega), fun i hi => by simp (disch := first | assumption | omega | rfl | (refine id ?_; simp only [gxD, ne_eq, reduceCtorEq, not_false_eq_true, Nat.reduceAdd, *]; done) | (refine id ?_; simp only [gxD]; omega)) only [↓gxPre, gxPost, ↓reduceIte, Nat.reduceEqDiff, reduceCtorEq, Nat.reduceAdd, *]⟩, by simp (disch := first | assumption | omega | rfl | (refine id ?_; simp only [gxD, ne_eq, reduceCtorEq, not_false_eq_true, Nat.reduceAdd, *]; done) | (refine id ?_; simp only [gxD]; omega)) only [↓gxPre, gxPost, ↓reduceIte, Nat.reduceEqDiff, reduceCtorEq, Nat.reduceAdd], .slice (some ⟨H.n + 1, 0, none⟩) 0 0, by simp (disch := first | assumption | omega | rfl | (refine id ?_; simp only [gxD, ne_eq, reduceCtorEq, not_false_eq_true, Nat.reduceAdd, *]; done) | (refine id ?_; simp only [gxD]; omega)) only [↓gxPre, gxPost, ↓reduceIte, Nat.reduceEqDiff, reduceCtorEq, Nat.reduceAdd], .mk (l := []) (by simp (disch := first | assumption | omega | rfl | (refine id ?_; simp only [gxD, ne_eq, reduceCtorEq, not_false_eq_true, Nat.reduceAdd, *]; done) | (refine id ?_; simp only [gxD]; omega)) only [↓gxPre, gxPost, ↓reduceIte, Nat.reduceEqDiff, reduceCtorEq, Nat.reduceAdd]) rfl (by omega) (by simp only [new_n, put_n]; omega) (by simp only [new_n, put_n]; omega)⟩ ?_ ?_
  · rintro G ⟨hG, hE, hb1, v, hb, o⟩
    have hv1 := o.one
    simp (disch := first | assumption | omega | rfl | (refine id ?_; simp only [gxD, ne_eq, reduceCtorEq, not_false_eq_true, Nat.reduceAdd, *]; done) | (refine id ?_; simp only [gxD]; omega)) only [↓gxPre, gxPost, ↓reduceIte, Nat.reduceEqDiff, reduceCtorEq, Nat.reduceAdd, hm, Int.lt_irrefl, hb, hb1]
    exact ⟨hE.put (Nat.le_refl _) _, v, rfl, (o.keep (Nat.le_refl _) fun k hk => hput_other _ _ _ _ fun e => o.ne hb1 (by decide) (by rw [hk, e]))⟩
  · rintro i G hi ⟨hG, hE, hb1, v, hb, o⟩
    obtain ⟨v', G', e, n', hb', o1, hk, hfin⟩ := push_ow (bytes := 4) (x := .float .f32 (cropF m xs x y w i)) hE o (Nat.le_refl _) (by omega) hb (by omega) (by omega) (by decide) (by simp [tabL_length]; omega)
    have hb1' : G'.blk H.n = some ⟨true, t_Picture, [.int .i64 0, .int .i64 0, .slice none 0 0]⟩ := by rw [hk _ (by omega) (o.ne hb1 (by decide)), hb1]
    obtain ⟨f1, f2⟩ := hfin [.int .i64 w, .int .i64 h, v']
    rw [fv_snoc', ← tabL_succ] at f2
    have hbp := (hE.blk _ hp).trans hb0
    have hvG := hv.ext hE
    have ha : i % w < w := Nat.mod_lt _ q1
    have hd : i / w < h := Nat.div_lt_of_lt_mul hi
    obtain ⟨t, ht⟩ : ∃ t, t = i / w := ⟨_, rfl⟩
    obtain ⟨u, hu⟩ : ∃ u, u = i % w := ⟨_, rfl⟩
    have hq : ((i : Nat) : Int).tdiv (w : Int) = (t : Int) := by rw [tdivN, ht]
    have hr : ((i : Nat) : Int).tmod (w : Int) = (u : Int) := by rw [tmodN, hu]
    rw [← hu] at ha
    rw [← ht] at hd
    have hc : xs.getD ((y + t) * m + x + u) 0 = cropF m xs x y w i := by rw [ht, hu]; rfl
    clear ht hu
    have hix := crop_ix (m := m) (n := n) (x := x) (y := y) (a := u) (b := t) (by omega) (by omega)
    have hw1 : IntKind.wrap .i64 (t : Int) = (t : Int) := wrN _ (by omega)
    have hmm : IntKind.wrap .i64 (((y : Int) + (t : Int)) * (m : Int)) = (((y + t) * m : Nat) : Int) := by
      rw [show (y : Int) + (t : Int) = ((y + t : Nat) : Int) by omega, mulN, wrN _ (by omega)]
    have htn : ((((y + t) * m : Nat) : Int) + (x : Int) + (u : Int)).toNat = (y + t) * m + x + u := by omega
    simp (disch := first | assumption | omega | rfl | (refine id ?_; simp only [gxD, ne_eq, reduceCtorEq, not_false_eq_true, Nat.reduceAdd, *]; done) | (refine id ?_; simp only [gxD]; omega)) only [↓gxPre, gxPost, ↓reduceIte, Nat.reduceEqDiff, reduceCtorEq, Nat.reduceAdd, hm, hb, hbp, hq, hr, hw1, hmm, hvG.ia, hvG.ld, htn, hc]
    rw [e]
    simp (disch := first | assumption | omega | rfl | (refine id ?_; simp only [gxD, ne_eq, reduceCtorEq, not_false_eq_true, Nat.reduceAdd, *]; done) | (refine id ?_; simp only [gxD]; omega)) only [↓gxPre, gxPost, ↓reduceIte, Nat.reduceEqDiff, reduceCtorEq, Nat.reduceAdd, hb']
    refine ⟨by simp, by omega, f1, ?_, v', rfl, f2⟩
    simp (disch := first | assumption | omega | rfl | (refine id ?_; simp only [gxD, ne_eq, reduceCtorEq, not_false_eq_true, Nat.reduceAdd, *]; done) | (refine id ?_; simp only [gxD]; omega)) only [↓gxPre, gxPost, ↓reduceIte, Nat.reduceEqDiff, reduceCtorEq, Nat.reduceAdd, hb1']
end Go.Proofs.Ytkojmlpaamdhoad
