/- Frames of lists. -/
import Derived.Test.YtkojmlpaamdhoacFrameOfXL
namespace Go.Proofs.Ytkojmlpaamdhoac
open Go.Gx
set_option maxRecDepth 100000
set_option linter.unusedSimpArgs false
set_option linter.unusedVariables false

def atF (xs : List Nat) (i : Int) : Nat := xs.getD (mirF xs.length i).toNat 0
def wK (k : Nat) : Nat := [1031798784, 1048576000, 1052770304, 1048576000, 1031798784].getD k 0
def smoothK (xs : List Nat) (d : Int) (j : Nat) : Nat → Nat := foldI (fun k s => fbin .add .f32 s (fbin .mul .f32 (atF xs ((j : Int) + ((k : Int) - 2) * d)) (wK k))) 0
def smoothL (d : Int) (xs : List Nat) : List Nat := (List.range xs.length).map fun j => smoothK xs d j 5
theorem smoothL_length (d : Int) (xs : List Nat) : (smoothL d xs).length = xs.length := by simp [smoothL]
theorem smooth5 (xs : List Nat) (d : Int) (j : Nat) : smoothK xs d j 5 = fbin .add .f32 (fbin .add .f32 (fbin .add .f32 (fbin .add .f32 (fbin .add .f32 0 (fbin .mul .f32 (atF xs ((j : Int) - 2 * d)) 1031798784)) (fbin .mul .f32 (atF xs ((j : Int) - d)) 1048576000)) (fbin .mul .f32 (atF xs (j : Int)) 1052770304)) (fbin .mul .f32 (atF xs ((j : Int) + d)) 1048576000)) (fbin .mul .f32 (atF xs ((j : Int) + 2 * d)) 1031798784) := by
  have e0 : (j : Int) + (((0 : Nat) : Int) - 2) * d = (j : Int) - 2 * d := by omega
  have e1 : (j : Int) + (((1 : Nat) : Int) - 2) * d = (j : Int) - d := by omega
  have e2 : (j : Int) + (((2 : Nat) : Int) - 2) * d = (j : Int) := by omega
  have e3 : (j : Int) + (((3 : Nat) : Int) - 2) * d = (j : Int) + d := by omega
  have e4 : (j : Int) + (((4 : Nat) : Int) - 2) * d = (j : Int) + 2 * d := by omega
  simp only [smoothK, foldI_succ, foldI_zero, e0, e1, e2, e3, e4]
  rfl
theorem i_smoothed_1_ok {H : Heap} {p q : Nat} {o1 o2 : Bool} {s1 s2 : TypeId} {i : Int} {v : Value} {xs : List Nat} (h1 : H.blk p = some ⟨o1, s1, [v]⟩) (h2 : H.blk q = some ⟨o2, s2, [.int .i64 xs.length]⟩) (hv : FS H v xs) (hn : xs.length ≤ 2 ^ 30) (hx : 1 ≤ xs.length) (hi : -(2 ^ 32) ≤ i) (hi' : i ≤ 2 ^ 32) :
    ACalls Try.prog n_i_smoothed_1 [.int .i64 i, .pointer (some ⟨p, 0, some 1⟩), .pointer (some ⟨q, 0, some 1⟩)] H fun r H' => r = .float .f32 (atF xs i) ∧ H' = H := by
  have hm := mir_range (n := (xs.length : Int)) (i := i) (by omega)
  refine k_i_smoothed_1.run rfl ?_
  unfold c_i_smoothed_1
  simp (disch := first | assumption | omega | rfl | (refine id ?_; simp only [gxD, ne_eq, reduceCtorEq, not_false_eq_true, Nat.reduceAdd, *]; done) | (refine id ?_; simp only [gxD]; omega)) only [↓gxPre, gxPost, ↓reduceIte, Nat.reduceEqDiff, reduceCtorEq, Nat.reduceAdd, h1, h2]
  refine callR_pure (i_mirrored_ok (by omega) (by omega) (by omega) (by omega)) (by first | exact .inl rfl | (simp (disch := first | assumption | omega | rfl | (refine id ?_; simp only [gxD, ne_eq, reduceCtorEq, not_false_eq_true, Nat.reduceAdd, *]; done) | (refine id ?_; simp only [gxD]; omega)) only [↓gxPre, gxPost, ↓reduceIte, Nat.reduceEqDiff, reduceCtorEq, Nat.reduceAdd, *]; done)) ?_
  simp (disch := first | assumption | omega | rfl | (refine id ?_; simp only [gxD, ne_eq, reduceCtorEq, not_false_eq_true, Nat.reduceAdd, *]; done) | (refine id ?_; simp only [gxD]; omega)) only [↓gxPre, gxPost, ↓reduceIte, Nat.reduceEqDiff, reduceCtorEq, Nat.reduceAdd, hv.ia, hv.ld]
  rfl
theorem s_l03Mirror_ok {H : Heap} {n i : Int} (hn : 1 ≤ n) (hn' : n ≤ 2 ^ 40) (hi : -(2 ^ 40) ≤ i) (hi' : i ≤ 2 ^ 41) : ACalls Try.prog n_s_l03Mirror [.int .i64 i, .int .i64 n] H fun r H' => r = .int .i64 (mirF n i) ∧ H' = H := by
  refine k_s_l03Mirror.run rfl ?_
  unfold c_s_l03Mirror
  by_cases h1 : n = 1
  · simp (disch := first | assumption | omega | rfl | (refine id ?_; simp only [gxD, ne_eq, reduceCtorEq, not_false_eq_true, Nat.reduceAdd, *]; done) | (refine id ?_; simp only [gxD]; omega)) only [↓gxPre, gxPost, ↓reduceIte, Nat.reduceEqDiff, reduceCtorEq, Nat.reduceAdd, h1]
    simp [mirF]
  simp (disch := first | assumption | omega | rfl | (refine id ?_; simp only [gxD, ne_eq, reduceCtorEq, not_false_eq_true, Nat.reduceAdd, *]; done) | (refine id ?_; simp only [gxD]; omega)) only [↓gxPre, gxPost, ↓reduceIte, Nat.reduceEqDiff, reduceCtorEq, Nat.reduceAdd, h1]
  refine loop_st (σ := Int) (fun s => [.int .i64 s, .int .i64 n]) (fun s G => G = H ∧ mirF n s = mirF n i ∧ -(2 ^ 41) ≤ s ∧ s ≤ 2 ^ 41) (fun s => 2 * s.natAbs + (if s < 0 then 1 else 0)) i rfl ⟨rfl, rfl, by omega, by omega⟩ ?_
  rintro s _ ⟨rfl, hs, b1, b2⟩
  by_cases hneg : s < 0
  · simp (disch := first | assumption | omega | rfl | (refine id ?_; simp only [gxD, ne_eq, reduceCtorEq, not_false_eq_true, Nat.reduceAdd, *]; done) | (refine id ?_; simp only [gxD]; omega)) only [↓gxPre, gxPost, ↓reduceIte, Nat.reduceEqDiff, reduceCtorEq, Nat.reduceAdd, hneg]
    refine ⟨-s, ?_, by simp, by rw [mir_neg hn]; exact hs, by omega, by omega⟩
    split <;> omega
  by_cases hge : n ≤ s
  · simp (disch := first | assumption | omega | rfl | (refine id ?_; simp only [gxD, ne_eq, reduceCtorEq, not_false_eq_true, Nat.reduceAdd, *]; done) | (refine id ?_; simp only [gxD]; omega)) only [↓gxPre, gxPost, ↓reduceIte, Nat.reduceEqDiff, reduceCtorEq, Nat.reduceAdd, hneg, hge]
    refine ⟨2 * (n - 1) - s, ?_, by simp; omega, by rw [mir_ref hn]; exact hs, by omega, by omega⟩
    split <;> omega
  · simp (disch := first | assumption | omega | rfl | (refine id ?_; simp only [gxD, ne_eq, reduceCtorEq, not_false_eq_true, Nat.reduceAdd, *]; done) | (refine id ?_; simp only [gxD]; omega)) only [↓gxPre, gxPost, ↓reduceIte, Nat.reduceEqDiff, reduceCtorEq, Nat.reduceAdd, hneg, hge]
    rw [← hs, mir_in (by omega) (by omega)]
theorem i_smoothed_ok {H : Heap} {d : Nat} {v : Value} {xs : List Nat} (hv : FS H v xs) (hn : xs.length ≤ 2 ^ 30) (hx : 1 ≤ xs.length) (hd : d ≤ 2 ^ 20) :
    ACalls Try.prog n_i_smoothed [v, .int .i64 d] H fun r H' => Ext H H' ∧ ∃ h, H.n ≤ h ∧ h < H'.n ∧ r = .slice (some ⟨h, 0, none⟩) xs.length xs.length ∧ H'.blk h = some ⟨true, t_float32, (smoothL d xs).map fv⟩ := by
  refine k_i_smoothed.run rfl ?_
  unfold c_i_smoothed
  have o0 := hv.one
  simp (disch := first | assumption | omega | rfl | (refine id ?_; simp only [gxD, ne_eq, reduceCtorEq, not_false_eq_true, Nat.reduceAdd, *]; done) | (refine id ?_; simp only [gxD]; omega)) only [↓gxPre, gxPost, ↓reduceIte, Nat.reduceEqDiff, reduceCtorEq, Nat.reduceAdd, hv.len]
  refine loop_forH xs.length (fun i => [.int .i64 d, .func (.func n_i_smoothed_1) #[] #[.pointer (some ⟨H.n, 0, some 1⟩), .pointer (some ⟨H.n + 1, 0, some 1⟩)], .slice (some ⟨H.n + 1 + 1, 0, none⟩) i i, .int .i64 xs.length, .int .i64 i])
    (fun i G => H.n + 3 ≤ G.n ∧ Ext H G ∧ G.blk H.n = some ⟨true, t_sfloat32, [v]⟩ ∧ G.blk (H.n + 1) = some ⟨true, t_int64, [.int .i64 xs.length]⟩ ∧ G.blk (H.n + 1 + 1) = some ⟨true, t_float32, ((List.range i).map fun j => smoothK xs d j 5).map fv⟩) rfl
    ⟨by simp only [new_n, put_n]; omega, ⟨by first | omega | (simp only [new_n, put_n]; omega) | (simp only [new_n, put_n] at *; omega), fun i hi => by simp (disch := first | assumption | omega | rfl | (refine id ?_; simp only [gxD, ne_eq, reduceCtorEq, not_false_eq_true, Nat.reduceAdd, *]; done) | (refine id ?_; simp only [gxD]; omega)) only [↓gxPre, gxPost, ↓reduceIte, Nat.reduceEqDiff, reduceCtorEq, Nat.reduceAdd, *]⟩, by simp (disch := first | assumption | omega | rfl | (refine id ?_; simp only [gxD, ne_eq, reduceCtorEq, not_false_eq_true, Nat.reduceAdd, *]; done) | (refine id ?_; simp only [gxD]; omega)) only [↓gxPre, gxPost, ↓reduceIte, Nat.reduceEqDiff, reduceCtorEq, Nat.reduceAdd], by simp (disch := first | assumption | omega | rfl | (refine id ?_; simp only [gxD, ne_eq, reduceCtorEq, not_false_eq_true, Nat.reduceAdd, *]; done) | (refine id ?_; simp only [gxD]; omega)) only [↓gxPre, gxPost, ↓reduceIte, Nat.reduceEqDiff, reduceCtorEq, Nat.reduceAdd], by simp (disch := first | assumption | omega | rfl | (refine id ?_; simp only [gxD, ne_eq, reduceCtorEq, not_false_eq_true, Nat.reduceAdd, *]; done) | (refine id ?_; simp only [gxD]; omega)) only [↓gxPre, gxPost, ↓reduceIte, Nat.reduceEqDiff, reduceCtorEq, Nat.reduceAdd]; rfl⟩ ?_ ?_
  · rintro G ⟨hG, hE, hb1, hb2, hc⟩
    simp (disch := first | assumption | omega | rfl | (refine id ?_; simp only [gxD, ne_eq, reduceCtorEq, not_false_eq_true, Nat.reduceAdd, *]; done) | (refine id ?_; simp only [gxD]; omega)) only [↓gxPre, gxPost, ↓reduceIte, Nat.reduceEqDiff, reduceCtorEq, Nat.reduceAdd, Int.lt_irrefl]
    exact ⟨hE, H.n + 1 + 1, by omega, by omega, rfl, hc⟩
  · rintro i G hi ⟨hG, hE, hb1, hb2, hc⟩
    have hvG := hv.ext hE
    have ht : (((List.range i).map fun j => smoothK xs d j 5).map fv).length = i := by simp
    have hm5 : ((List.range i).map fun j => smoothK xs d j 5).map fv ++ [.float .f32 (smoothK xs d i 5)] = ((List.range (i + 1)).map fun j => smoothK xs d j 5).map fv := by rw [fv_snoc', range_snoc]
    obtain ⟨f1, f2, f3, f4⟩ := push_at hE hc (by omega) (by omega) hm5
    have hs := (smooth5 xs d i).symm
    simp (disch := first | assumption | omega | rfl | (refine id ?_; simp only [gxD, ne_eq, reduceCtorEq, not_false_eq_true, Nat.reduceAdd, *]; done) | (refine id ?_; simp only [gxD]; omega)) only [↓gxPre, gxPost, ↓reduceIte, Nat.reduceEqDiff, reduceCtorEq, Nat.reduceAdd]
    refine callR_pure (i_smoothed_1_ok hb1 hb2 hvG hn hx (by omega) (by omega)) (by first | exact .inl rfl | (simp (disch := first | assumption | omega | rfl | (refine id ?_; simp only [gxD, ne_eq, reduceCtorEq, not_false_eq_true, Nat.reduceAdd, *]; done) | (refine id ?_; simp only [gxD]; omega)) only [↓gxPre, gxPost, ↓reduceIte, Nat.reduceEqDiff, reduceCtorEq, Nat.reduceAdd, *]; done)) ?_
    simp (disch := first | assumption | omega | rfl | (refine id ?_; simp only [gxD, ne_eq, reduceCtorEq, not_false_eq_true, Nat.reduceAdd, *]; done) | (refine id ?_; simp only [gxD]; omega)) only [↓gxPre, gxPost, ↓reduceIte, Nat.reduceEqDiff, reduceCtorEq, Nat.reduceAdd]
    refine callR_pure (i_smoothed_1_ok hb1 hb2 hvG hn hx (by omega) (by omega)) (by first | exact .inl rfl | (simp (disch := first | assumption | omega | rfl | (refine id ?_; simp only [gxD, ne_eq, reduceCtorEq, not_false_eq_true, Nat.reduceAdd, *]; done) | (refine id ?_; simp only [gxD]; omega)) only [↓gxPre, gxPost, ↓reduceIte, Nat.reduceEqDiff, reduceCtorEq, Nat.reduceAdd, *]; done)) ?_
    simp (disch := first | assumption | omega | rfl | (refine id ?_; simp only [gxD, ne_eq, reduceCtorEq, not_false_eq_true, Nat.reduceAdd, *]; done) | (refine id ?_; simp only [gxD]; omega)) only [↓gxPre, gxPost, ↓reduceIte, Nat.reduceEqDiff, reduceCtorEq, Nat.reduceAdd]
    refine callR_pure (i_smoothed_1_ok hb1 hb2 hvG hn hx (by omega) (by omega)) (by first | exact .inl rfl | (simp (disch := first | assumption | omega | rfl | (refine id ?_; simp only [gxD, ne_eq, reduceCtorEq, not_false_eq_true, Nat.reduceAdd, *]; done) | (refine id ?_; simp only [gxD]; omega)) only [↓gxPre, gxPost, ↓reduceIte, Nat.reduceEqDiff, reduceCtorEq, Nat.reduceAdd, *]; done)) ?_
    simp (disch := first | assumption | omega | rfl | (refine id ?_; simp only [gxD, ne_eq, reduceCtorEq, not_false_eq_true, Nat.reduceAdd, *]; done) | (refine id ?_; simp only [gxD]; omega)) only [↓gxPre, gxPost, ↓reduceIte, Nat.reduceEqDiff, reduceCtorEq, Nat.reduceAdd]
    refine callR_pure (i_smoothed_1_ok hb1 hb2 hvG hn hx (by omega) (by omega)) (by first | exact .inl rfl | (simp (disch := first | assumption | omega | rfl | (refine id ?_; simp only [gxD, ne_eq, reduceCtorEq, not_false_eq_true, Nat.reduceAdd, *]; done) | (refine id ?_; simp only [gxD]; omega)) only [↓gxPre, gxPost, ↓reduceIte, Nat.reduceEqDiff, reduceCtorEq, Nat.reduceAdd, *]; done)) ?_
    simp (disch := first | assumption | omega | rfl | (refine id ?_; simp only [gxD, ne_eq, reduceCtorEq, not_false_eq_true, Nat.reduceAdd, *]; done) | (refine id ?_; simp only [gxD]; omega)) only [↓gxPre, gxPost, ↓reduceIte, Nat.reduceEqDiff, reduceCtorEq, Nat.reduceAdd]
    refine callR_pure (i_smoothed_1_ok hb1 hb2 hvG hn hx (by omega) (by omega)) (by first | exact .inl rfl | (simp (disch := first | assumption | omega | rfl | (refine id ?_; simp only [gxD, ne_eq, reduceCtorEq, not_false_eq_true, Nat.reduceAdd, *]; done) | (refine id ?_; simp only [gxD]; omega)) only [↓gxPre, gxPost, ↓reduceIte, Nat.reduceEqDiff, reduceCtorEq, Nat.reduceAdd, *]; done)) ?_
    simp (disch := first | assumption | omega | rfl | (refine id ?_; simp only [gxD, ne_eq, reduceCtorEq, not_false_eq_true, Nat.reduceAdd, *]; done) | (refine id ?_; simp only [gxD]; omega)) only [↓gxPre, gxPost, ↓reduceIte, Nat.reduceEqDiff, reduceCtorEq, Nat.reduceAdd, hc, hs]
    refine ⟨by simp, by omega, f1, ?_, ?_, by rw [hm5]⟩
    · first | exact hb1 | exact (f4 _ (by omega) (by omega)).trans hb1
    · first | exact hb2 | exact (f4 _ (by omega) (by omega)).trans hb2
def nowW (xs : List Nat) : Nat → List Nat := foldI (fun t l => smoothL ((2 ^ t : Nat) : Int) l) xs
theorem nowW_succ (xs : List Nat) (t : Nat) : nowW xs (t + 1) = smoothL ((2 ^ t : Nat) : Int) (nowW xs t) := rfl
theorem nowW_len (xs : List Nat) : ∀ t, (nowW xs t).length = xs.length
  | 0 => rfl
  | t + 1 => by rw [nowW_succ, smoothL_length, nowW_len xs t]
def detW (xs : List Nat) (t : Nat) : List Nat := (List.range xs.length).map fun j => fbin .sub .f32 ((nowW xs t).getD j 0) ((nowW xs (t + 1)).getD j 0)
theorem detW_len (xs : List Nat) (t : Nat) : (detW xs t).length = xs.length := by simp [detW]
def frameW (xs : List Nat) (n : Nat) : List (List Nat) := (List.range n).map (detW xs) ++ [nowW xs n]
def frameOk (xs : List Nat) (n : Int) : Bool := isLongF xs && within n 0 6 && (frameW xs n.toNat).all fun l => l.all finF
theorem det_fin {xs : List Nat} {t : Nat} (hc : (nowW xs t).all finF = true) (hd : (detW xs t).all finF = true) : (nowW xs (t + 1)).all finF = true := by
  refine all_getD.2 fun j hj => ?_
  rw [nowW_len] at hj
  have h1 := all_getD.1 hc j (by rw [nowW_len]; exact hj)
  have h2 := all_getD.1 hd j (by rw [detW_len]; exact hj)
  rw [detW, getD_range_map hj] at h2
  exact fin_sub h1 h2
theorem outW_sum (xs : List Nat) (n : Nat) : ∀ t, t ≤ n → offN (frameW xs n) t = t * xs.length
  | 0, _ => by simp [offN_zero]
  | t + 1, h => by
    have hl : (frameW xs n).length = n + 1 := by simp [frameW]
    rw [offN_succ (by omega), outW_sum xs n t (by omega)]
    have e : (frameW xs n).getD t [] = detW xs t := by
      unfold frameW
      rw [getD_app_lt (by simp; omega)]
      exact getD_range_map (by omega)
    rw [e, detW_len, Nat.add_mul, Nat.one_mul]
theorem frameW_tot {xs : List Nat} {n : Nat} (hx : xs.length ≤ 128) (hn : n ≤ 6) : totL (frameW xs n) ≤ 2 ^ 40 := by
  have hl : (frameW xs n).length = n + 1 := by simp [frameW]
  unfold totL
  rw [hl, offN_succ (by omega), outW_sum xs n n (Nat.le_refl _)]
  have e : (frameW xs n).getD n [] = nowW xs n := by
    unfold frameW
    have := @getD_app_at _ ((List.range n).map (detW xs)) (nowW xs n) []
    rw [List.length_map, List.length_range] at this
    exact this
  rw [e, nowW_len]
  have : n * xs.length ≤ 6 * 128 := Nat.mul_le_mul hn hx
  omega
theorem i_finiteLists_ok {H : Heap} {w : Value} {xss : List (List Nat)} (hw : SS H w xss) (hn : xss.length ≤ 2 ^ 40) (hx : ∀ j, j < xss.length → (xss.getD j []).length ≤ 2 ^ 40) :
    ACalls Try.prog n_i_finiteLists [w] H fun r H' => r = listV (xss.all fun l => l.all finF) w ∧ H' = H := by
  refine k_i_finiteLists.run rfl ?_
  unfold c_i_finiteLists
  simp (disch := first | assumption | omega | rfl | (refine id ?_; simp only [gxD, ne_eq, reduceCtorEq, not_false_eq_true, Nat.reduceAdd, *]; done) | (refine id ?_; simp only [gxD]; omega)) only [↓gxPre, gxPost, ↓reduceIte, Nat.reduceEqDiff, reduceCtorEq, Nat.reduceAdd]
  refine callR_pure (i_areFinite_ok hw hn hx) (.inl rfl) ?_
  cases h : xss.all fun l => l.all finF
  · simp (disch := first | assumption | omega | rfl | (refine id ?_; simp only [gxD, ne_eq, reduceCtorEq, not_false_eq_true, Nat.reduceAdd, *]; done) | (refine id ?_; simp only [gxD]; omega)) only [↓gxPre, gxPost, ↓reduceIte, Nat.reduceEqDiff, reduceCtorEq, Nat.reduceAdd]
    rfl
  · simp (disch := first | assumption | omega | rfl | (refine id ?_; simp only [gxD, ne_eq, reduceCtorEq, not_false_eq_true, Nat.reduceAdd, *]; done) | (refine id ?_; simp only [gxD]; omega)) only [↓gxPre, gxPost, ↓reduceIte, Nat.reduceEqDiff, reduceCtorEq, Nat.reduceAdd]
    rfl
theorem i_FrameOf_law {H : Heap} {v0 : Value} {xs0 : List Nat} {a1 : Int} (A0 : AF H v0 xs0) (b1 : -9223372036854775808 ≤ a1 ∧ a1 ≤ 9223372036854775807) :
    ACalls Try.prog n_i_FrameOf [v0, .int .i64 a1] H fun r H' => GridR fv t_sfloat32 t_float32 H (frameOk xs0 a1) (frameW xs0 a1.toNat) r H' := by
  refine k_i_FrameOf.run rfl ?_
  unfold c_i_FrameOf
  simp (disch := first | assumption | omega | rfl | (refine id ?_; simp only [gxD, ne_eq, reduceCtorEq, not_false_eq_true, Nat.reduceAdd, *]; done) | (refine id ?_; simp only [gxD]; omega)) only [↓gxPre, gxPost, ↓reduceIte, Nat.reduceEqDiff, reduceCtorEq, Nat.reduceAdd]
  refine callR_ext (i_isLong_ok A0.rd A0.le) ?_
  intro K n1 bb1
  have eK : Ext H K := ⟨n1, bb1⟩
  cases h1 : isLongF xs0
  · simp (disch := first | assumption | omega | rfl | (refine id ?_; simp only [gxD, ne_eq, reduceCtorEq, not_false_eq_true, Nat.reduceAdd, *]; done) | (refine id ?_; simp only [gxD]; omega)) only [↓gxPre, gxPost, ↓reduceIte, Nat.reduceEqDiff, reduceCtorEq, Nat.reduceAdd]
    exact .no (by simp only [frameOk, h1, Bool.false_and, Bool.true_and, Bool.and_true, Bool.and_false, Bool.or_true, Bool.true_or, Bool.false_or, Bool.or_false, Bool.and_self, Bool.or_self]) eK
  obtain ⟨hl, hl1⟩ := isLong_len h1
  simp (disch := first | assumption | omega | rfl | (refine id ?_; simp only [gxD, ne_eq, reduceCtorEq, not_false_eq_true, Nat.reduceAdd, *]; done) | (refine id ?_; simp only [gxD]; omega)) only [↓gxPre, gxPost, ↓reduceIte, Nat.reduceEqDiff, reduceCtorEq, Nat.reduceAdd]
  refine callR_pure i_within_ok (.inl rfl) ?_
  cases h2 : within a1 0 6
  · simp (disch := first | assumption | omega | rfl | (refine id ?_; simp only [gxD, ne_eq, reduceCtorEq, not_false_eq_true, Nat.reduceAdd, *]; done) | (refine id ?_; simp only [gxD]; omega)) only [↓gxPre, gxPost, ↓reduceIte, Nat.reduceEqDiff, reduceCtorEq, Nat.reduceAdd]
    exact .no (by simp only [frameOk, h2, Bool.false_and, Bool.true_and, Bool.and_true, Bool.and_false, Bool.or_true, Bool.true_or, Bool.false_or, Bool.or_false, Bool.and_self, Bool.or_self]) eK
  have hw2 := within_true.1 h2
  obtain ⟨n, rfl⟩ : ∃ n : Nat, a1 = n := ⟨a1.toNat, by omega⟩
  simp (disch := first | assumption | omega | rfl | (refine id ?_; simp only [gxD, ne_eq, reduceCtorEq, not_false_eq_true, Nat.reduceAdd, *]; done) | (refine id ?_; simp only [gxD]; omega)) only [↓gxPre, gxPost, ↓reduceIte, Nat.reduceEqDiff, reduceCtorEq, Nat.reduceAdd]
  refine callR_new ?_
  intro N eN hbN nN
  refine callR_of (i_copyOf_ex (A0.rd.ext (eK.trans eN)) A0.le) ?_
  rintro _ P ⟨eP, rfl, nP, hcP⟩
  have hKn := eK.n
  simp (disch := first | assumption | omega | rfl | (refine id ?_; simp only [gxD, ne_eq, reduceCtorEq, not_false_eq_true, Nat.reduceAdd, *]; done) | (refine id ?_; simp only [gxD]; omega)) only [↓gxPre, gxPost, ↓reduceIte, Nat.reduceEqDiff, reduceCtorEq, Nat.reduceAdd]
  refine loop_st (σ := Nat × Value) (fun s => [.slice (some ⟨K.n, 0, none⟩) s.1 s.1, s.2, .int .i64 n, .int .i64 s.1])
    (fun s G => s.1 ≤ n ∧ K.n + 1 ≤ G.n ∧ Ext K G ∧ ∃ vs, G.blk K.n = some ⟨true, t_sfloat32, vs⟩ ∧ OwN K.n G.n G t_float32 (vs ++ [s.2]) (((List.range s.1).map (detW xs0) ++ [nowW xs0 s.1]).map (List.map fv)))
    (fun s => n - s.1) (0, .slice (some ⟨N.n, 0, none⟩) xs0.length xs0.length) rfl
    ⟨by omega, by omega, eN.trans eP, [], (eP.blk _ (by omega)).trans hbN, ?_⟩ ?_
  · refine OwN.nil.snoc (ls := []) (vs := []) (.mk hcP (by simp [nowW, foldI_zero]) (by omega) (by omega) (by omega)) fun i h hi' => by simp at hi'
  · rintro ⟨t, v⟩ G ⟨ht, hG, hE, vs, hb, ho⟩
    simp only [List.map_append, List.map_cons, List.map_nil] at ho
    simp only at ht ho ⊢
    have hlv : vs.length = t := by have := ho.1; simpa using this
    have hv := OwN_last ho
    have hvis := hv.fs
    have hlen := nowW_len xs0 t
    have eHG := eK.trans hE
    by_cases c1 : (t : Int) < n
    · have hp : (2 : Nat) ^ t ≤ 2 ^ 6 := Nat.pow_le_pow_right (by omega) (by omega)
      have hsh : IntKind.wrap .i64 (1 * 2 ^ min ((t : Int)).toNat IntKind.i64.bits) = ((2 ^ t : Nat) : Int) := by
        have hmn : min ((t : Int)).toNat IntKind.i64.bits = t := by
          have : IntKind.i64.bits = 64 := rfl
          rw [this]; omega
        rw [hmn, Int.one_mul]
        have hc : ((2 : Int) ^ t) = ((2 ^ t : Nat) : Int) := by push_cast; rfl
        rw [hc]
        exact wrN _ (by omega)
      have hmn2 : min t IntKind.i64.bits = t := by
        have : IntKind.i64.bits = 64 := rfl
        rw [this]; omega
      have hsh2 : IntKind.wrap .i64 (1 * 2 ^ t) = ((2 ^ t : Nat) : Int) := by
        rw [Int.toNat_natCast, hmn2] at hsh
        exact hsh
      simp (disch := first | assumption | omega | rfl | (refine id ?_; simp only [gxD, ne_eq, reduceCtorEq, not_false_eq_true, Nat.reduceAdd, *]; done) | (refine id ?_; simp only [gxD]; omega)) only [↓gxPre, gxPost, ↓reduceIte, Nat.reduceEqDiff, reduceCtorEq, Nat.reduceAdd, c1, hsh, hmn2, hsh2]
      refine callR_of (i_smoothed_ok hvis (by omega) (by omega) (by omega)) ?_
      rintro _ G1 ⟨e1, h, g1, g2, rfl, hc⟩
      have n1 := e1.n
      rw [← nowW_succ] at hc
      have hlen1 := nowW_len xs0 (t + 1)
      have hvis1 := hvis.ext e1
      simp (disch := first | assumption | omega | rfl | (refine id ?_; simp only [gxD, ne_eq, reduceCtorEq, not_false_eq_true, Nat.reduceAdd, *]; done) | (refine id ?_; simp only [gxD]; omega)) only [↓gxPre, gxPost, ↓reduceIte, Nat.reduceEqDiff, reduceCtorEq, Nat.reduceAdd, hvis1.len, hlen]
      refine loop_forH xs0.length (fun j => [.slice (some ⟨K.n, 0, none⟩) t t, .slice (some ⟨h, 0, none⟩) xs0.length xs0.length, .slice (some ⟨G1.n, 0, none⟩) j j, .int .i64 n, .int .i64 t, v, .int .i64 xs0.length, .int .i64 j])
        (fun j F => G1.n + 1 ≤ F.n ∧ Ext G1 F ∧ F.blk G1.n = some ⟨true, t_float32, ((List.range j).map fun j => fbin .sub .f32 ((nowW xs0 t).getD j 0) ((nowW xs0 (t + 1)).getD j 0)).map fv⟩) (by simp [hlen]) ⟨by simp only [new_n]; omega, .new _ _, new_self _ _⟩ ?_ ?_
      · rintro F ⟨nF, eF, hd⟩
        have hdet : F.blk G1.n = some ⟨true, t_float32, (detW xs0 t).map fv⟩ := hd
        have hcF := (eF.blk _ g2).trans hc
        have eGF := e1.trans eF
        have hbF := (eGF.blk K.n (by omega)).trans hb
        have p : OwN G.n F.n F t_float32 [.slice (some ⟨h, 0, none⟩) xs0.length xs0.length, .slice (some ⟨G1.n, 0, none⟩) xs0.length xs0.length] [(nowW xs0 (t + 1)).map fv, (detW xs0 t).map fv] :=
          OwN.two (.mk hcF (by rw [lMapN, hlen1]) g1 (by omega) (by omega)) (.mk hdet (by rw [lMapN, detW_len]) (by omega) (by omega) (by omega)) fun h h1 h2 => by simp only [hdl, Option.some.injEq] at h1 h2; omega
        have q := OwN_two (OwN_init ho) eGF (by omega) p
        obtain ⟨f1, f2, f3, f4⟩ := push_at (x := .slice (some ⟨G1.n, 0, none⟩) xs0.length xs0.length) (hE.trans eGF) hbF (Nat.le_refl _) (by omega) rfl
        have q2 : OwN K.n (F.n + 1) ((F.new ⟨true, t_sfloat32, [.slice (some ⟨G1.n, 0, none⟩) xs0.length xs0.length]⟩).put K.n ⟨true, t_sfloat32, vs ++ [.slice (some ⟨G1.n, 0, none⟩) xs0.length xs0.length]⟩) t_float32 _ _ :=
          OwN_put ((q.ext (.new _ ⟨true, t_sfloat32, [.slice (some ⟨G1.n, 0, none⟩) xs0.length xs0.length]⟩)).wide (Nat.le_refl _) (by omega)) ((new_old _ _ _ (by omega)).trans hbF) (by decide)
        simp (disch := first | assumption | omega | rfl | (refine id ?_; simp only [gxD, ne_eq, reduceCtorEq, not_false_eq_true, Nat.reduceAdd, *]; done) | (refine id ?_; simp only [gxD]; omega)) only [↓gxPre, gxPost, ↓reduceIte, Nat.reduceEqDiff, reduceCtorEq, Nat.reduceAdd, Int.lt_irrefl, hbF]
        refine ⟨(t + 1, .slice (some ⟨h, 0, none⟩) xs0.length xs0.length), by simp only; omega, by simp, by simp only; omega, by omega, f1, _, rfl, ?_⟩
        simp only [List.range_succ, List.map_append, List.map_cons, List.map_nil]
        exact q2
      · rintro j F hj ⟨nF, eF, hd⟩
        have hvF := hvis1.ext eF
        have hcF := (FS.own hc (by omega) hlen1).ext eF
        have htl : (((List.range j).map fun j => fbin .sub .f32 ((nowW xs0 t).getD j 0) ((nowW xs0 (t + 1)).getD j 0)).map fv).length = j := by simp
        have hm5 := fv_snoc' ((List.range j).map fun j => fbin .sub .f32 ((nowW xs0 t).getD j 0) ((nowW xs0 (t + 1)).getD j 0)) (fbin .sub .f32 ((nowW xs0 t).getD j 0) ((nowW xs0 (t + 1)).getD j 0))
        rw [range_snoc (fun j => fbin .sub .f32 ((nowW xs0 t).getD j 0) ((nowW xs0 (t + 1)).getD j 0))] at hm5
        obtain ⟨f1, f2, f3, f4⟩ := push_at eF hd (Nat.le_refl _) (by omega) hm5
        simp (disch := first | assumption | omega | rfl | (refine id ?_; simp only [gxD, ne_eq, reduceCtorEq, not_false_eq_true, Nat.reduceAdd, *]; done) | (refine id ?_; simp only [gxD]; omega)) only [↓gxPre, gxPost, ↓reduceIte, Nat.reduceEqDiff, reduceCtorEq, Nat.reduceAdd, hvF.ia, hvF.ld, hcF.ia, hcF.ld, hd]
        refine ⟨by simp, by omega, f1, by rw [hm5]⟩
    · have hte : t = n := by omega
      subst hte
      obtain ⟨f1, f2, f3, f4⟩ := push_at (x := v) hE hb (Nat.le_refl _) (by omega) rfl
      have ov := hv.one
      simp (disch := first | assumption | omega | rfl | (refine id ?_; simp only [gxD, ne_eq, reduceCtorEq, not_false_eq_true, Nat.reduceAdd, *]; done) | (refine id ?_; simp only [gxD]; omega)) only [↓gxPre, gxPost, ↓reduceIte, Nat.reduceEqDiff, reduceCtorEq, Nat.reduceAdd, c1, hb]
      have ow : OwS K.n (G.n + 1) ((G.new ⟨true, t_sfloat32, [v]⟩).put K.n ⟨true, t_sfloat32, vs ++ [v]⟩) t_sfloat32 t_float32 (.slice (some ⟨K.n, 0, none⟩) (t + 1) (t + 1)) ((frameW xs0 t).map (List.map fv)) := by
        refine ⟨vs ++ [v], .mk f2 (by simp [hlv]) (by first | omega | (simp only [new_n, put_n]; omega)) (by first | omega | (simp only [new_n, put_n]; omega)) (by first | omega | (simp only [new_n, put_n]; omega)), ?_⟩
        unfold frameW
        simp only [List.map_append, List.map_cons, List.map_nil]
        exact OwN_put ((ho.ext (.new _ ⟨true, t_sfloat32, [v]⟩)).wide (Nat.le_refl _) (by first | omega | (simp only [new_n, put_n]; omega))) ((new_old _ _ _ (by omega)).trans hb) (by decide)
      have htot := frameW_tot hl (show t ≤ 6 by omega)
      have hfl : (frameW xs0 t).length = t + 1 := by simp [frameW]
      have hO : frameOk xs0 t = (frameW xs0 t).all fun l => l.all finF := by simp only [frameOk, h1, h2, Bool.false_and, Bool.true_and, Bool.and_true, Bool.and_false, Bool.or_true, Bool.true_or, Bool.false_or, Bool.or_false, Bool.and_self, Bool.or_self, Int.toNat_natCast]
      rw [hO]
      try simp only [Int.toNat_natCast]
      generalize (G.new ⟨true, t_sfloat32, [v]⟩).put K.n ⟨true, t_sfloat32, vs ++ [v]⟩ = Z at f1 f2 f3 f4 ow ⊢
      refine callR_pure (i_finiteLists_ok ow.ss (by rw [hfl]; omega) fun j _ => totL_row htot j) (.inl rfl) ?_
      cases hf : (frameW xs0 t).all fun l => l.all finF
      · simp (disch := first | assumption | omega | rfl | (refine id ?_; simp only [gxD, ne_eq, reduceCtorEq, not_false_eq_true, Nat.reduceAdd, *]; done) | (refine id ?_; simp only [gxD]; omega)) only [↓gxPre, gxPost, ↓reduceIte, Nat.reduceEqDiff, reduceCtorEq, Nat.reduceAdd, listV]
        exact .no rfl (eK.trans f1)
      · simp (disch := first | assumption | omega | rfl | (refine id ?_; simp only [gxD, ne_eq, reduceCtorEq, not_false_eq_true, Nat.reduceAdd, *]; done) | (refine id ?_; simp only [gxD]; omega)) only [↓gxPre, gxPost, ↓reduceIte, Nat.reduceEqDiff, reduceCtorEq, Nat.reduceAdd, listV]
        exact .yes rfl (eK.trans f1) (ow.wide hKn (by omega)) htot
theorem eBsl_5 {ety : TypeId} {zero a b c d e : Value} {H : Heap} (ha : one a = true) (hb : one b = true) (hc : one c = true) (hd : one d = true) (he : one e = true) : eBsl ety 5 zero [(0, a), (1, b), (2, c), (3, d), (4, e)] H = some (.slice (some ⟨H.n, 0, none⟩) 5 5, H.new ⟨true, ety, [a, b, c, d, e]⟩) := by
  simp [eBsl, afillS, ha, hb, hc, hd, he, List.replicate]
def tapsW : List Nat := [1031798784, 1048576000, 1052770304, 1048576000, 1031798784]
theorem frame_no {xs : List Nat} {n t : Nat} (ht : t < n) (h : (detW xs t).all finF = false) : frameOk xs n = false := by
  have : ((frameW xs n).all fun l => l.all finF) = false := by
    rw [List.all_eq_false]
    exact ⟨detW xs t, List.mem_append_left _ (List.mem_map.2 ⟨t, List.mem_range.2 ht, rfl⟩), by rw [h]; decide⟩
  unfold frameOk
  rw [Int.toNat_natCast, this, Bool.and_false]
theorem frame_yes {xs : List Nat} {n : Nat} (h1 : isLongF xs = true) (h2 : within n 0 6 = true) (h : ∀ t, t < n → (detW xs t).all finF = true) (h' : (nowW xs n).all finF = true) : frameOk xs n = true := by
  have : ((frameW xs n).all fun l => l.all finF) = true := by
    rw [List.all_eq_true]
    intro l hl
    rcases List.mem_append.1 hl with hl | hl
    · obtain ⟨t, ht, rfl⟩ := List.mem_map.1 hl
      exact h t (List.mem_range.1 ht)
    · rw [List.mem_singleton] at hl
      rw [hl]; exact h'
  unfold frameOk
  rw [Int.toNat_natCast, this, h1, h2]; rfl
theorem s_FrameOf_law {H : Heap} {v0 : Value} {xs0 : List Nat} {a1 : Int} (A0 : AF H v0 xs0) (b1 : -9223372036854775808 ≤ a1 ∧ a1 ≤ 9223372036854775807) :
    ACalls Try.prog n_s_FrameOf [v0, .int .i64 a1] H fun r H' => GridR fv t_sfloat32 t_float32 H (frameOk xs0 a1) (frameW xs0 a1.toNat) r H' := by
  refine k_s_FrameOf.run rfl ?_
  unfold c_s_FrameOf
  have hA := A0.le
  simp (disch := first | assumption | omega | rfl | (refine id ?_; simp only [gxD, ne_eq, reduceCtorEq, not_false_eq_true, Nat.reduceAdd, *]; done) | (refine id ?_; simp only [gxD]; omega)) only [↓gxPre, gxPost, ↓reduceIte, Nat.reduceEqDiff, reduceCtorEq, Nat.reduceAdd]
  refine callR_pure (s_l03Long_ok A0.rd A0.le) (.inl rfl) ?_
  cases h1 : isLongF xs0
  · simp (disch := first | assumption | omega | rfl | (refine id ?_; simp only [gxD, ne_eq, reduceCtorEq, not_false_eq_true, Nat.reduceAdd, *]; done) | (refine id ?_; simp only [gxD]; omega)) only [↓gxPre, gxPost, ↓reduceIte, Nat.reduceEqDiff, reduceCtorEq, Nat.reduceAdd]
    exact .no (by simp only [frameOk, h1, Bool.false_and, Bool.true_and, Bool.and_true, Bool.and_false, Bool.or_true, Bool.true_or, Bool.false_or, Bool.or_false, Bool.and_self, Bool.or_self]) (.refl _)
  obtain ⟨hl, hl1⟩ := isLong_len h1
  simp (disch := first | assumption | omega | rfl | (refine id ?_; simp only [gxD, ne_eq, reduceCtorEq, not_false_eq_true, Nat.reduceAdd, *]; done) | (refine id ?_; simp only [gxD]; omega)) only [↓gxPre, gxPost, ↓reduceIte, Nat.reduceEqDiff, reduceCtorEq, Nat.reduceAdd]
  refine callR_pure s_l00In_ok (.inl rfl) ?_
  cases h2 : within a1 0 6
  · simp (disch := first | assumption | omega | rfl | (refine id ?_; simp only [gxD, ne_eq, reduceCtorEq, not_false_eq_true, Nat.reduceAdd, *]; done) | (refine id ?_; simp only [gxD]; omega)) only [↓gxPre, gxPost, ↓reduceIte, Nat.reduceEqDiff, reduceCtorEq, Nat.reduceAdd]
    exact .no (by simp only [frameOk, h2, Bool.false_and, Bool.true_and, Bool.and_true, Bool.and_false, Bool.or_true, Bool.true_or, Bool.false_or, Bool.or_false, Bool.and_self, Bool.or_self]) (.refl _)
  have hw2 := within_true.1 h2
  obtain ⟨n, rfl⟩ : ∃ n : Nat, a1 = n := ⟨a1.toNat, by omega⟩
  have hr := (A0.rd.ext (.new H ⟨true, t_float32, []⟩)).read
  simp (disch := first | assumption | omega | rfl | (refine id ?_; simp only [gxD, ne_eq, reduceCtorEq, not_false_eq_true, Nat.reduceAdd, *]; done) | (refine id ?_; simp only [gxD]; omega)) only [↓gxPre, gxPost, ↓reduceIte, Nat.reduceEqDiff, reduceCtorEq, Nat.reduceAdd, A0.rd.len, hr, List.nil_append, lMapN, eBsl_5]
  refine loop_st (σ := Nat × Value) (fun s => [.int .i64 ((n : Int) - s.1), .int .i64 xs0.length, s.2, .slice (some ⟨H.n + 1, 0, none⟩) s.1 s.1, .slice (some ⟨H.n + 1 + 1, 0, none⟩) 5 5, .int .i64 ((2 ^ s.1 : Nat) : Int)])
    (fun s G => s.1 ≤ n ∧ (∀ k, k < s.1 → (detW xs0 k).all finF = true) ∧ (nowW xs0 s.1).all finF = true ∧ H.n + 3 ≤ G.n ∧ Ext H G ∧ G.blk (H.n + 1 + 1) = some ⟨true, t_float32, tapsW.map fv⟩ ∧ ∃ vs, G.blk (H.n + 1) = some ⟨true, t_sfloat32, vs⟩ ∧ OwN H.n G.n G t_float32 (vs ++ [s.2]) (((List.range s.1).map (detW xs0) ++ [nowW xs0 s.1]).map (List.map fv)))
    (fun s => n - s.1) (0, .slice (some ⟨H.n, 0, none⟩) xs0.length xs0.length) (by simp)
    ⟨by omega, by intros; omega, isLong_fin h1, by simp only [new_n]; omega, ⟨by first | omega | (simp only [new_n, put_n]; omega) | (simp only [new_n, put_n] at *; omega), fun i hi => by simp (disch := first | assumption | omega | rfl | (refine id ?_; simp only [gxD, ne_eq, reduceCtorEq, not_false_eq_true, Nat.reduceAdd, *]; done) | (refine id ?_; simp only [gxD]; omega)) only [↓gxPre, gxPost, ↓reduceIte, Nat.reduceEqDiff, reduceCtorEq, Nat.reduceAdd, *]⟩, by simp (disch := first | assumption | omega | rfl | (refine id ?_; simp only [gxD, ne_eq, reduceCtorEq, not_false_eq_true, Nat.reduceAdd, *]; done) | (refine id ?_; simp only [gxD]; omega)) only [↓gxPre, gxPost, ↓reduceIte, Nat.reduceEqDiff, reduceCtorEq, Nat.reduceAdd]; rfl, [], by simp (disch := first | assumption | omega | rfl | (refine id ?_; simp only [gxD, ne_eq, reduceCtorEq, not_false_eq_true, Nat.reduceAdd, *]; done) | (refine id ?_; simp only [gxD]; omega)) only [↓gxPre, gxPost, ↓reduceIte, Nat.reduceEqDiff, reduceCtorEq, Nat.reduceAdd], ?_⟩ ?_
  · refine OwN.nil.snoc (ls := []) (vs := []) (.mk (by simp (disch := first | assumption | omega | rfl | (refine id ?_; simp only [gxD, ne_eq, reduceCtorEq, not_false_eq_true, Nat.reduceAdd, *]; done) | (refine id ?_; simp only [gxD]; omega)) only [↓gxPre, gxPost, ↓reduceIte, Nat.reduceEqDiff, reduceCtorEq, Nat.reduceAdd]; rfl) (by simp [nowW, foldI_zero]) (by first | omega | (simp only [new_n, put_n]; omega)) (by first | omega | (simp only [new_n, put_n]; omega)) (by first | omega | (simp only [new_n, put_n]; omega))) fun i h hi' => by simp at hi'
  · rintro ⟨t, v⟩ G ⟨ht, hdet, hnow, hG, hE, hw, vs, hb, ho⟩
    simp only [List.map_append, List.map_cons, List.map_nil] at ho
    simp only at ht hdet hnow ho ⊢
    have hlv : vs.length = t := by have := ho.1; simpa using this
    have hv := OwN_last ho
    have hvis := hv.fs
    have hlen := nowW_len xs0 t
    by_cases c1 : t < n
    · have c1' : (0 : Int) < (n : Int) - t := by omega
      have hp : (2 : Nat) ^ t ≤ 2 ^ 6 := Nat.pow_le_pow_right (by omega) (by omega)
      obtain ⟨D, hD⟩ : ∃ D, D = 2 ^ t := ⟨_, rfl⟩
      rw [← hD] at hp ⊢
      simp (disch := first | assumption | omega | rfl | (refine id ?_; simp only [gxD, ne_eq, reduceCtorEq, not_false_eq_true, Nat.reduceAdd, *]; done) | (refine id ?_; simp only [gxD]; omega)) only [↓gxPre, gxPost, ↓reduceIte, Nat.reduceEqDiff, reduceCtorEq, Nat.reduceAdd, c1']
      refine loop_forH xs0.length (fun j => [.int .i64 ((n : Int) - t), .int .i64 xs0.length, v, .slice (some ⟨H.n + 1, 0, none⟩) t t, .slice (some ⟨H.n + 1 + 1, 0, none⟩) 5 5, .int .i64 (D : Int), .slice (some ⟨G.n, 0, none⟩) j j, .slice (some ⟨G.n + 1, 0, none⟩) j j, .int .i64 j])
        (fun j F => G.n + 2 ≤ F.n ∧ Ext G F ∧ F.blk G.n = some ⟨true, t_float32, ((List.range j).map fun j => smoothK (nowW xs0 t) D j 5).map fv⟩ ∧ F.blk (G.n + 1) = some ⟨true, t_float32, ((List.range j).map fun j => fbin .sub .f32 ((nowW xs0 t).getD j 0) (smoothK (nowW xs0 t) D j 5)).map fv⟩) rfl
        ⟨by simp only [new_n]; omega, ⟨by first | omega | (simp only [new_n, put_n]; omega) | (simp only [new_n, put_n] at *; omega), fun i hi => by simp (disch := first | assumption | omega | rfl | (refine id ?_; simp only [gxD, ne_eq, reduceCtorEq, not_false_eq_true, Nat.reduceAdd, *]; done) | (refine id ?_; simp only [gxD]; omega)) only [↓gxPre, gxPost, ↓reduceIte, Nat.reduceEqDiff, reduceCtorEq, Nat.reduceAdd, *]⟩, by simp (disch := first | assumption | omega | rfl | (refine id ?_; simp only [gxD, ne_eq, reduceCtorEq, not_false_eq_true, Nat.reduceAdd, *]; done) | (refine id ?_; simp only [gxD]; omega)) only [↓gxPre, gxPost, ↓reduceIte, Nat.reduceEqDiff, reduceCtorEq, Nat.reduceAdd]; rfl, by simp (disch := first | assumption | omega | rfl | (refine id ?_; simp only [gxD, ne_eq, reduceCtorEq, not_false_eq_true, Nat.reduceAdd, *]; done) | (refine id ?_; simp only [gxD]; omega)) only [↓gxPre, gxPost, ↓reduceIte, Nat.reduceEqDiff, reduceCtorEq, Nat.reduceAdd]; rfl⟩ ?_ ?_
      · rintro F ⟨nF, eF, hc, hd⟩
        have hnow1 : ((List.range xs0.length).map fun j => smoothK (nowW xs0 t) D j 5) = nowW xs0 (t + 1) := by rw [nowW_succ, smoothL, hlen, hD]
        have hdet1 : ((List.range xs0.length).map fun j => fbin .sub .f32 ((nowW xs0 t).getD j 0) (smoothK (nowW xs0 t) D j 5)) = detW xs0 t := by
          unfold detW
          refine List.map_congr_left fun j hj => ?_
          rw [← hnow1, getD_range_map (List.mem_range.1 hj)]
        rw [hnow1] at hc
        rw [hdet1] at hd
        have l1 := nowW_len xs0 (t + 1)
        have l2 := detW_len xs0 t
        simp (disch := first | assumption | omega | rfl | (refine id ?_; simp only [gxD, ne_eq, reduceCtorEq, not_false_eq_true, Nat.reduceAdd, *]; done) | (refine id ?_; simp only [gxD]; omega)) only [↓gxPre, gxPost, ↓reduceIte, Nat.reduceEqDiff, reduceCtorEq, Nat.reduceAdd, Int.lt_irrefl]
        refine callR_pure (s_l02Finite_ok (FS.own hd (by omega) l2) (by omega)) (.inl rfl) ?_
        cases hf : (detW xs0 t).all finF
        · simp (disch := first | assumption | omega | rfl | (refine id ?_; simp only [gxD, ne_eq, reduceCtorEq, not_false_eq_true, Nat.reduceAdd, *]; done) | (refine id ?_; simp only [gxD]; omega)) only [↓gxPre, gxPost, ↓reduceIte, Nat.reduceEqDiff, reduceCtorEq, Nat.reduceAdd]
          exact .no (frame_no c1 hf) (hE.trans eF)
        have hf2 := det_fin hnow hf
        simp (disch := first | assumption | omega | rfl | (refine id ?_; simp only [gxD, ne_eq, reduceCtorEq, not_false_eq_true, Nat.reduceAdd, *]; done) | (refine id ?_; simp only [gxD]; omega)) only [↓gxPre, gxPost, ↓reduceIte, Nat.reduceEqDiff, reduceCtorEq, Nat.reduceAdd]
        refine callR_pure (s_l02Finite_ok (FS.own hc (by omega) l1) (by omega)) (.inl rfl) ?_
        rw [hf2]
        have hbF := (eF.blk (H.n + 1) (by omega)).trans hb
        have hwF := (eF.blk _ (by omega)).trans hw
        have p : OwN G.n F.n F t_float32 [.slice (some ⟨G.n, 0, none⟩) xs0.length xs0.length, .slice (some ⟨G.n + 1, 0, none⟩) xs0.length xs0.length] [(nowW xs0 (t + 1)).map fv, (detW xs0 t).map fv] :=
          OwN.two (.mk hc (by rw [lMapN, l1]) (by omega) (by omega) (by omega)) (.mk hd (by rw [lMapN, l2]) (by omega) (by omega) (by omega)) fun h h1 h2 => by simp only [hdl, Option.some.injEq] at h1 h2; omega
        have q := OwN_two (OwN_init ho) eF (by omega) p
        obtain ⟨f1, f2, f3, f4⟩ := push_at (x := .slice (some ⟨G.n + 1, 0, none⟩) xs0.length xs0.length) (hE.trans eF) hbF (by omega) (by omega) rfl
        have q2 : OwN H.n (F.n + 1) ((F.new ⟨true, t_sfloat32, [.slice (some ⟨G.n + 1, 0, none⟩) xs0.length xs0.length]⟩).put (H.n + 1) ⟨true, t_sfloat32, vs ++ [.slice (some ⟨G.n + 1, 0, none⟩) xs0.length xs0.length]⟩) t_float32 _ _ :=
          OwN_put ((q.ext (.new _ ⟨true, t_sfloat32, [.slice (some ⟨G.n + 1, 0, none⟩) xs0.length xs0.length]⟩)).wide (Nat.le_refl _) (by omega)) ((new_old _ _ _ (by omega)).trans hbF) (by decide)
        have hpow : (D : Int) * 2 = ((2 ^ (t + 1) : Nat) : Int) := by rw [Nat.pow_succ, ← hD]; omega
        simp (disch := first | assumption | omega | rfl | (refine id ?_; simp only [gxD, ne_eq, reduceCtorEq, not_false_eq_true, Nat.reduceAdd, *]; done) | (refine id ?_; simp only [gxD]; omega)) only [↓gxPre, gxPost, ↓reduceIte, Nat.reduceEqDiff, reduceCtorEq, Nat.reduceAdd, hbF, hpow]
        refine ⟨(t + 1, .slice (some ⟨G.n, 0, none⟩) xs0.length xs0.length), by simp only; omega, by simp; omega, by simp only; omega, fun k hk => ?_, hf2, by omega, f1, by first | exact hwF | exact (f4 _ (by omega) (by omega)).trans hwF, _, rfl, ?_⟩
        · by_cases hkt : k = t
          · subst hkt; exact hf
          · exact hdet k (by simp only at hk; omega)
        · simp only [List.range_succ, List.map_append, List.map_cons, List.map_nil]
          exact q2
      · rintro j F hj ⟨nF, eF, hc, hd⟩
        have hvF := hvis.ext eF
        have hwF := (eF.blk _ (by omega)).trans hw
        have hwf := FS.own (xs := tapsW) hwF (by omega) rfl
        simp (disch := first | assumption | omega | rfl | (refine id ?_; simp only [gxD, ne_eq, reduceCtorEq, not_false_eq_true, Nat.reduceAdd, *]; done) | (refine id ?_; simp only [gxD]; omega)) only [↓gxPre, gxPost, ↓reduceIte, Nat.reduceEqDiff, reduceCtorEq, Nat.reduceAdd]
        refine loop_for 5 (fun k => [.int .i64 ((n : Int) - t), .int .i64 xs0.length, v, .slice (some ⟨H.n + 1, 0, none⟩) t t, .slice (some ⟨H.n + 1 + 1, 0, none⟩) 5 5, .int .i64 (D : Int), .slice (some ⟨G.n, 0, none⟩) j j, .slice (some ⟨G.n + 1, 0, none⟩) j j, .int .i64 j, .float .f32 (smoothK (nowW xs0 t) D j k), .int .i64 5, .int .i64 k]) (by simp [smoothK, foldI_zero]) ?_ ?_
        · have ht1 : (((List.range j).map fun j => smoothK (nowW xs0 t) D j 5).map fv).length = j := by simp
          have ht2 : (((List.range j).map fun j => fbin .sub .f32 ((nowW xs0 t).getD j 0) (smoothK (nowW xs0 t) D j 5)).map fv).length = j := by simp
          have m1 := fv_snoc' ((List.range j).map fun j => smoothK (nowW xs0 t) D j 5) (smoothK (nowW xs0 t) D j 5)
          rw [range_snoc (fun j => smoothK (nowW xs0 t) D j 5)] at m1
          have m2 := fv_snoc' ((List.range j).map fun j => fbin .sub .f32 ((nowW xs0 t).getD j 0) (smoothK (nowW xs0 t) D j 5)) (fbin .sub .f32 ((nowW xs0 t).getD j 0) (smoothK (nowW xs0 t) D j 5))
          rw [range_snoc (fun j => fbin .sub .f32 ((nowW xs0 t).getD j 0) (smoothK (nowW xs0 t) D j 5))] at m2
          obtain ⟨f1, f2, f3, f4⟩ := push_at eF hc (Nat.le_refl _) (by omega) m1
          obtain ⟨g1, g2, g3, g4⟩ := push_at f1 ((f4 (G.n + 1) (by omega) (by omega)).trans hd) (by omega) (by rw [f3]; omega) m2
          have hv2 := hvis.ext f1
          simp (disch := first | assumption | omega | rfl | (refine id ?_; simp only [gxD, ne_eq, reduceCtorEq, not_false_eq_true, Nat.reduceAdd, *]; done) | (refine id ?_; simp only [gxD]; omega)) only [↓gxPre, gxPost, ↓reduceIte, Nat.reduceEqDiff, reduceCtorEq, Nat.reduceAdd, Int.lt_irrefl, hc, hd, hv2.ia, hv2.ld, rd1_at]
          exact ⟨by simp, by omega, g1, by rw [m1], by rw [m2]⟩
        · intro k hk
          have hb : -128 ≤ ((k : Int) - 2) * (D : Int) ∧ ((k : Int) - 2) * (D : Int) ≤ 128 := by
            have : k = 0 ∨ k = 1 ∨ k = 2 ∨ k = 3 ∨ k = 4 := by omega
            rcases this with rfl | rfl | rfl | rfl | rfl
            all_goals omega
          have hs : smoothK (nowW xs0 t) D j (k + 1) = fbin .add .f32 (smoothK (nowW xs0 t) D j k) (fbin .mul .f32 ((nowW xs0 t).getD (mirF (xs0.length : Int) ((j : Int) + ((k : Int) - 2) * (D : Int))).toNat 0) (tapsW.getD k 0)) := by
            simp only [smoothK, foldI_succ, atF, hlen]
            rfl
          rw [hs]
          have hm5 : IntKind.wrap .i64 (((k : Int) - 2) * (D : Int)) = ((k : Int) - 2) * (D : Int) := w64 _ (by omega) (by omega)
          obtain ⟨E, hE5⟩ : ∃ E, E = ((k : Int) - 2) * (D : Int) := ⟨_, rfl⟩
          rw [← hE5] at hb hm5 ⊢
          have hm6 : ((k : Int) - 2) * (D : Int) = E := hE5.symm
          have hmr := mir_range (n := (xs0.length : Int)) (i := (j : Int) + E) (by omega)
          have hl5 : (tapsW.map fv).length = 5 := rfl
          have hct : (tapsW.map fv)[k]? = some (.float .f32 (tapsW.getD k 0)) := by
            have : k < tapsW.length := hk
            simp [List.getD_eq_getElem?_getD, this, fv]
          simp (disch := first | assumption | omega | rfl | (refine id ?_; simp only [gxD, ne_eq, reduceCtorEq, not_false_eq_true, Nat.reduceAdd, *]; done) | (refine id ?_; simp only [gxD]; omega)) only [↓gxPre, gxPost, ↓reduceIte, Nat.reduceEqDiff, reduceCtorEq, Nat.reduceAdd, hwF, hct, hm6, hm5]
          refine callR_pure (s_l03Mirror_ok (n := (xs0.length : Int)) (i := (j : Int) + E) (by omega) (by omega) (by omega) (by omega)) (by first | exact .inl rfl | (simp (disch := first | assumption | omega | rfl | (refine id ?_; simp only [gxD, ne_eq, reduceCtorEq, not_false_eq_true, Nat.reduceAdd, *]; done) | (refine id ?_; simp only [gxD]; omega)) only [↓gxPre, gxPost, ↓reduceIte, Nat.reduceEqDiff, reduceCtorEq, Nat.reduceAdd, hwF, hct]; done) | (simp (disch := first | assumption | omega | rfl | (refine id ?_; simp only [gxD, ne_eq, reduceCtorEq, not_false_eq_true, Nat.reduceAdd, *]; done) | (refine id ?_; simp only [gxD]; omega)) only [↓gxPre, gxPost, ↓reduceIte, Nat.reduceEqDiff, reduceCtorEq, Nat.reduceAdd, hwF, hct, *]; done)) ?_
          simp (disch := first | assumption | omega | rfl | (refine id ?_; simp only [gxD, ne_eq, reduceCtorEq, not_false_eq_true, Nat.reduceAdd, *]; done) | (refine id ?_; simp only [gxD]; omega)) only [↓gxPre, gxPost, ↓reduceIte, Nat.reduceEqDiff, reduceCtorEq, Nat.reduceAdd, hwF, hct, hvF.ia, hvF.ld]
          simp
    · have hte : t = n := by omega
      subst hte
      have c1' : ¬ (0 : Int) < (t : Int) - t := by omega
      obtain ⟨f1, f2, f3, f4⟩ := push_at (x := v) hE hb (by omega) (by omega) rfl
      have ov := hv.one
      simp (disch := first | assumption | omega | rfl | (refine id ?_; simp only [gxD, ne_eq, reduceCtorEq, not_false_eq_true, Nat.reduceAdd, *]; done) | (refine id ?_; simp only [gxD]; omega)) only [↓gxPre, gxPost, ↓reduceIte, Nat.reduceEqDiff, reduceCtorEq, Nat.reduceAdd, c1', hb]
      have htot := frameW_tot hl (show t ≤ 6 by omega)
      refine .yes (frame_yes h1 h2 hdet hnow) f1 ⟨vs ++ [v], .mk f2 (by simp [hlv]) (by first | omega | (simp only [new_n, put_n]; omega)) (by first | omega | (simp only [new_n, put_n]; omega)) (by first | omega | (simp only [new_n, put_n]; omega)), ?_⟩ (by simpa using htot)
      try simp only [Int.toNat_natCast]
      unfold frameW
      simp only [List.map_append, List.map_cons, List.map_nil]
      exact OwN_put ((ho.ext (.new _ ⟨true, t_sfloat32, [v]⟩)).wide (Nat.le_refl _) (by first | omega | (simp only [new_n, put_n]; omega))) ((new_old _ _ _ (by omega)).trans hb) (by decide)
end Go.Proofs.Ytkojmlpaamdhoac
