/- What the functions of the program do: contracts that are proved. -/
import Derived.Test.YtkojmlpaamdhoacQuietPictureXCToXT
namespace Go.Proofs.Ytkojmlpaamdhoac
open Go.Gx
set_option maxRecDepth 100000
set_option linter.unusedSimpArgs false
set_option linter.unusedVariables false

/-- The rest behind two blocks that were made in any order, with a loop ahead: shown once. -/
theorem bothLoop {P : Program} {A : Nat → Value → Heap → Prop} {live : List Nat} {vs : Nat → Value → List Value} {a : ACode} {k : List AItem} {R : Post} {X : Prop}
    (main : (∀ (p : Nat) (y : Value) (G : Heap), A p y G → loopR P live (vs p y) a k R G) → X) (kk : ∀ (p : Nat) (y : Value) (G : Heap), A p y G → loopR P live (vs p y) a k R G) : X := main kk
def fineF (val : Nat → Nat) (a c l : Int) (xs : List Nat) (j : Nat) : Nat := if coarseF a c l j = true then xs.getD j 0 else val (xs.getD j 0)
def fineL (val : Nat → Nat) (a c l : Int) (xs : List Nat) : List Nat := (List.range xs.length).map (fineF val a c l xs)
def fineN (hit : Nat → Bool) (a c l : Int) (xs : List Nat) : Nat → Int
  | 0 => 0
  | i + 1 => if coarseF a c l i = true then fineN hit a c l xs i else fineN hit a c l xs i + if hit (xs.getD i 0) = true then 1 else 0
theorem fineN_b (hit : Nat → Bool) (a c l : Int) (xs : List Nat) : ∀ i, 0 ≤ fineN hit a c l xs i ∧ fineN hit a c l xs i ≤ i
  | 0 => by simp [fineN]
  | i + 1 => by
    have := fineN_b hit a c l xs i
    simp only [fineN]
    split
    · omega
    · split <;> omega
theorem updF_same {g : Nat → Nat} {xs : List Nat} {i : Nat} (h : g i = xs.getD i 0) : updF g xs (i + 1) = updF g xs i := by
  refine list_ext_getD 0 (by simp [updF]) fun j hj => ?_
  have hj' : j < xs.length := by simpa [updF] using hj
  rw [updF, updF, getD_range_map hj', getD_range_map hj']
  by_cases hji : j = i
  · subst hji
    rw [if_pos (by omega), if_neg (by omega), h]
  · by_cases h2 : j < i
    · rw [if_pos h2, if_pos (by omega)]
    · rw [if_neg h2, if_neg (by omega)]
def fineOk (val : Nat → Nat) (a c l : Int) (xs : List Nat) : Bool := validPicF a c xs && within l 1 4 && validPicF a c (fineL val a c l xs)
theorem i_finesBy_ok {H0 H : Heap} {a c l : Int} {v : Value} {xs : List Nat} {g : FuncId} {pre post : Array Value} {val : Nat → Nat} {hit : Nat → Bool} {q : Nat} {J : Int → Heap → Prop}
    (hv : FS H0 v xs) (hn : xs.length ≤ 2 ^ 40) (hw : W32 xs) (e0 : Ext H0 H) (hq : H0.n ≤ q) (hq' : q < H.n) (hJ0 : J 0 H)
    (hJs : ∀ s F F', J s F → F.n ≤ F'.n → (∀ i, i < H.n → F'.blk i = F.blk i) → J s F')
    (hg : ∀ s F x, 0 ≤ s → s ≤ 256 → x < 2 ^ 32 → J s F → H.n ≤ F.n → ACalls Try.prog g (pre.toList ++ [.float .f32 x] ++ post.toList) F fun r F' => r = .float .f32 (val x) ∧ F'.n = F.n ∧ (∀ i, i ≠ q → F'.blk i = F.blk i) ∧ J (s + if hit x = true then 1 else 0) F') :
    ACalls Try.prog n_i_finesBy [.agg #[.int .i64 a, .int .i64 c, v], .int .i64 l, .func (.func g) pre post] H fun r F =>
      Ext H0 F ∧ H.n ≤ F.n ∧ (∀ i, i < H.n → i ≠ q → F.blk i = H.blk i) ∧ (fineOk val a c l xs = true → J (fineN hit a c l xs xs.length) F) ∧
      ∃ u, r = .tuple #[.agg #[.int .i64 (selI (fineOk val a c l xs) a), .int .i64 (selI (fineOk val a c l xs) c), u], .bool (fineOk val a c l xs)] ∧
        OwL H.n F.n F t_float32 u ((selL (fineOk val a c l xs) (fineL val a c l xs)).map fv) ∧ (selL (fineOk val a c l xs) (fineL val a c l xs)).length ≤ 2 ^ 40 := by
  refine k_i_finesBy.run rfl ?_
  unfold c_i_finesBy
  have ov := hv.one
  simp (disch := first | assumption | omega | rfl | (refine id ?_; simp only [gxD, ne_eq, reduceCtorEq, not_false_eq_true, Nat.reduceAdd, *]; done) | (refine id ?_; simp only [gxD]; omega)) only [↓gxPre, gxPost, ↓reduceIte, Nat.reduceEqDiff, reduceCtorEq, Nat.reduceAdd]
  have eK : Ext H ((H.new ⟨true, t_Picture, [.int .i64 a, .int .i64 c, v]⟩).new ⟨true, t_Picture, [.int .i64 0, .int .i64 0, .slice none 0 0]⟩) := ⟨by first | omega | (simp only [new_n, put_n]; omega) | (simp only [new_n, put_n] at *; omega), fun i hi => by simp (disch := first | assumption | omega | rfl | (refine id ?_; simp only [gxD, ne_eq, reduceCtorEq, not_false_eq_true, Nat.reduceAdd, *]; done) | (refine id ?_; simp only [gxD]; omega)) only [↓gxPre, gxPost, ↓reduceIte, Nat.reduceEqDiff, reduceCtorEq, Nat.reduceAdd, *]⟩
  have g1 : ((H.new ⟨true, t_Picture, [.int .i64 a, .int .i64 c, v]⟩).new ⟨true, t_Picture, [.int .i64 0, .int .i64 0, .slice none 0 0]⟩).blk H.n = some ⟨true, t_Picture, [.int .i64 a, .int .i64 c, v]⟩ := by simp (disch := first | assumption | omega | rfl | (refine id ?_; simp only [gxD, ne_eq, reduceCtorEq, not_false_eq_true, Nat.reduceAdd, *]; done) | (refine id ?_; simp only [gxD]; omega)) only [↓gxPre, gxPost, ↓reduceIte, Nat.reduceEqDiff, reduceCtorEq, Nat.reduceAdd]
  have g2 : ((H.new ⟨true, t_Picture, [.int .i64 a, .int .i64 c, v]⟩).new ⟨true, t_Picture, [.int .i64 0, .int .i64 0, .slice none 0 0]⟩).blk (H.n + 1) = some ⟨true, t_Picture, [.int .i64 0, .int .i64 0, .slice none 0 0]⟩ := by simp (disch := first | assumption | omega | rfl | (refine id ?_; simp only [gxD, ne_eq, reduceCtorEq, not_false_eq_true, Nat.reduceAdd, *]; done) | (refine id ?_; simp only [gxD]; omega)) only [↓gxPre, gxPost, ↓reduceIte, Nat.reduceEqDiff, reduceCtorEq, Nat.reduceAdd]
  have nK : ((H.new ⟨true, t_Picture, [.int .i64 a, .int .i64 c, v]⟩).new ⟨true, t_Picture, [.int .i64 0, .int .i64 0, .slice none 0 0]⟩).n = H.n + 2 := by simp only [new_n]
  generalize ((H.new ⟨true, t_Picture, [.int .i64 a, .int .i64 c, v]⟩).new ⟨true, t_Picture, [.int .i64 0, .int .i64 0, .slice none 0 0]⟩) = K at eK g1 g2 nK ⊢
  refine callR_ext (i_ValidPicture_ok (hv.ext (e0.trans eK)) hn) ?_
  intro G n1 bb1
  have e1 : Ext H G := eK.trans ⟨n1, bb1⟩
  replace g1 := (bb1 _ (by omega)).trans g1
  replace g2 := (bb1 _ (by omega)).trans g2
  have hno : fineOk val a c l xs = false → ∀ b, (Ext H0 (G.put (H.n + 1) b) ∧ H.n ≤ (G.put (H.n + 1) b).n ∧ (∀ i, i < H.n → i ≠ q → (G.put (H.n + 1) b).blk i = H.blk i) ∧ (fineOk val a c l xs = true → J (fineN hit a c l xs xs.length) (G.put (H.n + 1) b)) ∧
      ∃ u, Value.tuple #[.agg #[.int .i64 0, .int .i64 0, .slice none 0 0], .bool false] = .tuple #[.agg #[.int .i64 (selI (fineOk val a c l xs) a), .int .i64 (selI (fineOk val a c l xs) c), u], .bool (fineOk val a c l xs)] ∧
        OwL H.n (G.put (H.n + 1) b).n (G.put (H.n + 1) b) t_float32 u ((selL (fineOk val a c l xs) (fineL val a c l xs)).map fv) ∧ (selL (fineOk val a c l xs) (fineL val a c l xs)).length ≤ 2 ^ 40) := fun h b => by
    have e2 : Ext H (G.put (H.n + 1) b) := e1.put (by omega) b
    rw [h]
    exact ⟨e0.trans e2, e2.n, fun i hi _ => e2.blk i hi, (by simp), _, rfl, .nil, by simp [selL]⟩
  cases h1 : validPicF a c xs
  · simp (disch := first | assumption | omega | rfl | (refine id ?_; simp only [gxD, ne_eq, reduceCtorEq, not_false_eq_true, Nat.reduceAdd, *]; done) | (refine id ?_; simp only [gxD]; omega)) only [↓gxPre, gxPost, ↓reduceIte, Nat.reduceEqDiff, reduceCtorEq, Nat.reduceAdd, g2]
    exact hno (by simp only [fineOk, h1, Bool.false_and, Bool.true_and, Bool.and_true, Bool.and_false, Bool.or_true, Bool.true_or, Bool.false_or, Bool.or_false, Bool.and_self, Bool.or_self]) _
  simp (disch := first | assumption | omega | rfl | (refine id ?_; simp only [gxD, ne_eq, reduceCtorEq, not_false_eq_true, Nat.reduceAdd, *]; done) | (refine id ?_; simp only [gxD]; omega)) only [↓gxPre, gxPost, ↓reduceIte, Nat.reduceEqDiff, reduceCtorEq, Nat.reduceAdd]
  refine callR_pure i_areLevels_ok (.inl rfl) ?_
  cases h2 : within l 1 4
  · simp (disch := first | assumption | omega | rfl | (refine id ?_; simp only [gxD, ne_eq, reduceCtorEq, not_false_eq_true, Nat.reduceAdd, *]; done) | (refine id ?_; simp only [gxD]; omega)) only [↓gxPre, gxPost, ↓reduceIte, Nat.reduceEqDiff, reduceCtorEq, Nat.reduceAdd, g2]
    exact hno (by simp only [fineOk, h2, Bool.false_and, Bool.true_and, Bool.and_true, Bool.and_false, Bool.or_true, Bool.true_or, Bool.false_or, Bool.or_false, Bool.and_self, Bool.or_self]) _
  simp (disch := first | assumption | omega | rfl | (refine id ?_; simp only [gxD, ne_eq, reduceCtorEq, not_false_eq_true, Nat.reduceAdd, *]; done) | (refine id ?_; simp only [gxD]; omega)) only [↓gxPre, gxPost, ↓reduceIte, Nat.reduceEqDiff, reduceCtorEq, Nat.reduceAdd]
  clear hno
  obtain ⟨m, n, rfl, rfl, q1, q2, q3, q4, q5, q6⟩ := valid_sides h1
  have hle := valid_len h1
  have nG := e1.n
  have nG2 : H.n + 2 ≤ G.n := by omega
  apply bothLoop (A := fun p y F => G.n ≤ p ∧ p < F.n ∧ Ext G F ∧ F.blk p = some ⟨true, t_Picture, [.int .i64 m, .int .i64 n, y]⟩ ∧ ∃ hy, y = .slice (some ⟨hy, 0, none⟩) xs.length xs.length ∧ G.n ≤ hy ∧ hy < F.n ∧ F.blk hy = some ⟨true, t_float32, xs.map fv⟩)
    (vs := fun p y => [.int .i64 l, .func (.func g) pre post, .pointer (some ⟨H.n, 0, some 3⟩), .pointer (some ⟨H.n + 1, 0, some 3⟩), .pointer (some ⟨p, 0, some 3⟩), y, .int .i64 xs.length, .int .i64 0])
  case main =>
    intro key
    refine bothR_mk ?_ ?_
    · simp (disch := first | assumption | omega | rfl | (refine id ?_; simp only [gxD, ne_eq, reduceCtorEq, not_false_eq_true, Nat.reduceAdd, *]; done) | (refine id ?_; simp only [gxD]; omega)) only [↓gxPre, gxPost, ↓reduceIte, Nat.reduceEqDiff, reduceCtorEq, Nat.reduceAdd, g1]
      refine callR_of (i_copyOf_ex (hv.ext (e0.trans e1)) hn) ?_
      rintro _ M ⟨eM, rfl, nM, bM⟩
      have g1M := (eM.blk _ (by omega)).trans g1
      obtain ⟨p, hp⟩ : ∃ p, p = M.n := ⟨_, rfl⟩
      simp (disch := first | assumption | omega | rfl | (refine id ?_; simp only [gxD, ne_eq, reduceCtorEq, not_false_eq_true, Nat.reduceAdd, *]; done) | (refine id ?_; simp only [gxD]; omega)) only [↓gxPre, gxPost, ↓reduceIte, Nat.reduceEqDiff, reduceCtorEq, Nat.reduceAdd, g1M]
      rw [← hp]
      have bp : (M.new ⟨true, t_Picture, [.int .i64 m, .int .i64 n, .slice (some ⟨G.n, 0, none⟩) xs.length xs.length]⟩).blk p = some ⟨true, t_Picture, [.int .i64 m, .int .i64 n, .slice (some ⟨G.n, 0, none⟩) xs.length xs.length]⟩ := by rw [hp]; exact new_self _ _
      exact key p _ (M.new ⟨true, t_Picture, [.int .i64 m, .int .i64 n, .slice (some ⟨G.n, 0, none⟩) xs.length xs.length]⟩) ⟨by omega, by simp only [new_n]; omega, eM.trans (.new M _), bp, G.n, rfl, Nat.le_refl _, by simp only [new_n]; omega, (new_old _ _ _ (by omega)).trans bM⟩
    · obtain ⟨p, hp⟩ : ∃ p, p = G.n := ⟨_, rfl⟩
      simp (disch := first | assumption | omega | rfl | (refine id ?_; simp only [gxD, ne_eq, reduceCtorEq, not_false_eq_true, Nat.reduceAdd, *]; done) | (refine id ?_; simp only [gxD]; omega)) only [↓gxPre, gxPost, ↓reduceIte, Nat.reduceEqDiff, reduceCtorEq, Nat.reduceAdd, g1]
      rw [← hp]
      have eN : Ext G (G.new ⟨true, t_Picture, [.int .i64 0, .int .i64 0, .slice none 0 0]⟩) := .new G _
      refine callR_of (i_copyOf_ex (hv.ext (e0.trans (e1.trans eN))) hn) ?_
      rintro _ M ⟨eM, rfl, nM, bM⟩
      simp only [new_n] at nM bM
      have g1M := ((eN.trans eM).blk _ (by omega)).trans g1
      have bpM := (eM.blk G.n (by simp only [new_n]; omega)).trans (new_self _ _)
      rw [← hp] at bpM
      simp (disch := first | assumption | omega | rfl | (refine id ?_; simp only [gxD, ne_eq, reduceCtorEq, not_false_eq_true, Nat.reduceAdd, *]; done) | (refine id ?_; simp only [gxD]; omega)) only [↓gxPre, gxPost, ↓reduceIte, Nat.reduceEqDiff, reduceCtorEq, Nat.reduceAdd, g1M, bpM]
      exact key p _ (M.put p ⟨true, t_Picture, [.int .i64 m, .int .i64 n, .slice (some ⟨G.n + 1, 0, none⟩) xs.length xs.length]⟩) ⟨by omega, by simp only [put_n]; omega, (eN.trans eM).put (by omega) _, hput_self _ _ _, G.n + 1, rfl, by omega, by simp only [put_n]; omega, (hput_other _ _ _ _ (by omega)).trans bM⟩
  case kk =>
    rintro p y F0 ⟨k1, k2, k3, k4, hy, rfl, k5, k6, k7⟩
    have hyp : hy ≠ p := fun h => by
      rw [h, k4] at k7
      have : t_Picture = t_float32 := congrArg Blk.ty (Option.some.inj k7)
      exact absurd this (by decide)
    have eF0 := e1.trans k3
    have nF0 := k3.n
    refine loop_forH xs.length (fun i => [.int .i64 l, .func (.func g) pre post, .pointer (some ⟨H.n, 0, some 3⟩), .pointer (some ⟨H.n + 1, 0, some 3⟩), .pointer (some ⟨p, 0, some 3⟩), .slice (some ⟨hy, 0, none⟩) xs.length xs.length, .int .i64 xs.length, .int .i64 i])
      (fun i F => F0.n ≤ F.n ∧ Ext H0 F ∧ (∀ j, j < H.n → j ≠ q → F.blk j = H.blk j) ∧ F.blk H.n = some ⟨true, t_Picture, [.int .i64 m, .int .i64 n, v]⟩ ∧ F.blk (H.n + 1) = some ⟨true, t_Picture, [.int .i64 0, .int .i64 0, .slice none 0 0]⟩ ∧ F.blk p = some ⟨true, t_Picture, [.int .i64 m, .int .i64 n, .slice (some ⟨hy, 0, none⟩) xs.length xs.length]⟩ ∧
        F.blk hy = some ⟨true, t_float32, (updF (fineF val m n l xs) xs i).map fv⟩ ∧ J (fineN hit m n l xs i) F) rfl
      ⟨Nat.le_refl _, e0.trans eF0, fun j hj _ => eF0.blk j hj, (k3.blk _ (by omega)).trans g1, (k3.blk _ (by omega)).trans g2, k4, by rw [updF_zero]; exact k7, hJs 0 H F0 hJ0 eF0.n fun j hj => eF0.blk j hj⟩ ?_ ?_
    · rintro F ⟨f1, f2, f3, f4, f5, f6, f7, f8⟩
      rw [updF_all] at f7
      have hll : (fineL val m n l xs).length = xs.length := by simp [fineL]
      have f7' : F.blk hy = some ⟨true, t_float32, (fineL val m n l xs).map fv⟩ := f7
      simp (disch := first | assumption | omega | rfl | (refine id ?_; simp only [gxD, ne_eq, reduceCtorEq, not_false_eq_true, Nat.reduceAdd, *]; done) | (refine id ?_; simp only [gxD]; omega)) only [↓gxPre, gxPost, ↓reduceIte, Nat.reduceEqDiff, reduceCtorEq, Nat.reduceAdd, Int.lt_irrefl, f6]
      refine callR_ext (i_validPicture_ok (xs := fineL val m n l xs) (FS.own f7' (by omega) hll) (by omega)) ?_
      intro M n2 bb2
      have eM : Ext F M := ⟨n2, bb2⟩
      have f5M := (bb2 _ (by omega)).trans f5
      have f7M := (bb2 _ (by omega)).trans f7'
      have hO : fineOk val m n l xs = validPicF m n (fineL val m n l xs) := by simp only [fineOk, h1, h2, Bool.false_and, Bool.true_and, Bool.and_true, Bool.and_false, Bool.or_true, Bool.true_or, Bool.false_or, Bool.or_false, Bool.and_self, Bool.or_self]
      rw [hO]
      have hJM := hJs _ F M f8 n2 fun j hj => bb2 j (by omega)
      cases h3 : validPicF m n (fineL val m n l xs)
      · simp (disch := first | assumption | omega | rfl | (refine id ?_; simp only [gxD, ne_eq, reduceCtorEq, not_false_eq_true, Nat.reduceAdd, *]; done) | (refine id ?_; simp only [gxD]; omega)) only [↓gxPre, gxPost, ↓reduceIte, Nat.reduceEqDiff, reduceCtorEq, Nat.reduceAdd, picV, f5M]
        refine ⟨(f2.trans eM).put (by have := e0.n; omega) _, by first | omega | (simp only [put_n]; omega), fun j hj hne => ?_, by simp, _, rfl, .nil, by simp [selL]⟩
        rw [hput_other _ _ _ _ (by omega), bb2 j (by omega)]
        exact f3 j hj hne
      · simp (disch := first | assumption | omega | rfl | (refine id ?_; simp only [gxD, ne_eq, reduceCtorEq, not_false_eq_true, Nat.reduceAdd, *]; done) | (refine id ?_; simp only [gxD]; omega)) only [↓gxPre, gxPost, ↓reduceIte, Nat.reduceEqDiff, reduceCtorEq, Nat.reduceAdd, picV, f5M]
        refine ⟨(f2.trans eM).put (by have := e0.n; omega) _, by first | omega | (simp only [put_n]; omega), fun j hj hne => ?_, fun _ => hJs _ M _ hJM (by first | omega | (simp only [put_n]; omega)) fun j hj => hput_other _ _ _ _ (by omega), _, rfl, .mk ((hput_other _ _ _ _ (by omega)).trans f7M) (by rw [selL_t, lMapN, hll]) (by omega) (by first | omega | (simp only [put_n]; omega)) (by first | omega | (simp only [put_n]; omega)), by rw [selL_t, hll]; omega⟩
        rw [hput_other _ _ _ _ (by omega), bb2 j (by omega)]
        exact f3 j hj hne
    · rintro i F hi ⟨f1, f2, f3, f4, f5, f6, f7, f8⟩
      have hat := updF_at (g := fineF val m n l xs) hi
      have hml : ((updF (fineF val m n l xs) xs i).map fv).length = xs.length := by rw [lMapN, updF_length]
      simp (disch := first | assumption | omega | rfl | (refine id ?_; simp only [gxD, ne_eq, reduceCtorEq, not_false_eq_true, Nat.reduceAdd, *]; done) | (refine id ?_; simp only [gxD]; omega)) only [↓gxPre, gxPost, ↓reduceIte, Nat.reduceEqDiff, reduceCtorEq, Nat.reduceAdd, f4, f7, hat]
      refine callR_ext (i_isCoarse_ok (hv.ext f2) q1 q2 q4 h2 (by omega)) ?_
      intro M n2 bb2
      have eM : Ext F M := ⟨n2, bb2⟩
      have f4M := (bb2 _ (by omega)).trans f4
      have f5M := (bb2 _ (by omega)).trans f5
      have f6M := (bb2 _ (by omega)).trans f6
      have f7M := (bb2 _ (by omega)).trans f7
      have hJM := hJs _ F M f8 n2 fun j hj => bb2 j (by omega)
      have hkeep : ∀ j, j < H.n → j ≠ q → M.blk j = H.blk j := fun j hj hne => (bb2 j (by omega)).trans (f3 j hj hne)
      cases hc : coarseF m n l i
      rotate_left
      · have hs : updF (fineF val m n l xs) xs (i + 1) = updF (fineF val m n l xs) xs i := updF_same (by simp only [fineF, hc, if_true])
        have hN : fineN hit m n l xs (i + 1) = fineN hit m n l xs i := if_pos hc
        rw [hs, hN]
        simp (disch := first | assumption | omega | rfl | (refine id ?_; simp only [gxD, ne_eq, reduceCtorEq, not_false_eq_true, Nat.reduceAdd, *]; done) | (refine id ?_; simp only [gxD]; omega)) only [↓gxPre, gxPost, ↓reduceIte, Nat.reduceEqDiff, reduceCtorEq, Nat.reduceAdd]
        exact ⟨by simp, by omega, f2.trans eM, hkeep, f4M, f5M, f6M, f7M, hJM⟩
      · have hN : fineN hit m n l xs (i + 1) = fineN hit m n l xs i + if hit (xs.getD i 0) = true then 1 else 0 := if_neg (by rw [hc]; simp)
        have hfx : fineF val m n l xs i = val (xs.getD i 0) := if_neg (by rw [hc]; simp)
        have hb := fineN_b hit m n l xs i
        simp (disch := first | assumption | omega | rfl | (refine id ?_; simp only [gxD, ne_eq, reduceCtorEq, not_false_eq_true, Nat.reduceAdd, *]; done) | (refine id ?_; simp only [gxD]; omega)) only [↓gxPre, gxPost, ↓reduceIte, Nat.reduceEqDiff, reduceCtorEq, Nat.reduceAdd, f6M]
        refine callR_of (hg _ M _ hb.1 (by omega) (hw.get i) hJM (by omega)) ?_
        rintro _ E ⟨rfl, nE, bE, jE⟩
        have f4E := (bE _ (by omega)).trans f4M
        have f5E := (bE _ (by omega)).trans f5M
        have f6E := (bE _ (by omega)).trans f6M
        have f7E := (bE _ (by omega)).trans f7M
        have hset : (updF (fineF val m n l xs) xs i).set i (val (xs.getD i 0)) = updF (fineF val m n l xs) xs (i + 1) := by rw [← hfx]; exact updF_set
        simp (disch := first | assumption | omega | rfl | (refine id ?_; simp only [gxD, ne_eq, reduceCtorEq, not_false_eq_true, Nat.reduceAdd, *]; done) | (refine id ?_; simp only [gxD]; omega)) only [↓gxPre, gxPost, ↓reduceIte, Nat.reduceEqDiff, reduceCtorEq, Nat.reduceAdd, f6E, f7E]
        have eE : Ext H0 E := ⟨by have := e0.n; omega, fun j hj => (bE j (by omega)).trans ((f2.trans eM).blk j hj)⟩
        refine ⟨by simp, by omega, eE.put (by have := e0.n; omega) _, fun j hj hne => ?_, f4E, f5E, by rw [fv_set', hset], ?_⟩
        · rw [hput_other _ _ _ _ (by omega), bE j hne]
          exact hkeep j hj hne
        · rw [hN]
          exact hJs _ E _ jE (by first | omega | (simp only [put_n]; omega)) fun j hj => hput_other _ _ _ _ (by omega)
def PicNR (ty : TypeId) (H : Heap) (ok : Bool) (w h : Int) (xs : List Nat) (n : Int) (r : Value) (H' : Heap) : Prop :=
  Ext H H' ∧ ∃ v, r = .tuple #[.agg #[.int .i64 (selI ok w), .int .i64 (selI ok h), v], .int .i64 (selI ok n), .bool ok] ∧ OwL H.n H'.n H' ty v ((selL ok xs).map fv) ∧ (selL ok xs).length ≤ 2 ^ 40
theorem PicNR.no {ty : TypeId} {H H' : Heap} {ok : Bool} {w h : Int} {xs : List Nat} {n : Int} (hk : ok = false) (e : Ext H H') : PicNR ty H ok w h xs n (.tuple #[.agg #[.int .i64 0, .int .i64 0, .slice none 0 0], .int .i64 0, .bool false]) H' := by
  subst hk; exact ⟨e, _, rfl, .nil, by simp [selL]⟩
theorem PicNR.yes {ty : TypeId} {H H' : Heap} {ok : Bool} {w h : Int} {xs : List Nat} {n : Int} {v : Value} (hk : ok = true) (e : Ext H H') (o : OwL H.n H'.n H' ty v (xs.map fv)) (hl : xs.length ≤ 2 ^ 40) : PicNR ty H ok w h xs n (.tuple #[.agg #[.int .i64 w, .int .i64 h, v], .int .i64 n, .bool true]) H' := by
  subst hk; exact ⟨e, v, rfl, o, hl⟩
def quietH (lim x : Nat) : Bool := fcB .leq .f32 (sizeF x) lim
def quietV (lim x : Nat) : Nat := if quietH lim x = true then 0 else x
theorem quiet_fin {lim : Nat} {a c l : Int} {xs : List Nat} (h : xs.all finF = true) : (fineL (quietV lim) a c l xs).all finF = true := by
  rw [List.all_eq_true]
  intro x hx
  obtain ⟨j, hj, rfl⟩ := List.mem_map.1 hx
  have hj' := (List.all_eq_true.1 h) (xs.getD j 0) (by
    have := List.mem_range.1 hj
    rw [List.getD_eq_getElem?_getD, List.getElem?_eq_getElem this]; exact List.getElem_mem this)
  unfold fineF quietV
  split
  · exact hj'
  · split
    · exact finF_zero
    · exact hj'
theorem quiet_ok {lim : Nat} {a c l : Int} {xs : List Nat} : fineOk (quietV lim) a c l xs = (validPicF a c xs && within l 1 4) := by
  unfold fineOk
  cases h1 : validPicF a c xs
  · simp
  · have h2 : validPicF a c (fineL (quietV lim) a c l xs) = true := by
      obtain ⟨m, n, rfl, rfl, q1, q2, q3, q4, q5, q6⟩ := valid_sides h1
      exact valid_mk q1 q2 q3 q4 (by rw [fineL, List.length_map, List.length_range, q5]) (quiet_fin q6)
    rw [h2]
    simp
def quietOk (a c : Int) (xs : List Nat) (l : Int) (lim : Nat) : Bool := leastF lim && (validPicF a c xs && within l 1 4)
theorem i_QuietPicture_1_ok {F : Heap} {p q x lim : Nat} {s : Int} (hp : F.blk p = some ⟨true, t_float32, [.float .f32 lim]⟩) (hq : F.blk q = some ⟨true, t_int64, [.int .i64 s]⟩) (hpq : p ≠ q) (s0 : 0 ≤ s) (s1 : s ≤ 256) :
    ACalls Try.prog n_i_QuietPicture_1 [.float .f32 x, .pointer (some ⟨p, 0, some 1⟩), .pointer (some ⟨q, 0, some 1⟩)] F fun r F' => r = .float .f32 (quietV lim x) ∧ F'.n = F.n ∧ (∀ i, i ≠ q → F'.blk i = F.blk i) ∧ F'.blk q = some ⟨true, t_int64, [.int .i64 (s + if quietH lim x = true then 1 else 0)]⟩ := by
  refine k_i_QuietPicture_1.run rfl ?_
  unfold c_i_QuietPicture_1
  simp (disch := first | assumption | omega | rfl | (refine id ?_; simp only [gxD, ne_eq, reduceCtorEq, not_false_eq_true, Nat.reduceAdd, *]; done) | (refine id ?_; simp only [gxD]; omega)) only [↓gxPre, gxPost, ↓reduceIte, Nat.reduceEqDiff, reduceCtorEq, Nat.reduceAdd, hp]
  refine callR_of i_size_ok ?_
  rintro _ _ ⟨rfl, rfl⟩
  cases hh : quietH lim x
  · have hh' : fcB .leq .f32 (sizeF x) lim = false := hh
    simp (disch := first | assumption | omega | rfl | (refine id ?_; simp only [gxD, ne_eq, reduceCtorEq, not_false_eq_true, Nat.reduceAdd, *]; done) | (refine id ?_; simp only [gxD]; omega)) only [↓gxPre, gxPost, ↓reduceIte, Nat.reduceEqDiff, reduceCtorEq, Nat.reduceAdd, hp, hh']
    simp [quietV, hh, hq]
  · have hh' : fcB .leq .f32 (sizeF x) lim = true := hh
    simp (disch := first | assumption | omega | rfl | (refine id ?_; simp only [gxD, ne_eq, reduceCtorEq, not_false_eq_true, Nat.reduceAdd, *]; done) | (refine id ?_; simp only [gxD]; omega)) only [↓gxPre, gxPost, ↓reduceIte, Nat.reduceEqDiff, reduceCtorEq, Nat.reduceAdd, hp, hq, hh']
    refine ⟨by simp [quietV, hh], fun i hi => hput_other _ _ _ _ hi⟩
theorem i_QuietPicture_law {H : Heap} {a0 c0 a1 : Int} {a2 : Nat} {v0 : Value} {xs0 : List Nat} (A0 : AF H v0 xs0) (b0 : -9223372036854775808 ≤ a0 ∧ a0 ≤ 9223372036854775807) (d0 : -9223372036854775808 ≤ c0 ∧ c0 ≤ 9223372036854775807) (b1 : -9223372036854775808 ≤ a1 ∧ a1 ≤ 9223372036854775807) (b2 : a2 < 2 ^ 32) :
    ACalls Try.prog n_i_QuietPicture [.agg #[.int .i64 a0, .int .i64 c0, v0], .int .i64 a1, .float .f32 a2] H fun r H' => PicNR t_float32 H (quietOk a0 c0 xs0 a1 a2) a0 c0 (fineL (quietV a2) a0 c0 a1 xs0) (fineN (quietH a2) a0 c0 a1 xs0 xs0.length) r H' := by
  refine k_i_QuietPicture.run rfl ?_
  unfold c_i_QuietPicture
  have o0 := A0.rd.one
  simp (disch := first | assumption | omega | rfl | (refine id ?_; simp only [gxD, ne_eq, reduceCtorEq, not_false_eq_true, Nat.reduceAdd, *]; done) | (refine id ?_; simp only [gxD]; omega)) only [↓gxPre, gxPost, ↓reduceIte, Nat.reduceEqDiff, reduceCtorEq, Nat.reduceAdd]
  have eK : Ext H (((H.new ⟨true, t_Picture, [.int .i64 a0, .int .i64 c0, v0]⟩).new ⟨true, t_float32, [.float .f32 a2]⟩).new ⟨true, t_Picture, [.int .i64 0, .int .i64 0, .slice none 0 0]⟩) := ⟨by first | omega | (simp only [new_n, put_n]; omega) | (simp only [new_n, put_n] at *; omega), fun i hi => by simp (disch := first | assumption | omega | rfl | (refine id ?_; simp only [gxD, ne_eq, reduceCtorEq, not_false_eq_true, Nat.reduceAdd, *]; done) | (refine id ?_; simp only [gxD]; omega)) only [↓gxPre, gxPost, ↓reduceIte, Nat.reduceEqDiff, reduceCtorEq, Nat.reduceAdd, *]⟩
  have g1 : (((H.new ⟨true, t_Picture, [.int .i64 a0, .int .i64 c0, v0]⟩).new ⟨true, t_float32, [.float .f32 a2]⟩).new ⟨true, t_Picture, [.int .i64 0, .int .i64 0, .slice none 0 0]⟩).blk H.n = some ⟨true, t_Picture, [.int .i64 a0, .int .i64 c0, v0]⟩ := by simp (disch := first | assumption | omega | rfl | (refine id ?_; simp only [gxD, ne_eq, reduceCtorEq, not_false_eq_true, Nat.reduceAdd, *]; done) | (refine id ?_; simp only [gxD]; omega)) only [↓gxPre, gxPost, ↓reduceIte, Nat.reduceEqDiff, reduceCtorEq, Nat.reduceAdd]
  have g2 : (((H.new ⟨true, t_Picture, [.int .i64 a0, .int .i64 c0, v0]⟩).new ⟨true, t_float32, [.float .f32 a2]⟩).new ⟨true, t_Picture, [.int .i64 0, .int .i64 0, .slice none 0 0]⟩).blk (H.n + 1) = some ⟨true, t_float32, [.float .f32 a2]⟩ := by simp (disch := first | assumption | omega | rfl | (refine id ?_; simp only [gxD, ne_eq, reduceCtorEq, not_false_eq_true, Nat.reduceAdd, *]; done) | (refine id ?_; simp only [gxD]; omega)) only [↓gxPre, gxPost, ↓reduceIte, Nat.reduceEqDiff, reduceCtorEq, Nat.reduceAdd]
  have g3 : (((H.new ⟨true, t_Picture, [.int .i64 a0, .int .i64 c0, v0]⟩).new ⟨true, t_float32, [.float .f32 a2]⟩).new ⟨true, t_Picture, [.int .i64 0, .int .i64 0, .slice none 0 0]⟩).blk (H.n + 1 + 1) = some ⟨true, t_Picture, [.int .i64 0, .int .i64 0, .slice none 0 0]⟩ := by simp (disch := first | assumption | omega | rfl | (refine id ?_; simp only [gxD, ne_eq, reduceCtorEq, not_false_eq_true, Nat.reduceAdd, *]; done) | (refine id ?_; simp only [gxD]; omega)) only [↓gxPre, gxPost, ↓reduceIte, Nat.reduceEqDiff, reduceCtorEq, Nat.reduceAdd]
  have nK : (((H.new ⟨true, t_Picture, [.int .i64 a0, .int .i64 c0, v0]⟩).new ⟨true, t_float32, [.float .f32 a2]⟩).new ⟨true, t_Picture, [.int .i64 0, .int .i64 0, .slice none 0 0]⟩).n = H.n + 3 := by simp only [new_n]
  generalize (((H.new ⟨true, t_Picture, [.int .i64 a0, .int .i64 c0, v0]⟩).new ⟨true, t_float32, [.float .f32 a2]⟩).new ⟨true, t_Picture, [.int .i64 0, .int .i64 0, .slice none 0 0]⟩) = K at eK g1 g2 g3 nK ⊢
  refine callR_pure i_isLeast_ok (.inl rfl) ?_
  cases h0 : leastF a2
  · simp (disch := first | assumption | omega | rfl | (refine id ?_; simp only [gxD, ne_eq, reduceCtorEq, not_false_eq_true, Nat.reduceAdd, *]; done) | (refine id ?_; simp only [gxD]; omega)) only [↓gxPre, gxPost, ↓reduceIte, Nat.reduceEqDiff, reduceCtorEq, Nat.reduceAdd, g3]
    exact .no (by simp only [quietOk, h0, Bool.false_and, Bool.true_and, Bool.and_true, Bool.and_false, Bool.or_true, Bool.true_or, Bool.false_or, Bool.or_false, Bool.and_self, Bool.or_self]) (eK.put (by omega) _)
  simp (disch := first | assumption | omega | rfl | (refine id ?_; simp only [gxD, ne_eq, reduceCtorEq, not_false_eq_true, Nat.reduceAdd, *]; done) | (refine id ?_; simp only [gxD]; omega)) only [↓gxPre, gxPost, ↓reduceIte, Nat.reduceEqDiff, reduceCtorEq, Nat.reduceAdd, g1]
  refine callR_new ?_
  intro G eG bq nG
  refine callR_of (i_finesBy_ok (H0 := K) (q := K.n) (val := quietV a2) (hit := quietH a2) (J := fun s F => F.blk K.n = some ⟨true, t_int64, [.int .i64 s]⟩ ∧ F.blk (H.n + 1) = some ⟨true, t_float32, [.float .f32 a2]⟩) (A0.rd.ext eK) A0.le A0.w eG (Nat.le_refl _) (by omega) ⟨bq, (eG.blk _ (by omega)).trans g2⟩ (fun s F F' h _ hb => ⟨(hb _ (by omega)).trans h.1, (hb _ (by omega)).trans h.2⟩)
    (fun s F x s0 s1 _ hJ hF => (i_QuietPicture_1_ok hJ.2 hJ.1 (by omega) s0 s1).mono ?_)) ?_
  · rintro r F' ⟨rfl, n', b', j'⟩
    exact ⟨rfl, n', b', j', (b' _ (by omega)).trans hJ.2⟩
  rintro _ M ⟨eM, nM, bM, jM, u, rfl, ou, lu⟩
  have vu := ou.one
  have g3M := (eM.blk _ (by omega)).trans g3
  rw [quiet_ok] at jM ou lu ⊢
  cases hk : validPicF a0 c0 xs0 && within a1 1 4
  · rw [hk] at ou
    simp (disch := first | assumption | omega | rfl | (refine id ?_; simp only [gxD, ne_eq, reduceCtorEq, not_false_eq_true, Nat.reduceAdd, *]; done) | (refine id ?_; simp only [gxD]; omega)) only [↓gxPre, gxPost, ↓reduceIte, Nat.reduceEqDiff, reduceCtorEq, Nat.reduceAdd, g3M]
    exact .no (by simp only [quietOk, h0, hk, Bool.false_and, Bool.true_and, Bool.and_true, Bool.and_false, Bool.or_true, Bool.true_or, Bool.false_or, Bool.or_false, Bool.and_self, Bool.or_self]) ((((eK.trans eM).trans (.new M _))).put (by omega) _)
  · rw [hk] at jM ou lu
    have j1 := (jM rfl).1
    simp only [selL_t] at ou lu
    simp (disch := first | assumption | omega | rfl | (refine id ?_; simp only [gxD, ne_eq, reduceCtorEq, not_false_eq_true, Nat.reduceAdd, *]; done) | (refine id ?_; simp only [gxD]; omega)) only [↓gxPre, gxPost, ↓reduceIte, Nat.reduceEqDiff, reduceCtorEq, Nat.reduceAdd, g3M, j1, selI_t]
    have eN : Ext M (M.new ⟨true, t_Picture, [.int .i64 a0, .int .i64 c0, u]⟩) := .new M _
    refine .yes (by simp only [quietOk, h0, hk, Bool.false_and, Bool.true_and, Bool.and_true, Bool.and_false, Bool.or_true, Bool.true_or, Bool.false_or, Bool.or_false, Bool.and_self, Bool.or_self]) ((eK.trans (eM.trans eN)).put (by omega) _) (((ou.ext eN).wide (by omega) (by simp only [new_n, put_n]; omega)).keep (Nat.le_refl _) fun t ht => hput_other _ _ _ _ fun e => ?_) lu
    have := (ou.hdl ht).1
    omega
theorem s_QuietPicture_law {H : Heap} {a0 c0 a1 : Int} {a2 : Nat} {v0 : Value} {xs0 : List Nat} (A0 : AF H v0 xs0) (b0 : -9223372036854775808 ≤ a0 ∧ a0 ≤ 9223372036854775807) (d0 : -9223372036854775808 ≤ c0 ∧ c0 ≤ 9223372036854775807) (b1 : -9223372036854775808 ≤ a1 ∧ a1 ≤ 9223372036854775807) (b2 : a2 < 2 ^ 32) :
    ACalls Try.prog n_s_QuietPicture [.agg #[.int .i64 a0, .int .i64 c0, v0], .int .i64 a1, .float .f32 a2] H fun r H' => PicNR t_float32 H (quietOk a0 c0 xs0 a1 a2) a0 c0 (fineL (quietV a2) a0 c0 a1 xs0) (fineN (quietH a2) a0 c0 a1 xs0 xs0.length) r H' := by
  refine k_s_QuietPicture.run rfl ?_
  unfold c_s_QuietPicture
  have o0 := A0.rd.one
  simp (disch := first | assumption | omega | rfl | (refine id ?_; simp only [gxD, ne_eq, reduceCtorEq, not_false_eq_true, Nat.reduceAdd, *]; done) | (refine id ?_; simp only [gxD]; omega)) only [↓gxPre, gxPost, ↓reduceIte, Nat.reduceEqDiff, reduceCtorEq, Nat.reduceAdd]
  have eK : Ext H ((H.new ⟨true, t_Picture, [.int .i64 a0, .int .i64 c0, v0]⟩).new ⟨true, t_Picture, [.int .i64 0, .int .i64 0, .slice none 0 0]⟩) := ⟨by first | omega | (simp only [new_n, put_n]; omega) | (simp only [new_n, put_n] at *; omega), fun i hi => by simp (disch := first | assumption | omega | rfl | (refine id ?_; simp only [gxD, ne_eq, reduceCtorEq, not_false_eq_true, Nat.reduceAdd, *]; done) | (refine id ?_; simp only [gxD]; omega)) only [↓gxPre, gxPost, ↓reduceIte, Nat.reduceEqDiff, reduceCtorEq, Nat.reduceAdd, *]⟩
  have g1 : ((H.new ⟨true, t_Picture, [.int .i64 a0, .int .i64 c0, v0]⟩).new ⟨true, t_Picture, [.int .i64 0, .int .i64 0, .slice none 0 0]⟩).blk H.n = some ⟨true, t_Picture, [.int .i64 a0, .int .i64 c0, v0]⟩ := by simp (disch := first | assumption | omega | rfl | (refine id ?_; simp only [gxD, ne_eq, reduceCtorEq, not_false_eq_true, Nat.reduceAdd, *]; done) | (refine id ?_; simp only [gxD]; omega)) only [↓gxPre, gxPost, ↓reduceIte, Nat.reduceEqDiff, reduceCtorEq, Nat.reduceAdd]
  have g3 : ((H.new ⟨true, t_Picture, [.int .i64 a0, .int .i64 c0, v0]⟩).new ⟨true, t_Picture, [.int .i64 0, .int .i64 0, .slice none 0 0]⟩).blk (H.n + 1) = some ⟨true, t_Picture, [.int .i64 0, .int .i64 0, .slice none 0 0]⟩ := by simp (disch := first | assumption | omega | rfl | (refine id ?_; simp only [gxD, ne_eq, reduceCtorEq, not_false_eq_true, Nat.reduceAdd, *]; done) | (refine id ?_; simp only [gxD]; omega)) only [↓gxPre, gxPost, ↓reduceIte, Nat.reduceEqDiff, reduceCtorEq, Nat.reduceAdd]
  have nK : ((H.new ⟨true, t_Picture, [.int .i64 a0, .int .i64 c0, v0]⟩).new ⟨true, t_Picture, [.int .i64 0, .int .i64 0, .slice none 0 0]⟩).n = H.n + 2 := by simp only [new_n]
  generalize ((H.new ⟨true, t_Picture, [.int .i64 a0, .int .i64 c0, v0]⟩).new ⟨true, t_Picture, [.int .i64 0, .int .i64 0, .slice none 0 0]⟩) = K at eK g1 g3 nK ⊢
  refine callR_pure (s_l04Is_ok g1 (A0.rd.ext eK) A0.le) (.inl rfl) ?_
  cases h1 : validPicF a0 c0 xs0
  · simp (disch := first | assumption | omega | rfl | (refine id ?_; simp only [gxD, ne_eq, reduceCtorEq, not_false_eq_true, Nat.reduceAdd, *]; done) | (refine id ?_; simp only [gxD]; omega)) only [↓gxPre, gxPost, ↓reduceIte, Nat.reduceEqDiff, reduceCtorEq, Nat.reduceAdd, g3]
    exact .no (by simp only [quietOk, h1, Bool.false_and, Bool.true_and, Bool.and_true, Bool.and_false, Bool.or_true, Bool.true_or, Bool.false_or, Bool.or_false, Bool.and_self, Bool.or_self]) (eK.put (by omega) _)
  simp (disch := first | assumption | omega | rfl | (refine id ?_; simp only [gxD, ne_eq, reduceCtorEq, not_false_eq_true, Nat.reduceAdd, *]; done) | (refine id ?_; simp only [gxD]; omega)) only [↓gxPre, gxPost, ↓reduceIte, Nat.reduceEqDiff, reduceCtorEq, Nat.reduceAdd]
  refine callR_pure s_l04Levels_ok (.inl rfl) ?_
  cases h2 : within a1 1 4
  · simp (disch := first | assumption | omega | rfl | (refine id ?_; simp only [gxD, ne_eq, reduceCtorEq, not_false_eq_true, Nat.reduceAdd, *]; done) | (refine id ?_; simp only [gxD]; omega)) only [↓gxPre, gxPost, ↓reduceIte, Nat.reduceEqDiff, reduceCtorEq, Nat.reduceAdd, g3]
    exact .no (by simp only [quietOk, h2, Bool.false_and, Bool.true_and, Bool.and_true, Bool.and_false, Bool.or_true, Bool.true_or, Bool.false_or, Bool.or_false, Bool.and_self, Bool.or_self]) (eK.put (by omega) _)
  simp (disch := first | assumption | omega | rfl | (refine id ?_; simp only [gxD, ne_eq, reduceCtorEq, not_false_eq_true, Nat.reduceAdd, *]; done) | (refine id ?_; simp only [gxD]; omega)) only [↓gxPre, gxPost, ↓reduceIte, Nat.reduceEqDiff, reduceCtorEq, Nat.reduceAdd]
  refine callR_pure s_l02Least_ok (.inl rfl) ?_
  cases h0 : leastF a2
  · simp (disch := first | assumption | omega | rfl | (refine id ?_; simp only [gxD, ne_eq, reduceCtorEq, not_false_eq_true, Nat.reduceAdd, *]; done) | (refine id ?_; simp only [gxD]; omega)) only [↓gxPre, gxPost, ↓reduceIte, Nat.reduceEqDiff, reduceCtorEq, Nat.reduceAdd, g3]
    exact .no (by simp only [quietOk, h0, Bool.false_and, Bool.true_and, Bool.and_true, Bool.and_false, Bool.or_true, Bool.true_or, Bool.false_or, Bool.or_false, Bool.and_self, Bool.or_self]) (eK.put (by omega) _)
  simp (disch := first | assumption | omega | rfl | (refine id ?_; simp only [gxD, ne_eq, reduceCtorEq, not_false_eq_true, Nat.reduceAdd, *]; done) | (refine id ?_; simp only [gxD]; omega)) only [↓gxPre, gxPost, ↓reduceIte, Nat.reduceEqDiff, reduceCtorEq, Nat.reduceAdd]
  refine callR_of (s_l04Own_ok g1 (by omega) (A0.rd.ext eK) A0.le) ?_
  rintro _ G ⟨eG, nG, rfl, hc⟩
  replace g1 := (eG.blk _ (by omega)).trans g1
  replace g3 := (eG.blk _ (by omega)).trans g3
  have e1 := eK.trans eG
  obtain ⟨m, n, rfl, rfl, q1, q2, q3, q4, q5, q6⟩ := valid_sides h1
  have hle := valid_len h1
  have hmn : (m : Int) * n = (xs0.length : Nat) := by rw [q5]; simp
  simp (disch := first | assumption | omega | rfl | (refine id ?_; simp only [gxD, ne_eq, reduceCtorEq, not_false_eq_true, Nat.reduceAdd, *]; done) | (refine id ?_; simp only [gxD]; omega)) only [↓gxPre, gxPost, ↓reduceIte, Nat.reduceEqDiff, reduceCtorEq, Nat.reduceAdd]
  refine loop_forH xs0.length (fun i => [.int .i64 a1, .float .f32 a2, .pointer (some ⟨H.n, 0, some 3⟩), .pointer (some ⟨H.n + 1, 0, some 3⟩), .pointer (some ⟨G.n, 0, some 3⟩), .int .i64 (fineN (quietH a2) m n a1 xs0 i), .int .i64 i])
    (fun i F => F.n = G.n + 1 ∧ Ext K F ∧ F.blk G.n = some ⟨true, t_Picture, [.int .i64 m, .int .i64 n, .slice (some ⟨K.n + 1, 0, none⟩) xs0.length xs0.length]⟩ ∧ F.blk (K.n + 1) = some ⟨true, t_float32, (updF (fineF (quietV a2) m n a1 xs0) xs0 i).map fv⟩) rfl
    ⟨rfl, eG.trans (.new _ _), new_self _ _, by rw [updF_zero]; exact (new_old _ _ _ (by omega)).trans hc⟩ ?_ ?_
  · rintro F ⟨nF, eF, hb, hcF⟩
    have g1F := (eF.blk _ (by omega)).trans ((eG.blk _ (by omega)).symm.trans g1)
    have g3F := (eF.blk _ (by omega)).trans ((eG.blk _ (by omega)).symm.trans g3)
    rw [updF_all] at hcF
    have hcF' : F.blk (K.n + 1) = some ⟨true, t_float32, (fineL (quietV a2) m n a1 xs0).map fv⟩ := hcF
    have hll : (fineL (quietV a2) m n a1 xs0).length = xs0.length := by simp [fineL]
    simp (disch := first | assumption | omega | rfl | (refine id ?_; simp only [gxD, ne_eq, reduceCtorEq, not_false_eq_true, Nat.reduceAdd, *]; done) | (refine id ?_; simp only [gxD]; omega)) only [↓gxPre, gxPost, ↓reduceIte, Nat.reduceEqDiff, reduceCtorEq, Nat.reduceAdd, g1F, hmn, Int.lt_irrefl, hb, g3F]
    refine .yes (by simp only [quietOk, h0, h1, h2, Bool.false_and, Bool.true_and, Bool.and_true, Bool.and_false, Bool.or_true, Bool.true_or, Bool.false_or, Bool.or_false, Bool.and_self, Bool.or_self]) ((eK.trans eF).put (by omega) _) (.mk ((hput_other _ _ _ _ (by omega)).trans hcF') (by rw [lMapN, hll]) (by omega) (by rw [put_n]; omega) (by rw [put_n]; omega)) (by rw [hll]; omega)
  · rintro i F hi ⟨nF, eF, hb, hcF⟩
    have eHF := eK.trans eF
    have hvF := A0.rd.ext eHF
    have g1F := (eF.blk _ (by omega)).trans ((eG.blk _ (by omega)).symm.trans g1)
    have hNb := fineN_b (quietH a2) m n a1 xs0 i
    have hml : ((updF (fineF (quietV a2) m n a1 xs0) xs0 i).map fv).length = xs0.length := by rw [lMapN, updF_length]
    simp (disch := first | assumption | omega | rfl | (refine id ?_; simp only [gxD, ne_eq, reduceCtorEq, not_false_eq_true, Nat.reduceAdd, *]; done) | (refine id ?_; simp only [gxD]; omega)) only [↓gxPre, gxPost, ↓reduceIte, Nat.reduceEqDiff, reduceCtorEq, Nat.reduceAdd, g1F, hmn]
    refine callR_pure (s_l04Coarse_ok g1F q1 q2 q4 h2 (by omega)) (.inl rfl) ?_
    cases hcs : coarseF m n a1 i
    rotate_left
    · have hs : updF (fineF (quietV a2) m n a1 xs0) xs0 (i + 1) = updF (fineF (quietV a2) m n a1 xs0) xs0 i := updF_same (by simp only [fineF, hcs, if_true])
      have hN : fineN (quietH a2) m n a1 xs0 (i + 1) = fineN (quietH a2) m n a1 xs0 i := if_pos hcs
      rw [hs, hN]
      simp (disch := first | assumption | omega | rfl | (refine id ?_; simp only [gxD, ne_eq, reduceCtorEq, not_false_eq_true, Nat.reduceAdd, *]; done) | (refine id ?_; simp only [gxD]; omega)) only [↓gxPre, gxPost, ↓reduceIte, Nat.reduceEqDiff, reduceCtorEq, Nat.reduceAdd]
      exact ⟨by simp, nF, eF, hb, hcF⟩
    have hN : fineN (quietH a2) m n a1 xs0 (i + 1) = fineN (quietH a2) m n a1 xs0 i + if quietH a2 (xs0.getD i 0) = true then 1 else 0 := if_neg (by rw [hcs]; simp)
    have hfx : fineF (quietV a2) m n a1 xs0 i = quietV a2 (xs0.getD i 0) := if_neg (by rw [hcs]; simp)
    simp (disch := first | assumption | omega | rfl | (refine id ?_; simp only [gxD, ne_eq, reduceCtorEq, not_false_eq_true, Nat.reduceAdd, *]; done) | (refine id ?_; simp only [gxD]; omega)) only [↓gxPre, gxPost, ↓reduceIte, Nat.reduceEqDiff, reduceCtorEq, Nat.reduceAdd, g1F, hvF.ia, hvF.ld]
    refine callR_pure (s_l02Size_ok (A0.w.get i)) (.inl rfl) ?_
    cases hh : quietH a2 (xs0.getD i 0)
    · have hh' : fcB .leq .f32 (sizeF (xs0.getD i 0)) a2 = false := hh
      have hs : updF (fineF (quietV a2) m n a1 xs0) xs0 (i + 1) = updF (fineF (quietV a2) m n a1 xs0) xs0 i := updF_same (by rw [hfx, quietV, hh]; rfl)
      rw [hh] at hN
      rw [hs, hN]
      simp (disch := first | assumption | omega | rfl | (refine id ?_; simp only [gxD, ne_eq, reduceCtorEq, not_false_eq_true, Nat.reduceAdd, *]; done) | (refine id ?_; simp only [gxD]; omega)) only [↓gxPre, gxPost, ↓reduceIte, Nat.reduceEqDiff, reduceCtorEq, Nat.reduceAdd, hh']
      exact ⟨by simp, nF, eF, hb, hcF⟩
    · have hh' : fcB .leq .f32 (sizeF (xs0.getD i 0)) a2 = true := hh
      have hq0 : quietV a2 (xs0.getD i 0) = 0 := by rw [quietV, hh]; rfl
      have hset : (updF (fineF (quietV a2) m n a1 xs0) xs0 i).set i 0 = updF (fineF (quietV a2) m n a1 xs0) xs0 (i + 1) := by rw [← hq0, ← hfx]; exact updF_set
      rw [hh] at hN
      rw [hN]
      simp (disch := first | assumption | omega | rfl | (refine id ?_; simp only [gxD, ne_eq, reduceCtorEq, not_false_eq_true, Nat.reduceAdd, *]; done) | (refine id ?_; simp only [gxD]; omega)) only [↓gxPre, gxPost, ↓reduceIte, Nat.reduceEqDiff, reduceCtorEq, Nat.reduceAdd, hh', hb, hcF]
      exact ⟨by simp, nF, eF.put (by omega) _, by rw [fv_set', hset]⟩
end Go.Proofs.Ytkojmlpaamdhoac
