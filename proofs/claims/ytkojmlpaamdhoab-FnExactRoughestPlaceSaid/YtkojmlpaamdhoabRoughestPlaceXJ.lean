/- The roughest place of a picture. -/
import Derived.Test.YtkojmlpaamdhoabRoughestPlaceXI
namespace Go.Proofs.Ytkojmlpaamdhoab
open Go.Gx
set_option maxRecDepth 100000
set_option linter.unusedSimpArgs false
set_option linter.unusedVariables false

theorem coarse_eq (m n i : Nat) (l : Int) : coarseF m n l i = (decide (((i % m : Nat) : Int) < halfN m l.toNat) && decide (((i / m : Nat) : Int) < halfN n l.toNat)) := by
  unfold coarseF
  push_cast
  rfl
def sizeX (xs : List Nat) (b : Int) : Nat := sizeF (xs.getD b.toNat 0)
def bestI (m n : Nat) (l : Int) (xs : List Nat) : Nat → Int := foldI (fun i b => if (!coarseF m n l i && (decide (b < 0) || fcB .gtr .f32 (sizeF (xs.getD i 0)) (sizeX xs b))) = true then (i : Int) else b) (-1)
theorem bestI_zero (m n : Nat) (l : Int) (xs : List Nat) : bestI m n l xs 0 = -1 := rfl
theorem bestI_succ (m n : Nat) (l : Int) (xs : List Nat) (i : Nat) : bestI m n l xs (i + 1) = if (!coarseF m n l i && (decide (bestI m n l xs i < 0) || fcB .gtr .f32 (sizeF (xs.getD i 0)) (sizeX xs (bestI m n l xs i)))) = true then (i : Int) else bestI m n l xs i := rfl
theorem bestI_lt (m n : Nat) (l : Int) (xs : List Nat) : ∀ i, -1 ≤ bestI m n l xs i ∧ bestI m n l xs i < i
  | 0 => by rw [bestI_zero]; omega
  | i + 1 => by
    have := bestI_lt m n l xs i
    rw [bestI_succ]
    split <;> omega
def roughV (a c : Int) (xs : List Nat) (l : Int) : Value :=
  if (validPicF a c xs && within l 1 4 && decide (0 ≤ bestI a.toNat c.toNat l xs xs.length)) = true then
    .tuple #[.int .i64 (((bestI a.toNat c.toNat l xs xs.length).toNat % a.toNat : Nat) : Int), .int .i64 (((bestI a.toNat c.toNat l xs xs.length).toNat / a.toNat : Nat) : Int), .float .f32 (sizeX xs (bestI a.toNat c.toNat l xs xs.length)), .bool true]
  else .tuple #[.int .i64 0, .int .i64 0, .float .f32 0, .bool false]
theorem roughV_no {a c : Int} {xs : List Nat} {l : Int} (h : (validPicF a c xs && within l 1 4 && decide (0 ≤ bestI a.toNat c.toNat l xs xs.length)) = false) : roughV a c xs l = .tuple #[.int .i64 0, .int .i64 0, .float .f32 0, .bool false] := by
  unfold roughV
  rw [h]; rfl
theorem roughV_yes {m n : Nat} {xs : List Nat} {l : Int} {k : Nat} (h1 : validPicF m n xs = true) (h2 : within l 1 4 = true) (hk : bestI m n l xs xs.length = k) : roughV m n xs l = .tuple #[.int .i64 ((k % m : Nat) : Int), .int .i64 ((k / m : Nat) : Int), .float .f32 (sizeF (xs.getD k 0)), .bool true] := by
  unfold roughV
  simp only [Int.toNat_natCast]
  rw [if_pos (by rw [h1, h2, Bool.and_self, Bool.true_and]; exact decide_eq_true (by omega)), hk]
  rfl
def roughO (a c : Int) (xs : List Nat) (l : Int) : Bool := validPicF a c xs && within l 1 4 && decide (0 ≤ bestI a.toNat c.toNat l xs xs.length)
def roughX (a c : Int) (xs : List Nat) (l : Int) : Int := if roughO a c xs l = true then (((bestI a.toNat c.toNat l xs xs.length).toNat % a.toNat : Nat) : Int) else 0
def roughY (a c : Int) (xs : List Nat) (l : Int) : Int := if roughO a c xs l = true then (((bestI a.toNat c.toNat l xs xs.length).toNat / a.toNat : Nat) : Int) else 0
def roughS (a c : Int) (xs : List Nat) (l : Int) : Nat := if roughO a c xs l = true then sizeX xs (bestI a.toNat c.toNat l xs xs.length) else 0
theorem roughV_eq (a c : Int) (xs : List Nat) (l : Int) : roughV a c xs l = .tuple #[.int .i64 (roughX a c xs l), .int .i64 (roughY a c xs l), .float .f32 (roughS a c xs l), .bool (roughO a c xs l)] := by
  unfold roughX roughY roughS
  cases h : roughO a c xs l
  · exact (roughV_no h).trans rfl
  · exact (if_pos h).trans rfl
theorem i_isCoarse_ok {H : Heap} {m n i : Nat} {l : Int} {v : Value} {xs : List Nat} (hv : FS H v xs) (m1 : 1 ≤ m) (m2 : m ≤ 16) (n2 : n ≤ 16) (hl : within l 1 4 = true) (hi : i ≤ 256) :
    ACalls Try.prog n_i_isCoarse [.agg #[.int .i64 m, .int .i64 n, v], .int .i64 l, .int .i64 i] H fun r H' => r = .bool (coarseF m n l i) ∧ Ext H H' := by
  refine k_i_isCoarse.run rfl ?_
  unfold c_i_isCoarse
  have o0 := hv.one
  have hl' := within_true.1 hl
  have hm0 : (m : Int) ≠ 0 := by omega
  obtain ⟨t, ht⟩ : ∃ t, t = i / m := ⟨_, rfl⟩
  obtain ⟨u, hu⟩ : ∃ u, u = i % m := ⟨_, rfl⟩
  have hq : ((i : Nat) : Int).tdiv (m : Int) = (t : Int) := by rw [tdivN, ht]
  have hr : ((i : Nat) : Int).tmod (m : Int) = (u : Int) := by rw [tmodN, hu]
  have htb : t ≤ i := by rw [ht]; exact Nat.div_le_self _ _
  rw [coarse_eq, ← ht, ← hu]
  have hw1 : IntKind.wrap .i64 (t : Int) = (t : Int) := wrN _ (by omega)
  simp (disch := first | assumption | omega | rfl | (refine id ?_; simp only [gxD, ne_eq, reduceCtorEq, not_false_eq_true, Nat.reduceAdd, *]; done) | (refine id ?_; simp only [gxD]; omega)) only [↓gxPre, gxPost, ↓reduceIte, Nat.reduceEqDiff, reduceCtorEq, Nat.reduceAdd, hr]
  refine callR_pure (i_halfOf_ok (by omega) (by omega) (by omega) (by omega)) (by first | exact .inl rfl | (simp (disch := first | assumption | omega | rfl | (refine id ?_; simp only [gxD, ne_eq, reduceCtorEq, not_false_eq_true, Nat.reduceAdd, *]; done) | (refine id ?_; simp only [gxD]; omega)) only [↓gxPre, gxPost, ↓reduceIte, Nat.reduceEqDiff, reduceCtorEq, Nat.reduceAdd, *]; done) | (simp (disch := first | assumption | omega | rfl | (refine id ?_; simp only [gxD, ne_eq, reduceCtorEq, not_false_eq_true, Nat.reduceAdd, *]; done) | (refine id ?_; simp only [gxD]; omega)) only [↓gxPre, gxPost, ↓reduceIte, Nat.reduceEqDiff, reduceCtorEq, Nat.reduceAdd, imp_self, true_implies, false_implies, implies_true, *]; done)) ?_
  by_cases c1 : (u : Int) < halfN m l.toNat
  · simp (disch := first | assumption | omega | rfl | (refine id ?_; simp only [gxD, ne_eq, reduceCtorEq, not_false_eq_true, Nat.reduceAdd, *]; done) | (refine id ?_; simp only [gxD]; omega)) only [↓gxPre, gxPost, ↓reduceIte, Nat.reduceEqDiff, reduceCtorEq, Nat.reduceAdd, c1, hq, hw1]
    refine callR_pure (i_halfOf_ok (by omega) (by omega) (by omega) (by omega)) (by first | exact .inl rfl | (simp (disch := first | assumption | omega | rfl | (refine id ?_; simp only [gxD, ne_eq, reduceCtorEq, not_false_eq_true, Nat.reduceAdd, *]; done) | (refine id ?_; simp only [gxD]; omega)) only [↓gxPre, gxPost, ↓reduceIte, Nat.reduceEqDiff, reduceCtorEq, Nat.reduceAdd, *]; done) | (simp (disch := first | assumption | omega | rfl | (refine id ?_; simp only [gxD, ne_eq, reduceCtorEq, not_false_eq_true, Nat.reduceAdd, *]; done) | (refine id ?_; simp only [gxD]; omega)) only [↓gxPre, gxPost, ↓reduceIte, Nat.reduceEqDiff, reduceCtorEq, Nat.reduceAdd, imp_self, true_implies, false_implies, implies_true, *]; done)) ?_
    simp (disch := first | assumption | omega | rfl | (refine id ?_; simp only [gxD, ne_eq, reduceCtorEq, not_false_eq_true, Nat.reduceAdd, *]; done) | (refine id ?_; simp only [gxD]; omega)) only [↓gxPre, gxPost, ↓reduceIte, Nat.reduceEqDiff, reduceCtorEq, Nat.reduceAdd, hw1, imp_self, true_implies, implies_true]
    first | exact ⟨by simp only [decide_eq_true c1, Bool.false_and, Bool.true_and, Bool.and_true, Bool.and_false, Bool.or_true, Bool.true_or, Bool.false_or, Bool.or_false, Bool.and_self, Bool.or_self], ⟨by first | omega | (simp only [new_n, put_n]; omega) | (simp only [new_n, put_n] at *; omega), fun i hi => by simp (disch := first | assumption | omega | rfl | (refine id ?_; simp only [gxD, ne_eq, reduceCtorEq, not_false_eq_true, Nat.reduceAdd, *]; done) | (refine id ?_; simp only [gxD]; omega)) only [↓gxPre, gxPost, ↓reduceIte, Nat.reduceEqDiff, reduceCtorEq, Nat.reduceAdd, *]⟩⟩ | exact ⟨by first | omega | (simp only [new_n, put_n]; omega) | (simp only [new_n, put_n] at *; omega), fun i hi => by simp (disch := first | assumption | omega | rfl | (refine id ?_; simp only [gxD, ne_eq, reduceCtorEq, not_false_eq_true, Nat.reduceAdd, *]; done) | (refine id ?_; simp only [gxD]; omega)) only [↓gxPre, gxPost, ↓reduceIte, Nat.reduceEqDiff, reduceCtorEq, Nat.reduceAdd, *]⟩
  · simp (disch := first | assumption | omega | rfl | (refine id ?_; simp only [gxD, ne_eq, reduceCtorEq, not_false_eq_true, Nat.reduceAdd, *]; done) | (refine id ?_; simp only [gxD]; omega)) only [↓gxPre, gxPost, ↓reduceIte, Nat.reduceEqDiff, reduceCtorEq, Nat.reduceAdd, c1]
    try simp only [Option.some.injEq, Bool.false_eq_true, false_implies, true_and, and_self]
    first | exact ⟨by simp only [decide_eq_false c1, Bool.false_and, Bool.true_and, Bool.and_true, Bool.and_false, Bool.or_true, Bool.true_or, Bool.false_or, Bool.or_false, Bool.and_self, Bool.or_self], ⟨by first | omega | (simp only [new_n, put_n]; omega) | (simp only [new_n, put_n] at *; omega), fun i hi => by simp (disch := first | assumption | omega | rfl | (refine id ?_; simp only [gxD, ne_eq, reduceCtorEq, not_false_eq_true, Nat.reduceAdd, *]; done) | (refine id ?_; simp only [gxD]; omega)) only [↓gxPre, gxPost, ↓reduceIte, Nat.reduceEqDiff, reduceCtorEq, Nat.reduceAdd, *]⟩⟩ | exact ⟨by first | omega | (simp only [new_n, put_n]; omega) | (simp only [new_n, put_n] at *; omega), fun i hi => by simp (disch := first | assumption | omega | rfl | (refine id ?_; simp only [gxD, ne_eq, reduceCtorEq, not_false_eq_true, Nat.reduceAdd, *]; done) | (refine id ?_; simp only [gxD]; omega)) only [↓gxPre, gxPost, ↓reduceIte, Nat.reduceEqDiff, reduceCtorEq, Nat.reduceAdd, *]⟩
theorem s_l04Coarse_ok {H : Heap} {p m n i : Nat} {own : Bool} {ty : TypeId} {l : Int} {v : Value} (hb : H.blk p = some ⟨own, ty, [.int .i64 m, .int .i64 n, v]⟩) (m1 : 1 ≤ m) (m2 : m ≤ 16) (n2 : n ≤ 16) (hl : within l 1 4 = true) (hi : i ≤ 256) :
    ACalls Try.prog n_s_l04Coarse [.pointer (some ⟨p, 0, some 3⟩), .int .i64 l, .int .i64 i] H fun r H' => r = .bool (coarseF m n l i) ∧ H' = H := by
  refine k_s_l04Coarse.run rfl ?_
  unfold c_s_l04Coarse
  have hl' := within_true.1 hl
  have hm0 : (m : Int) ≠ 0 := by omega
  obtain ⟨t, ht⟩ : ∃ t, t = i / m := ⟨_, rfl⟩
  obtain ⟨u, hu⟩ : ∃ u, u = i % m := ⟨_, rfl⟩
  have hq : ((i : Nat) : Int).tdiv (m : Int) = (t : Int) := by rw [tdivN, ht]
  have hr : ((i : Nat) : Int).tmod (m : Int) = (u : Int) := by rw [tmodN, hu]
  have htb : t ≤ i := by rw [ht]; exact Nat.div_le_self _ _
  rw [coarse_eq, ← ht, ← hu]
  have hw1 : IntKind.wrap .i64 (t : Int) = (t : Int) := wrN _ (by omega)
  simp (disch := first | assumption | omega | rfl | (refine id ?_; simp only [gxD, ne_eq, reduceCtorEq, not_false_eq_true, Nat.reduceAdd, *]; done) | (refine id ?_; simp only [gxD]; omega)) only [↓gxPre, gxPost, ↓reduceIte, Nat.reduceEqDiff, reduceCtorEq, Nat.reduceAdd, hb]
  refine callR_pure (s_l04Halves_ok (by omega) (by omega) (by omega) (by omega) (by omega) (by omega)) (.inl rfl) ?_
  by_cases c1 : (u : Int) < halfN m l.toNat
  · simp (disch := first | assumption | omega | rfl | (refine id ?_; simp only [gxD, ne_eq, reduceCtorEq, not_false_eq_true, Nat.reduceAdd, *]; done) | (refine id ?_; simp only [gxD]; omega)) only [↓gxPre, gxPost, ↓reduceIte, Nat.reduceEqDiff, reduceCtorEq, Nat.reduceAdd, hb, hr, c1, hq, hw1, imp_self, true_implies, implies_true]
    try simp only [decide_eq_true c1, Bool.false_and, Bool.true_and, Bool.and_true, Bool.and_false, Bool.or_true, Bool.true_or, Bool.false_or, Bool.or_false, Bool.and_self, Bool.or_self]
  · simp (disch := first | assumption | omega | rfl | (refine id ?_; simp only [gxD, ne_eq, reduceCtorEq, not_false_eq_true, Nat.reduceAdd, *]; done) | (refine id ?_; simp only [gxD]; omega)) only [↓gxPre, gxPost, ↓reduceIte, Nat.reduceEqDiff, reduceCtorEq, Nat.reduceAdd, hb, hr, c1]
    try simp only [Option.some.injEq, Bool.false_eq_true, false_implies, true_and, and_self]
    try simp only [decide_eq_false c1, Bool.false_and, Bool.true_and, Bool.and_true, Bool.and_false, Bool.or_true, Bool.true_or, Bool.false_or, Bool.or_false, Bool.and_self, Bool.or_self]
theorem s_l02Size_ok {H : Heap} {x : Nat} (hx : x < 2 ^ 32) : ACalls Try.prog n_s_l02Size [.float .f32 x] H fun r H' => r = .float .f32 (sizeF x) ∧ H' = H := by
  refine k_s_l02Size.run rfl ?_
  unfold c_s_l02Size
  rw [← size_same hx]
  ((try simp (disch := first | assumption | omega | rfl | (refine id ?_; simp only [gxD, ne_eq, reduceCtorEq, not_false_eq_true, Nat.reduceAdd, *]; done) | (refine id ?_; simp only [gxD]; omega)) only [↓gxPre, gxPost, ↓reduceIte, Nat.reduceEqDiff, reduceCtorEq, Nat.reduceAdd, *]); repeat' (first | (refine grdR_split (fun _ => ?_) (fun _ => ?_) <;> simp (disch := first | assumption | omega | rfl | (refine id ?_; simp only [gxD, ne_eq, reduceCtorEq, not_false_eq_true, Nat.reduceAdd, *]; done) | (refine id ?_; simp only [gxD]; omega)) only [↓gxPre, gxPost, ↓reduceIte, Nat.reduceEqDiff, reduceCtorEq, Nat.reduceAdd, *]) | (refine condR_split (fun _ => ?_) (fun _ => ?_) <;> simp (disch := first | assumption | omega | rfl | (refine id ?_; simp only [gxD, ne_eq, reduceCtorEq, not_false_eq_true, Nat.reduceAdd, *]; done) | (refine id ?_; simp only [gxD]; omega)) only [↓gxPre, gxPost, ↓reduceIte, Nat.reduceEqDiff, reduceCtorEq, Nat.reduceAdd, *])))
  all_goals simp_all [sizeS]
theorem i_RoughestPlace_core {H : Heap} {a0 c0 a1 : Int} {v0 : Value} {xs0 : List Nat} (A0 : AF H v0 xs0) (b0 : -9223372036854775808 ≤ a0 ∧ a0 ≤ 9223372036854775807) (d0 : -9223372036854775808 ≤ c0 ∧ c0 ≤ 9223372036854775807) (b1 : -9223372036854775808 ≤ a1 ∧ a1 ≤ 9223372036854775807) :
    ACalls Try.prog n_i_RoughestPlace [.agg #[.int .i64 a0, .int .i64 c0, v0], .int .i64 a1] H fun r H' => r = roughV a0 c0 xs0 a1 ∧ Ext H H' := by
  refine k_i_RoughestPlace.run rfl ?_
  unfold c_i_RoughestPlace
  have o0 := A0.rd.one
  simp (disch := first | assumption | omega | rfl | (refine id ?_; simp only [gxD, ne_eq, reduceCtorEq, not_false_eq_true, Nat.reduceAdd, *]; done) | (refine id ?_; simp only [gxD]; omega)) only [↓gxPre, gxPost, ↓reduceIte, Nat.reduceEqDiff, reduceCtorEq, Nat.reduceAdd]
  refine callR_new ?_
  intro K e0 g1 n0
  refine callR_ext (i_ValidPicture_ok (A0.rd.ext e0) A0.le) ?_
  intro G n1 bb1
  have e1 := e0.trans ⟨n1, bb1⟩
  replace g1 := (bb1 _ (by omega)).trans g1
  cases h1 : validPicF a0 c0 xs0
  · simp (disch := first | assumption | omega | rfl | (refine id ?_; simp only [gxD, ne_eq, reduceCtorEq, not_false_eq_true, Nat.reduceAdd, *]; done) | (refine id ?_; simp only [gxD]; omega)) only [↓gxPre, gxPost, ↓reduceIte, Nat.reduceEqDiff, reduceCtorEq, Nat.reduceAdd]
    exact ⟨(roughV_no (by simp only [h1, Bool.false_and, Bool.true_and, Bool.and_true, Bool.and_false, Bool.or_true, Bool.true_or, Bool.false_or, Bool.or_false, Bool.and_self, Bool.or_self])).symm, e1⟩
  simp (disch := first | assumption | omega | rfl | (refine id ?_; simp only [gxD, ne_eq, reduceCtorEq, not_false_eq_true, Nat.reduceAdd, *]; done) | (refine id ?_; simp only [gxD]; omega)) only [↓gxPre, gxPost, ↓reduceIte, Nat.reduceEqDiff, reduceCtorEq, Nat.reduceAdd]
  refine callR_pure i_areLevels_ok (.inl rfl) ?_
  cases h2 : within a1 1 4
  · simp (disch := first | assumption | omega | rfl | (refine id ?_; simp only [gxD, ne_eq, reduceCtorEq, not_false_eq_true, Nat.reduceAdd, *]; done) | (refine id ?_; simp only [gxD]; omega)) only [↓gxPre, gxPost, ↓reduceIte, Nat.reduceEqDiff, reduceCtorEq, Nat.reduceAdd]
    exact ⟨(roughV_no (by simp only [h2, Bool.false_and, Bool.true_and, Bool.and_true, Bool.and_false, Bool.or_true, Bool.true_or, Bool.false_or, Bool.or_false, Bool.and_self, Bool.or_self])).symm, e1⟩
  obtain ⟨m, n, rfl, rfl, q1, q2, q3, q4, q5, q6⟩ := valid_sides h1
  have hle := valid_len h1
  have hv0 := A0.rd.ext e1
  have hlt := e1.n
  simp (disch := first | assumption | omega | rfl | (refine id ?_; simp only [gxD, ne_eq, reduceCtorEq, not_false_eq_true, Nat.reduceAdd, *]; done) | (refine id ?_; simp only [gxD]; omega)) only [↓gxPre, gxPost, ↓reduceIte, Nat.reduceEqDiff, reduceCtorEq, Nat.reduceAdd, g1, hv0.len]
  refine loop_forH xs0.length (fun i => [.int .i64 a1, .pointer (some ⟨H.n, 0, some 3⟩), .int .i64 (bestI m n a1 xs0 i), v0, .int .i64 xs0.length, .int .i64 i])
    (fun i F => Ext G F) rfl (.refl _) ?_ ?_
  · rintro F eF
    have g1F := (eF.blk _ (by omega)).trans g1
    have hvF := hv0.ext eF
    have hb := bestI_lt m n a1 xs0 xs0.length
    simp (disch := first | assumption | omega | rfl | (refine id ?_; simp only [gxD, ne_eq, reduceCtorEq, not_false_eq_true, Nat.reduceAdd, *]; done) | (refine id ?_; simp only [gxD]; omega)) only [↓gxPre, gxPost, ↓reduceIte, Nat.reduceEqDiff, reduceCtorEq, Nat.reduceAdd, Int.lt_irrefl]
    by_cases c1 : bestI m n a1 xs0 xs0.length < 0
    · simp (disch := first | assumption | omega | rfl | (refine id ?_; simp only [gxD, ne_eq, reduceCtorEq, not_false_eq_true, Nat.reduceAdd, *]; done) | (refine id ?_; simp only [gxD]; omega)) only [↓gxPre, gxPost, ↓reduceIte, Nat.reduceEqDiff, reduceCtorEq, Nat.reduceAdd, c1]
      exact ⟨(roughV_no (by simp only [Int.toNat_natCast, decide_eq_false (by omega : ¬ (0 : Int) ≤ bestI m n a1 xs0 xs0.length), Bool.false_and, Bool.true_and, Bool.and_true, Bool.and_false, Bool.or_true, Bool.true_or, Bool.false_or, Bool.or_false, Bool.and_self, Bool.or_self])).symm, e1.trans eF⟩
    · obtain ⟨k, hk⟩ : ∃ k : Nat, bestI m n a1 xs0 xs0.length = k := ⟨(bestI m n a1 xs0 xs0.length).toNat, by omega⟩
      rw [roughV_yes h1 h2 hk]
      rw [hk] at hb c1 ⊢
      have hm0 : (m : Int) ≠ 0 := by omega
      obtain ⟨t, ht⟩ : ∃ t, t = k / m := ⟨_, rfl⟩
      obtain ⟨u, hu⟩ : ∃ u, u = k % m := ⟨_, rfl⟩
      have hq : ((k : Nat) : Int).tdiv (m : Int) = (t : Int) := by rw [tdivN, ht]
      have hr : ((k : Nat) : Int).tmod (m : Int) = (u : Int) := by rw [tmodN, hu]
      have htb : t ≤ k := by rw [ht]; exact Nat.div_le_self _ _
      have hw1 : IntKind.wrap .i64 (t : Int) = (t : Int) := wrN _ (by omega)
      rw [← ht, ← hu]
      simp (disch := first | assumption | omega | rfl | (refine id ?_; simp only [gxD, ne_eq, reduceCtorEq, not_false_eq_true, Nat.reduceAdd, *]; done) | (refine id ?_; simp only [gxD]; omega)) only [↓gxPre, gxPost, ↓reduceIte, Nat.reduceEqDiff, reduceCtorEq, Nat.reduceAdd, c1, g1F, hq, hr, hw1, hvF.ia, hvF.ld]
      refine callR_pure i_size_ok (by first | exact .inl rfl | (simp (disch := first | assumption | omega | rfl | (refine id ?_; simp only [gxD, ne_eq, reduceCtorEq, not_false_eq_true, Nat.reduceAdd, *]; done) | (refine id ?_; simp only [gxD]; omega)) only [↓gxPre, gxPost, ↓reduceIte, Nat.reduceEqDiff, reduceCtorEq, Nat.reduceAdd, *]; done) | (simp (disch := first | assumption | omega | rfl | (refine id ?_; simp only [gxD, ne_eq, reduceCtorEq, not_false_eq_true, Nat.reduceAdd, *]; done) | (refine id ?_; simp only [gxD]; omega)) only [↓gxPre, gxPost, ↓reduceIte, Nat.reduceEqDiff, reduceCtorEq, Nat.reduceAdd, imp_self, true_implies, false_implies, implies_true, *]; done)) ?_
      simp (disch := first | assumption | omega | rfl | (refine id ?_; simp only [gxD, ne_eq, reduceCtorEq, not_false_eq_true, Nat.reduceAdd, *]; done) | (refine id ?_; simp only [gxD]; omega)) only [↓gxPre, gxPost, ↓reduceIte, Nat.reduceEqDiff, reduceCtorEq, Nat.reduceAdd, c1, g1F, hq, hr, hw1, hvF.ia, hvF.ld]
      exact e1.trans eF
  · rintro i F hi eF
    have g1F := (eF.blk _ (by omega)).trans g1
    have hvF := hv0.ext eF
    have hb := bestI_lt m n a1 xs0 i
    simp (disch := first | assumption | omega | rfl | (refine id ?_; simp only [gxD, ne_eq, reduceCtorEq, not_false_eq_true, Nat.reduceAdd, *]; done) | (refine id ?_; simp only [gxD]; omega)) only [↓gxPre, gxPost, ↓reduceIte, Nat.reduceEqDiff, reduceCtorEq, Nat.reduceAdd, hvF.ia, hvF.ld, g1F]
    refine callR_ext (i_isCoarse_ok hvF q1 q2 q4 h2 (by omega)) ?_
    intro M nM bM
    have eM : Ext F M := ⟨nM, bM⟩
    have g1M := (eM.blk _ (by have := eF.n; omega)).trans g1F
    have hvM := hvF.ext eM
    rw [bestI_succ]
    cases hc : coarseF m n a1 i
    rotate_left
    · simp (disch := first | assumption | omega | rfl | (refine id ?_; simp only [gxD, ne_eq, reduceCtorEq, not_false_eq_true, Nat.reduceAdd, *]; done) | (refine id ?_; simp only [gxD]; omega)) only [↓gxPre, gxPost, ↓reduceIte, Nat.reduceEqDiff, reduceCtorEq, Nat.reduceAdd, imp_self, true_implies, false_implies, implies_true]
      try simp only [Option.some.injEq, Bool.false_eq_true, false_implies, true_and, and_self]
      simp only [Bool.false_and, Bool.true_and, Bool.and_true, Bool.and_false, Bool.or_true, Bool.true_or, Bool.false_or, Bool.or_false, Bool.and_self, Bool.or_self, Bool.not_true, Bool.false_eq_true, if_false]
      exact ⟨by simp, eF.trans eM⟩
    by_cases c1 : bestI m n a1 xs0 i < 0
    · simp (disch := first | assumption | omega | rfl | (refine id ?_; simp only [gxD, ne_eq, reduceCtorEq, not_false_eq_true, Nat.reduceAdd, *]; done) | (refine id ?_; simp only [gxD]; omega)) only [↓gxPre, gxPost, ↓reduceIte, Nat.reduceEqDiff, reduceCtorEq, Nat.reduceAdd, c1, imp_self, true_implies, false_implies, implies_true]
      try simp only [Option.some.injEq, Bool.false_eq_true, false_implies, true_and, and_self]
      simp only [Bool.false_and, Bool.true_and, Bool.and_true, Bool.and_false, Bool.or_true, Bool.true_or, Bool.false_or, Bool.or_false, Bool.and_self, Bool.or_self, Bool.not_false, decide_eq_true c1, if_true]
      exact ⟨by simp, eF.trans eM⟩
    obtain ⟨k, hk⟩ : ∃ k : Nat, bestI m n a1 xs0 i = k := ⟨(bestI m n a1 xs0 i).toNat, by omega⟩
    rw [hk] at hb c1 ⊢
    simp (disch := first | assumption | omega | rfl | (refine id ?_; simp only [gxD, ne_eq, reduceCtorEq, not_false_eq_true, Nat.reduceAdd, *]; done) | (refine id ?_; simp only [gxD]; omega)) only [↓gxPre, gxPost, ↓reduceIte, Nat.reduceEqDiff, reduceCtorEq, Nat.reduceAdd, c1, g1M, hvM.ia, hvM.ld, imp_self, true_implies, false_implies, implies_true]
    refine callR_pure i_size_ok (by first | exact .inl rfl | (simp (disch := first | assumption | omega | rfl | (refine id ?_; simp only [gxD, ne_eq, reduceCtorEq, not_false_eq_true, Nat.reduceAdd, *]; done) | (refine id ?_; simp only [gxD]; omega)) only [↓gxPre, gxPost, ↓reduceIte, Nat.reduceEqDiff, reduceCtorEq, Nat.reduceAdd, *]; done) | (simp (disch := first | assumption | omega | rfl | (refine id ?_; simp only [gxD, ne_eq, reduceCtorEq, not_false_eq_true, Nat.reduceAdd, *]; done) | (refine id ?_; simp only [gxD]; omega)) only [↓gxPre, gxPost, ↓reduceIte, Nat.reduceEqDiff, reduceCtorEq, Nat.reduceAdd, hvM.ia, hvM.ld, imp_self, true_implies, false_implies, implies_true, *]; done)) ?_
    simp (disch := first | assumption | omega | rfl | (refine id ?_; simp only [gxD, ne_eq, reduceCtorEq, not_false_eq_true, Nat.reduceAdd, *]; done) | (refine id ?_; simp only [gxD]; omega)) only [↓gxPre, gxPost, ↓reduceIte, Nat.reduceEqDiff, reduceCtorEq, Nat.reduceAdd, c1, g1M, hvM.ia, hvM.ld, imp_self, true_implies, false_implies, implies_true]
    refine callR_pure i_size_ok (by first | exact .inl rfl | (simp (disch := first | assumption | omega | rfl | (refine id ?_; simp only [gxD, ne_eq, reduceCtorEq, not_false_eq_true, Nat.reduceAdd, *]; done) | (refine id ?_; simp only [gxD]; omega)) only [↓gxPre, gxPost, ↓reduceIte, Nat.reduceEqDiff, reduceCtorEq, Nat.reduceAdd, *]; done) | (simp (disch := first | assumption | omega | rfl | (refine id ?_; simp only [gxD, ne_eq, reduceCtorEq, not_false_eq_true, Nat.reduceAdd, *]; done) | (refine id ?_; simp only [gxD]; omega)) only [↓gxPre, gxPost, ↓reduceIte, Nat.reduceEqDiff, reduceCtorEq, Nat.reduceAdd, imp_self, true_implies, false_implies, implies_true, *]; done)) ?_
    simp only [sizeX, Int.toNat_natCast, Bool.not_false, Bool.true_and, decide_eq_false c1, Bool.false_or]
    cases hg : fcB .gtr .f32 (sizeF (xs0.getD i 0)) (sizeF (xs0.getD k 0))
    · simp (disch := first | assumption | omega | rfl | (refine id ?_; simp only [gxD, ne_eq, reduceCtorEq, not_false_eq_true, Nat.reduceAdd, *]; done) | (refine id ?_; simp only [gxD]; omega)) only [↓gxPre, gxPost, ↓reduceIte, Nat.reduceEqDiff, reduceCtorEq, Nat.reduceAdd, hg, imp_self, true_implies, false_implies, implies_true]
      exact ⟨by simp, eF.trans eM⟩
    · simp (disch := first | assumption | omega | rfl | (refine id ?_; simp only [gxD, ne_eq, reduceCtorEq, not_false_eq_true, Nat.reduceAdd, *]; done) | (refine id ?_; simp only [gxD]; omega)) only [↓gxPre, gxPost, ↓reduceIte, Nat.reduceEqDiff, reduceCtorEq, Nat.reduceAdd, hg, imp_self, true_implies, false_implies, implies_true]
      exact ⟨by simp, eF.trans eM⟩
theorem s_RoughestPlace_core {H : Heap} {a0 c0 a1 : Int} {v0 : Value} {xs0 : List Nat} (A0 : AF H v0 xs0) (b0 : -9223372036854775808 ≤ a0 ∧ a0 ≤ 9223372036854775807) (d0 : -9223372036854775808 ≤ c0 ∧ c0 ≤ 9223372036854775807) (b1 : -9223372036854775808 ≤ a1 ∧ a1 ≤ 9223372036854775807) :
    ACalls Try.prog n_s_RoughestPlace [.agg #[.int .i64 a0, .int .i64 c0, v0], .int .i64 a1] H fun r H' => r = roughV a0 c0 xs0 a1 ∧ Ext H H' := by
  refine k_s_RoughestPlace.run rfl ?_
  unfold c_s_RoughestPlace
  have o0 := A0.rd.one
  simp (disch := first | assumption | omega | rfl | (refine id ?_; simp only [gxD, ne_eq, reduceCtorEq, not_false_eq_true, Nat.reduceAdd, *]; done) | (refine id ?_; simp only [gxD]; omega)) only [↓gxPre, gxPost, ↓reduceIte, Nat.reduceEqDiff, reduceCtorEq, Nat.reduceAdd]
  refine callR_new ?_
  intro G e1 g1 n0
  refine callR_pure (s_l04Is_ok g1 (A0.rd.ext e1) A0.le) (.inl rfl) ?_
  cases h1 : validPicF a0 c0 xs0
  · simp (disch := first | assumption | omega | rfl | (refine id ?_; simp only [gxD, ne_eq, reduceCtorEq, not_false_eq_true, Nat.reduceAdd, *]; done) | (refine id ?_; simp only [gxD]; omega)) only [↓gxPre, gxPost, ↓reduceIte, Nat.reduceEqDiff, reduceCtorEq, Nat.reduceAdd]
    exact ⟨(roughV_no (by simp only [h1, Bool.false_and, Bool.true_and, Bool.and_true, Bool.and_false, Bool.or_true, Bool.true_or, Bool.false_or, Bool.or_false, Bool.and_self, Bool.or_self])).symm, e1⟩
  simp (disch := first | assumption | omega | rfl | (refine id ?_; simp only [gxD, ne_eq, reduceCtorEq, not_false_eq_true, Nat.reduceAdd, *]; done) | (refine id ?_; simp only [gxD]; omega)) only [↓gxPre, gxPost, ↓reduceIte, Nat.reduceEqDiff, reduceCtorEq, Nat.reduceAdd]
  refine callR_pure s_l04Levels_ok (.inl rfl) ?_
  cases h2 : within a1 1 4
  · simp (disch := first | assumption | omega | rfl | (refine id ?_; simp only [gxD, ne_eq, reduceCtorEq, not_false_eq_true, Nat.reduceAdd, *]; done) | (refine id ?_; simp only [gxD]; omega)) only [↓gxPre, gxPost, ↓reduceIte, Nat.reduceEqDiff, reduceCtorEq, Nat.reduceAdd]
    exact ⟨(roughV_no (by simp only [h2, Bool.false_and, Bool.true_and, Bool.and_true, Bool.and_false, Bool.or_true, Bool.true_or, Bool.false_or, Bool.or_false, Bool.and_self, Bool.or_self])).symm, e1⟩
  obtain ⟨m, n, rfl, rfl, q1, q2, q3, q4, q5, q6⟩ := valid_sides h1
  have hle := valid_len h1
  have hv0 := A0.rd.ext e1
  have hm : IntKind.wrap .i64 ((m : Int) * (n : Int)) = ((xs0.length : Nat) : Int) := by rw [mulN, ← q5, wrN _ (by omega)]
  simp (disch := first | assumption | omega | rfl | (refine id ?_; simp only [gxD, ne_eq, reduceCtorEq, not_false_eq_true, Nat.reduceAdd, *]; done) | (refine id ?_; simp only [gxD]; omega)) only [↓gxPre, gxPost, ↓reduceIte, Nat.reduceEqDiff, reduceCtorEq, Nat.reduceAdd]
  refine loop_forH xs0.length (fun i => [.int .i64 a1, .pointer (some ⟨H.n, 0, some 3⟩), .int .i64 (bestI m n a1 xs0 i), .float .f32 (if bestI m n a1 xs0 i < 0 then 0 else sizeX xs0 (bestI m n a1 xs0 i)), .int .i64 i])
    (fun i F => F = G) rfl rfl ?_ ?_
  · rintro _ rfl
    have hb := bestI_lt m n a1 xs0 xs0.length
    simp (disch := first | assumption | omega | rfl | (refine id ?_; simp only [gxD, ne_eq, reduceCtorEq, not_false_eq_true, Nat.reduceAdd, *]; done) | (refine id ?_; simp only [gxD]; omega)) only [↓gxPre, gxPost, ↓reduceIte, Nat.reduceEqDiff, reduceCtorEq, Nat.reduceAdd, g1, hm, Int.lt_irrefl]
    by_cases c1 : bestI m n a1 xs0 xs0.length < 0
    · simp (disch := first | assumption | omega | rfl | (refine id ?_; simp only [gxD, ne_eq, reduceCtorEq, not_false_eq_true, Nat.reduceAdd, *]; done) | (refine id ?_; simp only [gxD]; omega)) only [↓gxPre, gxPost, ↓reduceIte, Nat.reduceEqDiff, reduceCtorEq, Nat.reduceAdd, c1]
      exact ⟨(roughV_no (by simp only [Int.toNat_natCast, decide_eq_false (by omega : ¬ (0 : Int) ≤ bestI m n a1 xs0 xs0.length), Bool.false_and, Bool.true_and, Bool.and_true, Bool.and_false, Bool.or_true, Bool.true_or, Bool.false_or, Bool.or_false, Bool.and_self, Bool.or_self])).symm, e1⟩
    · obtain ⟨k, hk⟩ : ∃ k : Nat, bestI m n a1 xs0 xs0.length = k := ⟨(bestI m n a1 xs0 xs0.length).toNat, by omega⟩
      rw [roughV_yes h1 h2 hk]
      rw [if_neg c1]
      rw [hk] at hb c1 ⊢
      have hm0 : (m : Int) ≠ 0 := by omega
      obtain ⟨t, ht⟩ : ∃ t, t = k / m := ⟨_, rfl⟩
      obtain ⟨u, hu⟩ : ∃ u, u = k % m := ⟨_, rfl⟩
      have hq : ((k : Nat) : Int).tdiv (m : Int) = (t : Int) := by rw [tdivN, ht]
      have hr : ((k : Nat) : Int).tmod (m : Int) = (u : Int) := by rw [tmodN, hu]
      have htb : t ≤ k := by rw [ht]; exact Nat.div_le_self _ _
      have hw1 : IntKind.wrap .i64 (t : Int) = (t : Int) := wrN _ (by omega)
      rw [← ht, ← hu]
      simp (disch := first | assumption | omega | rfl | (refine id ?_; simp only [gxD, ne_eq, reduceCtorEq, not_false_eq_true, Nat.reduceAdd, *]; done) | (refine id ?_; simp only [gxD]; omega)) only [↓gxPre, gxPost, ↓reduceIte, Nat.reduceEqDiff, reduceCtorEq, Nat.reduceAdd, c1, g1, hq, hr, hw1]
      exact ⟨rfl, e1⟩
  · rintro i _ hi rfl
    have hb := bestI_lt m n a1 xs0 i
    simp (disch := first | assumption | omega | rfl | (refine id ?_; simp only [gxD, ne_eq, reduceCtorEq, not_false_eq_true, Nat.reduceAdd, *]; done) | (refine id ?_; simp only [gxD]; omega)) only [↓gxPre, gxPost, ↓reduceIte, Nat.reduceEqDiff, reduceCtorEq, Nat.reduceAdd, g1, hm, hv0.ia, hv0.ld]
    refine callR_pure (s_l02Size_ok (A0.w i)) (by first | exact .inl rfl | (simp (disch := first | assumption | omega | rfl | (refine id ?_; simp only [gxD, ne_eq, reduceCtorEq, not_false_eq_true, Nat.reduceAdd, *]; done) | (refine id ?_; simp only [gxD]; omega)) only [↓gxPre, gxPost, ↓reduceIte, Nat.reduceEqDiff, reduceCtorEq, Nat.reduceAdd, *]; done)) ?_
    simp (disch := first | assumption | omega | rfl | (refine id ?_; simp only [gxD, ne_eq, reduceCtorEq, not_false_eq_true, Nat.reduceAdd, *]; done) | (refine id ?_; simp only [gxD]; omega)) only [↓gxPre, gxPost, ↓reduceIte, Nat.reduceEqDiff, reduceCtorEq, Nat.reduceAdd]
    refine callR_pure (s_l04Coarse_ok g1 q1 q2 q4 h2 (by omega)) (.inl rfl) ?_
    rw [bestI_succ]
    cases hc : coarseF m n a1 i
    rotate_left
    · simp (disch := first | assumption | omega | rfl | (refine id ?_; simp only [gxD, ne_eq, reduceCtorEq, not_false_eq_true, Nat.reduceAdd, *]; done) | (refine id ?_; simp only [gxD]; omega)) only [↓gxPre, gxPost, ↓reduceIte, Nat.reduceEqDiff, reduceCtorEq, Nat.reduceAdd]
      try simp only [Option.some.injEq, Bool.false_eq_true, false_implies, true_and, and_self]
      simp only [Bool.false_and, Bool.true_and, Bool.and_true, Bool.and_false, Bool.or_true, Bool.true_or, Bool.false_or, Bool.or_false, Bool.and_self, Bool.or_self, Bool.not_true, Bool.false_eq_true, if_false]
      simp
    by_cases c1 : bestI m n a1 xs0 i < 0
    · simp (disch := first | assumption | omega | rfl | (refine id ?_; simp only [gxD, ne_eq, reduceCtorEq, not_false_eq_true, Nat.reduceAdd, *]; done) | (refine id ?_; simp only [gxD]; omega)) only [↓gxPre, gxPost, ↓reduceIte, Nat.reduceEqDiff, reduceCtorEq, Nat.reduceAdd, c1]
      try simp only [Option.some.injEq, Bool.false_eq_true, false_implies, true_and, and_self]
      simp only [Bool.false_and, Bool.true_and, Bool.and_true, Bool.and_false, Bool.or_true, Bool.true_or, Bool.false_or, Bool.or_false, Bool.and_self, Bool.or_self, Bool.not_false, decide_eq_true c1, if_true]
      simp [sizeX]
      try omega
    obtain ⟨k, hk⟩ : ∃ k : Nat, bestI m n a1 xs0 i = k := ⟨(bestI m n a1 xs0 i).toNat, by omega⟩
    rw [if_neg c1]
    rw [hk] at hb c1 ⊢
    simp only [sizeX, Int.toNat_natCast, Bool.not_false, Bool.true_and, decide_eq_false c1, Bool.false_or]
    simp (disch := first | assumption | omega | rfl | (refine id ?_; simp only [gxD, ne_eq, reduceCtorEq, not_false_eq_true, Nat.reduceAdd, *]; done) | (refine id ?_; simp only [gxD]; omega)) only [↓gxPre, gxPost, ↓reduceIte, Nat.reduceEqDiff, reduceCtorEq, Nat.reduceAdd, c1]
    cases hg : fcB .gtr .f32 (sizeF (xs0.getD i 0)) (sizeF (xs0.getD k 0))
    · simp (disch := first | assumption | omega | rfl | (refine id ?_; simp only [gxD, ne_eq, reduceCtorEq, not_false_eq_true, Nat.reduceAdd, *]; done) | (refine id ?_; simp only [gxD]; omega)) only [↓gxPre, gxPost, ↓reduceIte, Nat.reduceEqDiff, reduceCtorEq, Nat.reduceAdd, hg]
      simp [c1]
    · simp (disch := first | assumption | omega | rfl | (refine id ?_; simp only [gxD, ne_eq, reduceCtorEq, not_false_eq_true, Nat.reduceAdd, *]; done) | (refine id ?_; simp only [gxD]; omega)) only [↓gxPre, gxPost, ↓reduceIte, Nat.reduceEqDiff, reduceCtorEq, Nat.reduceAdd, hg]
      simp
      try omega
theorem i_RoughestPlace_law {H : Heap} {a0 c0 a1 : Int} {v0 : Value} {xs0 : List Nat} (A0 : AF H v0 xs0) (b0 : -9223372036854775808 ≤ a0 ∧ a0 ≤ 9223372036854775807) (d0 : -9223372036854775808 ≤ c0 ∧ c0 ≤ 9223372036854775807) (b1 : -9223372036854775808 ≤ a1 ∧ a1 ≤ 9223372036854775807) :
    ACalls Try.prog n_i_RoughestPlace [.agg #[.int .i64 a0, .int .i64 c0, v0], .int .i64 a1] H fun r H' => r = .tuple #[.int .i64 (roughX a0 c0 xs0 a1), .int .i64 (roughY a0 c0 xs0 a1), .float .f32 (roughS a0 c0 xs0 a1), .bool (roughO a0 c0 xs0 a1)] ∧ Ext H H' := by
  rw [← roughV_eq]
  exact i_RoughestPlace_core A0 b0 d0 b1
theorem s_RoughestPlace_law {H : Heap} {a0 c0 a1 : Int} {v0 : Value} {xs0 : List Nat} (A0 : AF H v0 xs0) (b0 : -9223372036854775808 ≤ a0 ∧ a0 ≤ 9223372036854775807) (d0 : -9223372036854775808 ≤ c0 ∧ c0 ≤ 9223372036854775807) (b1 : -9223372036854775808 ≤ a1 ∧ a1 ≤ 9223372036854775807) :
    ACalls Try.prog n_s_RoughestPlace [.agg #[.int .i64 a0, .int .i64 c0, v0], .int .i64 a1] H fun r H' => r = .tuple #[.int .i64 (roughX a0 c0 xs0 a1), .int .i64 (roughY a0 c0 xs0 a1), .float .f32 (roughS a0 c0 xs0 a1), .bool (roughO a0 c0 xs0 a1)] ∧ Ext H H' := by
  rw [← roughV_eq]
  exact s_RoughestPlace_core A0 b0 d0 b1
end Go.Proofs.Ytkojmlpaamdhoab
