/- What the functions of the program do: contracts that are proved. -/
import Derived.Test.YtkojmlpaamdhoadLinkMaximaXAToXS
namespace Go.Proofs.Ytkojmlpaamdhoad
open Go.Gx
set_option maxRecDepth 100000
set_option linter.unusedSimpArgs false
set_option linter.unusedVariables false

def apart (a b : Int) : Int := max (a - b) (b - a)
/-- The nearest number and if it lies near, among the first numbers of a list. -/
def nearI (l : List Int) (p n : Int) : Nat → Int × Bool
  | 0 => (0, false)
  | i + 1 => if apart (l.getD i 0) p ≤ n ∧ ((nearI l p n i).2 = false ∨ apart (l.getD i 0) p < apart (nearI l p n i).1 p) then (l.getD i 0, true) else nearI l p n i
def nixI (l : List Int) (p : Int) : Nat → Int
  | 0 => -1
  | i + 1 => if nixI l p i < 0 ∨ apart (l.getD i 0) p < apart (l.getD (nixI l p i).toNat 0) p then (i : Int) else nixI l p i
theorem nixI_b (l : List Int) (p : Int) : ∀ i, -1 ≤ nixI l p i ∧ nixI l p i < i
  | 0 => by simp [nixI]
  | i + 1 => by
    have := nixI_b l p i
    simp only [nixI]
    split <;> omega
def pckI (l : List Int) (p n b : Int) : Int × Bool := if 0 ≤ b ∧ apart (l.getD b.toNat 0) p ≤ n then (l.getD b.toNat 0, true) else (0, false)
theorem near_nix (l : List Int) (p n : Int) : ∀ i, nearI l p n i = pckI l p n (nixI l p i)
  | 0 => by simp [nixI, nearI, pckI]
  | i + 1 => by
    have ih := near_nix l p n i
    have hb := nixI_b l p i
    have hi : pckI l p n (i : Int) = if apart (l.getD i 0) p ≤ n then (l.getD i 0, true) else (0, false) := by simp [pckI]
    simp only [nearI]
    by_cases h0 : nixI l p i < 0
    · have e : nixI l p (i + 1) = i := if_pos (.inl h0)
      have e2 : nearI l p n i = (0, false) := by rw [ih, pckI, if_neg (by omega)]
      rw [e, e2, hi]
      simp
    · by_cases h1 : apart (l.getD (nixI l p i).toNat 0) p ≤ n
      · have e2 : nearI l p n i = (l.getD (nixI l p i).toNat 0, true) := by rw [ih, pckI, if_pos ⟨by omega, h1⟩]
        rw [e2]
        simp only [Bool.true_eq_false, false_or]
        by_cases h2 : apart (l.getD i 0) p < apart (l.getD (nixI l p i).toNat 0) p
        · have e : nixI l p (i + 1) = i := if_pos (.inr h2)
          rw [e, hi, if_pos ⟨by omega, h2⟩, if_pos (by omega)]
        · have e : nixI l p (i + 1) = nixI l p i := if_neg (by omega)
          rw [e, if_neg (fun h => h2 h.2), ← ih, e2]
      · have e2 : nearI l p n i = (0, false) := by rw [ih, pckI, if_neg (fun h => h1 h.2)]
        rw [e2]
        simp only [true_or, and_true]
        by_cases h2 : apart (l.getD i 0) p < apart (l.getD (nixI l p i).toNat 0) p
        · have e : nixI l p (i + 1) = i := if_pos (.inr h2)
          rw [e, hi]
        · have e : nixI l p (i + 1) = nixI l p i := if_neg (by omega)
          rw [e, if_neg (by omega), ← ih, e2]
theorem nearI_b {l : List Int} {p n : Int} (hb : ∀ j, 0 ≤ l.getD j 0 ∧ l.getD j 0 ≤ 2 ^ 40) : ∀ i, 0 ≤ (nearI l p n i).1 ∧ (nearI l p n i).1 ≤ 2 ^ 40
  | 0 => by simp [nearI]
  | i + 1 => by
    simp only [nearI]
    split
    · exact hb i
    · exact nearI_b hb i
def maxL (xs : List Nat) : List Int := maximaL xs xs.length
theorem maxL_b (xs : List Nat) (j : Nat) : 0 ≤ (maxL xs).getD j 0 ∧ (maxL xs).getD j 0 ≤ xs.length := by
  by_cases hj : j < (maxL xs).length
  · have hm : (maxL xs).getD j 0 ∈ maxL xs := by rw [List.getD_eq_getElem?_getD, List.getElem?_eq_getElem hj]; exact List.getElem_mem hj
    unfold maxL maximaL at hm
    obtain ⟨k, hk, he⟩ := List.mem_map.1 hm
    have := List.mem_range.1 (List.mem_filter.1 hk).1
    unfold maxL maximaL
    omega
  · rw [List.getD_eq_getElem?_getD, List.getElem?_eq_none (by omega)]
    simp
/-- Where a start has come after so many rows more, and if it goes on. -/
def linkS (xss : List (List Nat)) (near s : Int) : Nat → Int × Bool
  | 0 => (s, true)
  | t + 1 => if (linkS xss near s t).2 = true then nearI (maxL (xss.getD (t + 1) [])) (linkS xss near s t).1 near (maxL (xss.getD (t + 1) [])).length else linkS xss near s t
def lkOut (xss : List (List Nat)) (near : Int) (n i : Nat) : List Int := ((List.range i).filter fun j => (linkS xss near ((maxL (xss.getD 0 [])).getD j 0) n).2).map fun j => (maxL (xss.getD 0 [])).getD j 0
theorem lkOut_len (xss : List (List Nat)) (near : Int) (n i : Nat) : (lkOut xss near n i).length ≤ i := by
  unfold lkOut
  rw [List.length_map]
  exact Nat.le_trans (List.length_filter_le _ _) (by simp)
theorem filt_yes {f : Nat → Bool} {g : Nat → Int} {i : Nat} (h : f i = true) : (((List.range i).filter f).map g).map iv ++ [.int .i64 (g i)] = (((List.range (i + 1)).filter f).map g).map iv := by
  simp [List.range_succ, List.filter_append, h, iv]
theorem filt_no {f : Nat → Bool} {g : Nat → Int} {i : Nat} (h : f i = false) : ((List.range (i + 1)).filter f).map g = ((List.range i).filter f).map g := by
  simp [List.range_succ, List.filter_append, h]
theorem lkOut_yes {xss : List (List Nat)} {near : Int} {n i : Nat} (h : (linkS xss near ((maxL (xss.getD 0 [])).getD i 0) n).2 = true) : (lkOut xss near n i).map iv ++ [.int .i64 ((maxL (xss.getD 0 [])).getD i 0)] = (lkOut xss near n (i + 1)).map iv := filt_yes (f := fun j => (linkS xss near ((maxL (xss.getD 0 [])).getD j 0) n).2) (g := fun j => (maxL (xss.getD 0 [])).getD j 0) h
theorem lkOut_no {xss : List (List Nat)} {near : Int} {n i : Nat} (h : (linkS xss near ((maxL (xss.getD 0 [])).getD i 0) n).2 = false) : lkOut xss near n (i + 1) = lkOut xss near n i := filt_no (f := fun j => (linkS xss near ((maxL (xss.getD 0 [])).getD j 0) n).2) (g := fun j => (maxL (xss.getD 0 [])).getD j 0) h
theorem linkS_stop {xss : List (List Nat)} {near s : Int} {t : Nat} (h : (linkS xss near s t).2 = false) : ∀ k, (linkS xss near s (t + k)).2 = false
  | 0 => h
  | k + 1 => by
    have ih := linkS_stop h k
    show (linkS xss near s (t + k + 1)).2 = false
    simp only [linkS, ih]
    simp
    exact ih
theorem linkS_b {xss : List (List Nat)} {near s : Int} (hs : 0 ≤ s ∧ s ≤ 2 ^ 40) (hl : ∀ j, (xss.getD j []).length ≤ 2 ^ 40) : ∀ t, 0 ≤ (linkS xss near s t).1 ∧ (linkS xss near s t).1 ≤ 2 ^ 40
  | 0 => hs
  | t + 1 => by
    simp only [linkS]
    split
    · exact nearI_b (fun j => by have := maxL_b (xss.getD (t + 1) []) j; have := hl (t + 1); omega) _
    · exact linkS_b hs hl t
theorem i_nearest_ok {H : Heap} {v : Value} {l : List Int} {p n : Int} (hv : IS H v l) (hn : l.length ≤ 2 ^ 40) (hb : ∀ j, 0 ≤ l.getD j 0 ∧ l.getD j 0 ≤ 2 ^ 40) (hp : 0 ≤ p ∧ p ≤ 2 ^ 40) :
    ACalls Try.prog n_i_nearest [v, .int .i64 p, .int .i64 n] H fun r H' => r = .tuple #[.int .i64 (nearI l p n l.length).1, .bool (nearI l p n l.length).2] ∧ H' = H := by
  refine k_i_nearest.run rfl ?_
  unfold c_i_nearest
  simp (disch := first | assumption | omega | rfl | (refine id ?_; simp only [gxD, ne_eq, reduceCtorEq, not_false_eq_true, Nat.reduceAdd, *]; done) | (refine id ?_; simp only [gxD]; omega)) only [↓gxPre, gxPost, ↓reduceIte, Nat.reduceEqDiff, reduceCtorEq, Nat.reduceAdd, hv.len]
  refine loop_for l.length (fun i => [.int .i64 p, .int .i64 n, .int .i64 (nearI l p n i).1, .bool (nearI l p n i).2, v, .int .i64 l.length, .int .i64 i]) rfl ?_ ?_
  · simp (disch := first | assumption | omega | rfl | (refine id ?_; simp only [gxD, ne_eq, reduceCtorEq, not_false_eq_true, Nat.reduceAdd, *]; done) | (refine id ?_; simp only [gxD]; omega)) only [↓gxPre, gxPost, ↓reduceIte, Nat.reduceEqDiff, reduceCtorEq, Nat.reduceAdd, Int.lt_irrefl]
  · intro i hi
    have b1 := hb i
    have b2 := nearI_b (p := p) (n := n) hb i
    by_cases c1 : max (l.getD i 0 - p) (p - l.getD i 0) ≤ n
    rotate_left
    · have hnx : nearI l p n (i + 1) = nearI l p n i := by simp only [nearI]; exact if_neg fun h => c1 h.1
      simp (disch := first | assumption | omega | rfl | (refine id ?_; simp only [gxD, ne_eq, reduceCtorEq, not_false_eq_true, Nat.reduceAdd, *]; done) | (refine id ?_; simp only [gxD]; omega)) only [↓gxPre, gxPost, ↓reduceIte, Nat.reduceEqDiff, reduceCtorEq, Nat.reduceAdd, hv.ia, hv.ld, c1]
      simp [hnx]
    cases hf : (nearI l p n i).2
    · have hnx : nearI l p n (i + 1) = (l.getD i 0, true) := by simp only [nearI]; exact if_pos ⟨c1, .inl hf⟩
      simp (disch := first | assumption | omega | rfl | (refine id ?_; simp only [gxD, ne_eq, reduceCtorEq, not_false_eq_true, Nat.reduceAdd, *]; done) | (refine id ?_; simp only [gxD]; omega)) only [↓gxPre, gxPost, ↓reduceIte, Nat.reduceEqDiff, reduceCtorEq, Nat.reduceAdd, hv.ia, hv.ld, c1, hf]
      simp [hnx]
    by_cases c2 : max (l.getD i 0 - p) (p - l.getD i 0) < max ((nearI l p n i).1 - p) (p - (nearI l p n i).1)
    · have hnx : nearI l p n (i + 1) = (l.getD i 0, true) := by simp only [nearI]; exact if_pos ⟨c1, .inr c2⟩
      simp (disch := first | assumption | omega | rfl | (refine id ?_; simp only [gxD, ne_eq, reduceCtorEq, not_false_eq_true, Nat.reduceAdd, *]; done) | (refine id ?_; simp only [gxD]; omega)) only [↓gxPre, gxPost, ↓reduceIte, Nat.reduceEqDiff, reduceCtorEq, Nat.reduceAdd, hv.ia, hv.ld, c1, hf, c2]
      simp [hnx]
    · have hnx : nearI l p n (i + 1) = nearI l p n i := by simp only [nearI]; exact if_neg fun h => h.2.elim (fun h => by rw [hf] at h; cases h) c2
      simp (disch := first | assumption | omega | rfl | (refine id ?_; simp only [gxD, ne_eq, reduceCtorEq, not_false_eq_true, Nat.reduceAdd, *]; done) | (refine id ?_; simp only [gxD]; omega)) only [↓gxPre, gxPost, ↓reduceIte, Nat.reduceEqDiff, reduceCtorEq, Nat.reduceAdd, hv.ia, hv.ld, c1, hf, c2]
      simp [hnx, hf]
theorem s_l03Apart_ok {H : Heap} {a b : Int} (ha : 0 ≤ a ∧ a ≤ 2 ^ 40) (hb : 0 ≤ b ∧ b ≤ 2 ^ 40) : ACalls Try.prog n_s_l03Apart [.int .i64 a, .int .i64 b] H fun r H' => r = .int .i64 (apart a b) ∧ H' = H := by
  refine k_s_l03Apart.run rfl ?_
  unfold c_s_l03Apart
  by_cases c : a < b
  · have e : apart a b = b - a := by unfold apart; omega
    simp (disch := first | assumption | omega | rfl | (refine id ?_; simp only [gxD, ne_eq, reduceCtorEq, not_false_eq_true, Nat.reduceAdd, *]; done) | (refine id ?_; simp only [gxD]; omega)) only [↓gxPre, gxPost, ↓reduceIte, Nat.reduceEqDiff, reduceCtorEq, Nat.reduceAdd, e]
  · have e : apart a b = a - b := by unfold apart; omega
    simp (disch := first | assumption | omega | rfl | (refine id ?_; simp only [gxD, ne_eq, reduceCtorEq, not_false_eq_true, Nat.reduceAdd, *]; done) | (refine id ?_; simp only [gxD]; omega)) only [↓gxPre, gxPost, ↓reduceIte, Nat.reduceEqDiff, reduceCtorEq, Nat.reduceAdd, e]
theorem i_LinkMaxima_law {H : Heap} {v0 : Value} {xs0 : List (List Nat)} {a1 : Int} (A : AS H v0 xs0) (b1 : -9223372036854775808 ≤ a1 ∧ a1 ≤ 9223372036854775807) :
    ACalls Try.prog n_i_LinkMaxima [v0, .int .i64 a1] H fun r H' => ListR iv t_int64 H (rowsF xs0 12 && within a1 0 128) (lkOut xs0 a1 (xs0.length - 1) (maxL (xs0.getD 0 [])).length) r H' := by
  have hm := A.le
  obtain ⟨us, hu, hul, hus⟩ := A.rd
  refine k_i_LinkMaxima.run rfl ?_
  unfold c_i_LinkMaxima
  simp (disch := first | assumption | omega | rfl | (refine id ?_; simp only [gxD, ne_eq, reduceCtorEq, not_false_eq_true, Nat.reduceAdd, *]; done) | (refine id ?_; simp only [gxD]; omega)) only [↓gxPre, gxPost, ↓reduceIte, Nat.reduceEqDiff, reduceCtorEq, Nat.reduceAdd]
  refine callR_pure (i_areRows_ok A.rd hm) (.inl rfl) ?_
  cases hk : rowsF xs0 12
  · simp (disch := first | assumption | omega | rfl | (refine id ?_; simp only [gxD, ne_eq, reduceCtorEq, not_false_eq_true, Nat.reduceAdd, *]; done) | (refine id ?_; simp only [gxD]; omega)) only [↓gxPre, gxPost, ↓reduceIte, Nat.reduceEqDiff, reduceCtorEq, Nat.reduceAdd, Bool.false_and, Bool.true_and, Bool.and_true, Bool.and_false, Bool.or_true, Bool.true_or, Bool.false_or, Bool.or_false, Bool.and_self, Bool.or_self]
    exact .no rfl (.refl _)
  simp (disch := first | assumption | omega | rfl | (refine id ?_; simp only [gxD, ne_eq, reduceCtorEq, not_false_eq_true, Nat.reduceAdd, *]; done) | (refine id ?_; simp only [gxD]; omega)) only [↓gxPre, gxPost, ↓reduceIte, Nat.reduceEqDiff, reduceCtorEq, Nat.reduceAdd]
  refine callR_pure i_within_ok (.inl rfl) ?_
  cases hw : within a1 0 128
  · simp (disch := first | assumption | omega | rfl | (refine id ?_; simp only [gxD, ne_eq, reduceCtorEq, not_false_eq_true, Nat.reduceAdd, *]; done) | (refine id ?_; simp only [gxD]; omega)) only [↓gxPre, gxPost, ↓reduceIte, Nat.reduceEqDiff, reduceCtorEq, Nat.reduceAdd, Bool.false_and, Bool.true_and, Bool.and_true, Bool.and_false, Bool.or_true, Bool.true_or, Bool.false_or, Bool.or_false, Bool.and_self, Bool.or_self]
    exact .no rfl (.refl _)
  have hy := rows_yes hk
  have hl0 := long_len (hy.2 0 (by omega)).1
  have hu0 := hu.ext (.new H ⟨true, t_int64, []⟩)
  simp (disch := first | assumption | omega | rfl | (refine id ?_; simp only [gxD, ne_eq, reduceCtorEq, not_false_eq_true, Nat.reduceAdd, *]; done) | (refine id ?_; simp only [gxD]; omega)) only [↓gxPre, gxPost, ↓reduceIte, Nat.reduceEqDiff, reduceCtorEq, Nat.reduceAdd, hu0.ia, hu0.ldD, hul, Int.reduceToNat]
  have hll : ∀ j, (xs0.getD j []).length ≤ 2 ^ 40 := fun j => by
    by_cases hj : j < xs0.length
    · have := (hy.2 j hj).2; omega
    · rw [List.getD_eq_getElem?_getD, List.getElem?_eq_none (by omega)]; simp
  refine callR_of (i_maximaOf_ok ((hus 0 (by omega)).ext (.new H _)) (by omega) (A.w 0)) ?_
  rintro _ G ⟨eG, mh, g1, g2, rfl, bm⟩
  rw [show maximaL (xs0.getD 0 []) (xs0.getD 0 []).length = maxL (xs0.getD 0 []) from rfl] at bm ⊢
  have e0 : Ext H G := (Ext.new H _).trans eG
  have b0 := (eG.blk H.n (by simp only [new_n]; omega)).trans (new_self _ _)
  have nG := eG.n
  simp only [new_n] at nG g1
  have hSl : (maxL (xs0.getD 0 [])).length ≤ 128 := Nat.le_trans (maximaL_len _ _) (by omega)
  simp (disch := first | assumption | omega | rfl | (refine id ?_; simp only [gxD, ne_eq, reduceCtorEq, not_false_eq_true, Nat.reduceAdd, *]; done) | (refine id ?_; simp only [gxD]; omega)) only [↓gxPre, gxPost, ↓reduceIte, Nat.reduceEqDiff, reduceCtorEq, Nat.reduceAdd]
  refine loop_forH (maxL (xs0.getD 0 [])).length (fun i => [v0, .int .i64 a1, .slice (some ⟨H.n, 0, none⟩) (lkOut xs0 a1 (xs0.length - 1) i).length (lkOut xs0 a1 (xs0.length - 1) i).length, .slice (some ⟨mh, 0, none⟩) (maxL (xs0.getD 0 [])).length (maxL (xs0.getD 0 [])).length, .int .i64 (maxL (xs0.getD 0 [])).length, .int .i64 i])
    (fun i Q => G.n ≤ Q.n ∧ Ext H Q ∧ Q.blk H.n = some ⟨true, t_int64, (lkOut xs0 a1 (xs0.length - 1) i).map iv⟩ ∧ Q.blk mh = some ⟨true, t_int64, (maxL (xs0.getD 0 [])).map iv⟩) rfl ⟨Nat.le_refl _, e0, b0, bm⟩ ?_ ?_
  · rintro Q ⟨q1, q2, q3, q4⟩
    have hol := lkOut_len xs0 a1 (xs0.length - 1) (maxL (xs0.getD 0 [])).length
    simp (disch := first | assumption | omega | rfl | (refine id ?_; simp only [gxD, ne_eq, reduceCtorEq, not_false_eq_true, Nat.reduceAdd, *]; done) | (refine id ?_; simp only [gxD]; omega)) only [↓gxPre, gxPost, ↓reduceIte, Nat.reduceEqDiff, reduceCtorEq, Nat.reduceAdd, Int.lt_irrefl]
    exact .yes (by simp only [Bool.false_and, Bool.true_and, Bool.and_true, Bool.and_false, Bool.or_true, Bool.true_or, Bool.false_or, Bool.or_false, Bool.and_self, Bool.or_self]) q2 (.mk q3 (by simp) (by first | omega | (simp only [new_n, put_n]; omega)) (by omega) (by omega)) (by omega)
  · rintro i Q hi ⟨q1, q2, q3, q4⟩
    have hS : IS Q (.slice (some ⟨mh, 0, none⟩) (maxL (xs0.getD 0 [])).length (maxL (xs0.getD 0 [])).length) (maxL (xs0.getD 0 [])) := IS.own q4 (by omega) rfl
    simp (disch := first | assumption | omega | rfl | (refine id ?_; simp only [gxD, ne_eq, reduceCtorEq, not_false_eq_true, Nat.reduceAdd, *]; done) | (refine id ?_; simp only [gxD]; omega)) only [↓gxPre, gxPost, ↓reduceIte, Nat.reduceEqDiff, reduceCtorEq, Nat.reduceAdd, hS.ia, hS.ld]
    obtain ⟨s, hs⟩ : ∃ s, s = (maxL (xs0.getD 0 [])).getD i 0 := ⟨_, rfl⟩
    obtain ⟨n, hn⟩ : ∃ n, n = xs0.length - 1 := ⟨_, rfl⟩
    have hsb : 0 ≤ s ∧ s ≤ 2 ^ 40 := by rw [hs]; have := maxL_b (xs0.getD 0 []) i; omega
    have hlb := lkOut_len xs0 a1 n i
    have hyes := lkOut_yes (xss := xs0) (near := a1) (n := n) (i := i)
    have hno := lkOut_no (xss := xs0) (near := a1) (n := n) (i := i)
    rw [← hs] at hyes hno ⊢
    rw [← hn] at q3 ⊢
    have huQ := hu.ext q2
    have hit : ((lkOut xs0 a1 n i).map iv).length = (lkOut xs0 a1 n i).length := by simp
    refine loop_forH n (fun t => [v0, .int .i64 a1, .slice (some ⟨H.n, 0, none⟩) (lkOut xs0 a1 n i).length (lkOut xs0 a1 n i).length, .int .i64 s, .int .i64 (linkS xs0 a1 s t).1, .bool (linkS xs0 a1 s t).2, .int .i64 ((t : Int) + 1), .slice (some ⟨mh, 0, none⟩) (maxL (xs0.getD 0 [])).length (maxL (xs0.getD 0 [])).length, .int .i64 (maxL (xs0.getD 0 [])).length, .int .i64 i])
      (fun t F => Q.n ≤ F.n ∧ Ext Q F) rfl ⟨Nat.le_refl _, .refl Q⟩ ?_ ?_
    · rintro F ⟨f1, f2⟩
      have c : ¬ (n : Int) + 1 < xs0.length := by omega
      have q3F := (f2.blk _ (by omega)).trans q3
      have q4F := (f2.blk _ (by omega)).trans q4
      cases hl : (linkS xs0 a1 s n).2
      · rw [hno hl]
        simp (disch := first | assumption | omega | rfl | (refine id ?_; simp only [gxD, ne_eq, reduceCtorEq, not_false_eq_true, Nat.reduceAdd, *]; done) | (refine id ?_; simp only [gxD]; omega)) only [↓gxPre, gxPost, ↓reduceIte, Nat.reduceEqDiff, reduceCtorEq, Nat.reduceAdd, huQ.len, hul, c]
        exact ⟨by simp, by omega, q2.trans f2, q3F, q4F⟩
      · obtain ⟨p1, p2, p3, p4⟩ := push_at (q2.trans f2) q3F (Nat.le_refl _) (by omega) (hyes hl)
        have hlen2 : (lkOut xs0 a1 n (i + 1)).length = (lkOut xs0 a1 n i).length + 1 := by
          have := congrArg List.length (hyes hl)
          simp at this
          omega
        simp (disch := first | assumption | omega | rfl | (refine id ?_; simp only [gxD, ne_eq, reduceCtorEq, not_false_eq_true, Nat.reduceAdd, *]; done) | (refine id ?_; simp only [gxD]; omega)) only [↓gxPre, gxPost, ↓reduceIte, Nat.reduceEqDiff, reduceCtorEq, Nat.reduceAdd, huQ.len, hul, c, q3F]
        exact ⟨by rw [hlen2]; simp, by omega, p1, by rw [hyes hl], q4F⟩
    · rintro t F ht ⟨f1, f2⟩
      have c : (t : Int) + 1 < xs0.length := by omega
      have q3F := (f2.blk _ (by omega)).trans q3
      have q4F := (f2.blk _ (by omega)).trans q4
      have huF := huQ.ext f2
      cases hl : (linkS xs0 a1 s t).2
      · have hl2 : (linkS xs0 a1 s n).2 = false := by have := linkS_stop hl (n - t); rw [show t + (n - t) = n by omega] at this; exact this
        rw [hno hl2]
        simp (disch := first | assumption | omega | rfl | (refine id ?_; simp only [gxD, ne_eq, reduceCtorEq, not_false_eq_true, Nat.reduceAdd, *]; done) | (refine id ?_; simp only [gxD]; omega)) only [↓gxPre, gxPost, ↓reduceIte, Nat.reduceEqDiff, reduceCtorEq, Nat.reduceAdd, huQ.len, hul, c]
        exact ⟨by simp, by omega, q2.trans f2, q3F, q4F⟩
      · have e2 : ((t : Int) + 1).toNat = t + 1 := by omega
        have hlk : linkS xs0 a1 s (t + 1) = nearI (maxL (xs0.getD (t + 1) [])) (linkS xs0 a1 s t).1 a1 (maxL (xs0.getD (t + 1) [])).length := if_pos hl
        simp (disch := first | assumption | omega | rfl | (refine id ?_; simp only [gxD, ne_eq, reduceCtorEq, not_false_eq_true, Nat.reduceAdd, *]; done) | (refine id ?_; simp only [gxD]; omega)) only [↓gxPre, gxPost, ↓reduceIte, Nat.reduceEqDiff, reduceCtorEq, Nat.reduceAdd, huF.len, huF.ia, huF.ldD, hul, c, e2]
        refine callR_of (i_maximaOf_ok ((hus (t + 1) (by omega)).ext (q2.trans f2)) (hll _) (A.w _)) ?_
        rintro _ M ⟨eM, kh, k1, k2, rfl, bk⟩
        have bk2 : M.blk kh = some ⟨true, t_int64, (maxL (xs0.getD (t + 1) [])).map iv⟩ := bk
        simp (disch := first | assumption | omega | rfl | (refine id ?_; simp only [gxD, ne_eq, reduceCtorEq, not_false_eq_true, Nat.reduceAdd, *]; done) | (refine id ?_; simp only [gxD]; omega)) only [↓gxPre, gxPost, ↓reduceIte, Nat.reduceEqDiff, reduceCtorEq, Nat.reduceAdd]
        refine callR_pure (i_nearest_ok (l := maxL (xs0.getD (t + 1) [])) (IS.own bk2 k2 rfl) (Nat.le_trans (maximaL_len _ _) (hll _)) (fun j => by have := maxL_b (xs0.getD (t + 1) []) j; have := hll (t + 1); omega) (linkS_b hsb hll t)) (.inl rfl) ?_
        simp (disch := first | assumption | omega | rfl | (refine id ?_; simp only [gxD, ne_eq, reduceCtorEq, not_false_eq_true, Nat.reduceAdd, *]; done) | (refine id ?_; simp only [gxD]; omega)) only [↓gxPre, gxPost, ↓reduceIte, Nat.reduceEqDiff, reduceCtorEq, Nat.reduceAdd]
        exact ⟨by rw [hlk]; simp, by have := eM.n; omega, f2.trans eM⟩
def lkAt (xss : List (List Nat)) (near : Int) (n i : Nat) : List Int := ((List.range i).filter fun j => (linkS xss near ((maxL (xss.getD 0 [])).getD j 0) n).2).map fun j => (linkS xss near ((maxL (xss.getD 0 [])).getD j 0) n).1
theorem range_getD (l : List Int) : (List.range l.length).map (fun i => l.getD i 0) = l := by
  refine list_ext_getD 0 (by simp) fun j hj => ?_
  have hj' : j < l.length := by simpa using hj
  exact getD_range_map hj'
theorem lk_zero (xss : List (List Nat)) (near : Int) : lkOut xss near 0 (maxL (xss.getD 0 [])).length = maxL (xss.getD 0 []) ∧ lkAt xss near 0 (maxL (xss.getD 0 [])).length = maxL (xss.getD 0 []) := by
  constructor
  · simp only [lkOut, linkS]
    rw [List.filter_eq_self.2 (fun _ _ => rfl), range_getD]
  · simp only [lkAt, linkS]
    rw [List.filter_eq_self.2 (fun _ _ => rfl), range_getD]
theorem filt_idx (B : List Nat) (p : Nat → Bool) (g : Nat → Int) : ((List.range B.length).filter fun i => p (B.getD i 0)).map (fun i => g (B.getD i 0)) = (B.filter p).map g := by
  have h : (List.range B.length).map (fun i => B.getD i 0) = B := by
    refine list_ext_getD 0 (by simp) fun j hj => ?_
    have hj' : j < B.length := by simpa using hj
    exact getD_range_map hj'
  conv => rhs; rw [← h]
  rw [List.filter_map, List.map_map]
  rfl
theorem filt_two {B : List Nat} {F A : List Int} {f g : Nat → Int} {p : Int → Bool} {q : Int → Int} (hF : F = B.map f) (hA : A = B.map g) :
    ((List.range A.length).filter fun i => p (A.getD i 0)).map (fun i => F.getD i 0) = (B.filter fun j => p (g j)).map f ∧
    ((List.range A.length).filter fun i => p (A.getD i 0)).map (fun i => q (A.getD i 0)) = (B.filter fun j => p (g j)).map fun j => q (g j) := by
  have hl : A.length = B.length := by simp [hA]
  have e1 : ∀ i, i < B.length → A.getD i 0 = g (B.getD i 0) := fun i hi => by simp [hA, List.getD_eq_getElem?_getD, hi]
  have e2 : ∀ i, i < B.length → F.getD i 0 = f (B.getD i 0) := fun i hi => by simp [hF, List.getD_eq_getElem?_getD, hi]
  have e3 : (List.range B.length).filter (fun i => p (A.getD i 0)) = (List.range B.length).filter fun i => p (g (B.getD i 0)) := List.filter_congr fun i hi => by rw [e1 i (List.mem_range.1 hi)]
  rw [hl, e3]
  constructor
  · rw [← filt_idx B (fun j => p (g j)) f]
    exact List.map_congr_left fun i hi => e2 i (List.mem_range.1 (List.mem_filter.1 hi).1)
  · rw [← filt_idx B (fun j => p (g j)) fun j => q (g j)]
    exact List.map_congr_left fun i hi => by rw [e1 i (List.mem_range.1 (List.mem_filter.1 hi).1)]
theorem lk_next {xss : List (List Nat)} {near : Int} {t m : Nat} :
    ((List.range (lkAt xss near t m).length).filter fun i => (nearI (maxL (xss.getD (t + 1) [])) ((lkAt xss near t m).getD i 0) near (maxL (xss.getD (t + 1) [])).length).2).map (fun i => (lkOut xss near t m).getD i 0) = lkOut xss near (t + 1) m ∧
    ((List.range (lkAt xss near t m).length).filter fun i => (nearI (maxL (xss.getD (t + 1) [])) ((lkAt xss near t m).getD i 0) near (maxL (xss.getD (t + 1) [])).length).2).map (fun i => (nearI (maxL (xss.getD (t + 1) [])) ((lkAt xss near t m).getD i 0) near (maxL (xss.getD (t + 1) [])).length).1) = lkAt xss near (t + 1) m := by
  obtain ⟨h1, h2⟩ := filt_two (p := fun x => (nearI (maxL (xss.getD (t + 1) [])) x near (maxL (xss.getD (t + 1) [])).length).2) (q := fun x => (nearI (maxL (xss.getD (t + 1) [])) x near (maxL (xss.getD (t + 1) [])).length).1) (show lkOut xss near t m = _ from rfl) (show lkAt xss near t m = _ from rfl)
  have e : ∀ j, (linkS xss near ((maxL (xss.getD 0 [])).getD j 0) (t + 1)).2 = ((linkS xss near ((maxL (xss.getD 0 [])).getD j 0) t).2 && (nearI (maxL (xss.getD (t + 1) [])) (linkS xss near ((maxL (xss.getD 0 [])).getD j 0) t).1 near (maxL (xss.getD (t + 1) [])).length).2) := fun j => by
    simp only [linkS]
    cases h : (linkS xss near ((maxL (xss.getD 0 [])).getD j 0) t).2
    · simp only [Bool.false_eq_true, if_false, h, Bool.false_and]
    · simp only [if_true, Bool.true_and]
  have ef : (List.range m).filter (fun j => (linkS xss near ((maxL (xss.getD 0 [])).getD j 0) (t + 1)).2) = ((List.range m).filter fun j => (linkS xss near ((maxL (xss.getD 0 [])).getD j 0) t).2).filter fun j => (nearI (maxL (xss.getD (t + 1) [])) (linkS xss near ((maxL (xss.getD 0 [])).getD j 0) t).1 near (maxL (xss.getD (t + 1) [])).length).2 := by
    rw [List.filter_filter]
    exact List.filter_congr fun j _ => by rw [e, Bool.and_comm]
  refine ⟨h1.trans ?_, h2.trans ?_⟩
  · simp only [lkOut]
    rw [ef]
  · simp only [lkAt]
    rw [ef]
    refine List.map_congr_left fun j hj => ?_
    have hq := (List.mem_filter.1 (List.mem_filter.1 hj).1).2
    simp only [linkS, hq, if_true]
theorem lkAt_len (xss : List (List Nat)) (near : Int) (t m : Nat) : (lkAt xss near t m).length = (lkOut xss near t m).length := by simp [lkAt, lkOut]
theorem lkAt_b {xss : List (List Nat)} {near : Int} (hl : ∀ j, (xss.getD j []).length ≤ 2 ^ 40) (t m j : Nat) : 0 ≤ (lkAt xss near t m).getD j 0 ∧ (lkAt xss near t m).getD j 0 ≤ 2 ^ 40 := by
  by_cases hj : j < (lkAt xss near t m).length
  · have hm : (lkAt xss near t m).getD j 0 ∈ lkAt xss near t m := by rw [List.getD_eq_getElem?_getD, List.getElem?_eq_getElem hj]; exact List.getElem_mem hj
    unfold lkAt at hm
    obtain ⟨k, hk, he⟩ := List.mem_map.1 hm
    have hb := maxL_b (xss.getD 0 []) k
    have hl0 := hl 0
    have := linkS_b (xss := xss) (near := near) (s := (maxL (xss.getD 0 [])).getD k 0) ⟨by omega, by omega⟩ hl t
    rw [he] at this
    exact this
  · rw [List.getD_eq_getElem?_getD, List.getElem?_eq_none (by omega)]
    simp
theorem s_LinkMaxima_law {H : Heap} {v0 : Value} {xs0 : List (List Nat)} {a1 : Int} (A : AS H v0 xs0) (b1 : -9223372036854775808 ≤ a1 ∧ a1 ≤ 9223372036854775807) :
    ACalls Try.prog n_s_LinkMaxima [v0, .int .i64 a1] H fun r H' => ListR iv t_int64 H (rowsF xs0 12 && within a1 0 128) (lkOut xs0 a1 (xs0.length - 1) (maxL (xs0.getD 0 [])).length) r H' := by
  have hm := A.le
  obtain ⟨us, hu, hul, hus⟩ := A.rd
  refine k_s_LinkMaxima.run rfl ?_
  unfold c_s_LinkMaxima
  simp (disch := first | assumption | omega | rfl | (refine id ?_; simp only [gxD, ne_eq, reduceCtorEq, not_false_eq_true, Nat.reduceAdd, *]; done) | (refine id ?_; simp only [gxD]; omega)) only [↓gxPre, gxPost, ↓reduceIte, Nat.reduceEqDiff, reduceCtorEq, Nat.reduceAdd]
  refine callR_pure (s_l03Rows_ok A.rd hm) (.inl rfl) ?_
  cases hk : rowsF xs0 12
  · simp (disch := first | assumption | omega | rfl | (refine id ?_; simp only [gxD, ne_eq, reduceCtorEq, not_false_eq_true, Nat.reduceAdd, *]; done) | (refine id ?_; simp only [gxD]; omega)) only [↓gxPre, gxPost, ↓reduceIte, Nat.reduceEqDiff, reduceCtorEq, Nat.reduceAdd, Bool.false_and, Bool.true_and, Bool.and_true, Bool.and_false, Bool.or_true, Bool.true_or, Bool.false_or, Bool.or_false, Bool.and_self, Bool.or_self]
    exact .no rfl (.refl _)
  simp (disch := first | assumption | omega | rfl | (refine id ?_; simp only [gxD, ne_eq, reduceCtorEq, not_false_eq_true, Nat.reduceAdd, *]; done) | (refine id ?_; simp only [gxD]; omega)) only [↓gxPre, gxPost, ↓reduceIte, Nat.reduceEqDiff, reduceCtorEq, Nat.reduceAdd]
  refine callR_pure s_l00In_ok (.inl rfl) ?_
  cases hw : within a1 0 128
  · simp (disch := first | assumption | omega | rfl | (refine id ?_; simp only [gxD, ne_eq, reduceCtorEq, not_false_eq_true, Nat.reduceAdd, *]; done) | (refine id ?_; simp only [gxD]; omega)) only [↓gxPre, gxPost, ↓reduceIte, Nat.reduceEqDiff, reduceCtorEq, Nat.reduceAdd, Bool.false_and, Bool.true_and, Bool.and_true, Bool.and_false, Bool.or_true, Bool.true_or, Bool.false_or, Bool.or_false, Bool.and_self, Bool.or_self]
    exact .no rfl (.refl _)
  have hy := rows_yes hk
  have hl0 := long_len (hy.2 0 (by omega)).1
  have hll : ∀ j, (xs0.getD j []).length ≤ 2 ^ 40 := fun j => by
    by_cases hj : j < xs0.length
    · have := (hy.2 j hj).2; omega
    · rw [List.getD_eq_getElem?_getD, List.getElem?_eq_none (by omega)]; simp
  simp (disch := first | assumption | omega | rfl | (refine id ?_; simp only [gxD, ne_eq, reduceCtorEq, not_false_eq_true, Nat.reduceAdd, *]; done) | (refine id ?_; simp only [gxD]; omega)) only [↓gxPre, gxPost, ↓reduceIte, Nat.reduceEqDiff, reduceCtorEq, Nat.reduceAdd, hu.ia, hu.ldD, hul, Int.reduceToNat]
  refine callR_of (s_l03Maxima_ok (hus 0 (by omega)) (by omega) (A.w 0)) ?_
  rintro _ G ⟨eG, mh, g1, g2, rfl, bm⟩
  rw [show maximaL (xs0.getD 0 []) (xs0.getD 0 []).length = maxL (xs0.getD 0 []) from rfl] at bm ⊢
  have nG := eG.n
  have hSl : (maxL (xs0.getD 0 [])).length ≤ 128 := Nat.le_trans (maximaL_len _ _) (by omega)
  obtain ⟨z1, z2⟩ := lk_zero xs0 a1
  have hrd : readSl (G.new ⟨true, t_int64, []⟩) (.slice (some ⟨mh, 0, none⟩) (maxL (xs0.getD 0 [])).length (maxL (xs0.getD 0 [])).length) = some ((maxL (xs0.getD 0 [])).map iv) := readSl_own ((new_old _ _ _ g2).trans bm) (by simp)
  simp (disch := first | assumption | omega | rfl | (refine id ?_; simp only [gxD, ne_eq, reduceCtorEq, not_false_eq_true, Nat.reduceAdd, *]; done) | (refine id ?_; simp only [gxD]; omega)) only [↓gxPre, gxPost, ↓reduceIte, Nat.reduceEqDiff, reduceCtorEq, Nat.reduceAdd, hrd]
  obtain ⟨n, hn⟩ : ∃ n, n = xs0.length - 1 := ⟨_, rfl⟩
  obtain ⟨m, hmd⟩ : ∃ m, m = (maxL (xs0.getD 0 [])).length := ⟨_, rfl⟩
  rw [← hmd] at z1 z2 hSl ⊢
  rw [← hn]
  have e3 : Ext H (G.new ⟨true, t_int64, (maxL (xs0.getD 0 [])).map iv⟩) := eG.trans (.new G _)
  refine loop_st (σ := Nat × Nat × Nat) (fun s => [v0, .int .i64 a1, .slice (some ⟨s.2.1, 0, none⟩) (lkOut xs0 a1 s.1 m).length (lkOut xs0 a1 s.1 m).length, .slice (some ⟨s.2.2, 0, none⟩) (lkAt xs0 a1 s.1 m).length (lkAt xs0 a1 s.1 m).length, .int .i64 ((s.1 : Int) + 1)])
    (fun s Q => s.1 ≤ n ∧ H.n ≤ s.2.1 ∧ s.2.1 < Q.n ∧ H.n ≤ s.2.2 ∧ s.2.2 < Q.n ∧ Ext H Q ∧ Q.blk s.2.1 = some ⟨true, t_int64, (lkOut xs0 a1 s.1 m).map iv⟩ ∧ Q.blk s.2.2 = some ⟨true, t_int64, (lkAt xs0 a1 s.1 m).map iv⟩) (fun s => n - s.1) (0, mh, G.n) ?_ ?_ ?_
  · simp only [z1, z2, List.length_map, ← hmd]
    rfl
  · refine ⟨Nat.zero_le _, g1, ?_, nG, ?_, ?_, ?_, ?_⟩
    · simp only [new_n, put_n]; omega
    · simp only [new_n, put_n]; omega
    · exact e3
    · rw [z1]; exact (new_old _ _ _ g2).trans bm
    · rw [z2]; exact new_self _ _
  rintro ⟨t, hf, ha⟩ Q ⟨q1, q2, q3, q4, q5, q6, q7, q8⟩
  simp only at q1 q2 q3 q4 q5 q6 q7 q8
  have hL := lkOut_len xs0 a1 t m
  have hLA := lkAt_len xs0 a1 t m
  by_cases c : t = n
  · subst c
    have c : ¬ (t : Int) + 1 < xs0.length := by omega
    simp (disch := first | assumption | omega | rfl | (refine id ?_; simp only [gxD, ne_eq, reduceCtorEq, not_false_eq_true, Nat.reduceAdd, *]; done) | (refine id ?_; simp only [gxD]; omega)) only [↓gxPre, gxPost, ↓reduceIte, Nat.reduceEqDiff, reduceCtorEq, Nat.reduceAdd, hu.len, hul, c]
    exact .yes (by simp only [Bool.false_and, Bool.true_and, Bool.and_true, Bool.and_false, Bool.or_true, Bool.true_or, Bool.false_or, Bool.or_false, Bool.and_self, Bool.or_self]) q6 (.mk q7 (by simp) q2 q3 q3) (by omega)
  have c2 : (t : Int) + 1 < xs0.length := by omega
  have e2 : ((t : Int) + 1).toNat = t + 1 := by omega
  have huQ := hu.ext q6
  simp (disch := first | assumption | omega | rfl | (refine id ?_; simp only [gxD, ne_eq, reduceCtorEq, not_false_eq_true, Nat.reduceAdd, *]; done) | (refine id ?_; simp only [gxD]; omega)) only [↓gxPre, gxPost, ↓reduceIte, Nat.reduceEqDiff, reduceCtorEq, Nat.reduceAdd, huQ.len, huQ.ia, huQ.ldD, hul, c2, e2]
  refine callR_of (s_l03Maxima_ok ((hus (t + 1) (by omega)).ext q6) (hll _) (A.w _)) ?_
  rintro _ E ⟨eE, kh, k1, k2, rfl, bk⟩
  rw [show maximaL (xs0.getD (t + 1) []) (xs0.getD (t + 1) []).length = maxL (xs0.getD (t + 1) []) from rfl] at bk ⊢
  obtain ⟨M, hM⟩ : ∃ M, M = maxL (xs0.getD (t + 1) []) := ⟨_, rfl⟩
  obtain ⟨FF, hFF⟩ : ∃ FF, FF = lkOut xs0 a1 t m := ⟨_, rfl⟩
  obtain ⟨AA, hAA⟩ : ∃ AA, AA = lkAt xs0 a1 t m := ⟨_, rfl⟩
  have hbM : ∀ j, 0 ≤ M.getD j 0 ∧ M.getD j 0 ≤ 2 ^ 40 := fun j => by rw [hM]; have := maxL_b (xs0.getD (t + 1) []) j; have := hll (t + 1); omega
  have hbA : ∀ j, 0 ≤ AA.getD j 0 ∧ AA.getD j 0 ≤ 2 ^ 40 := fun j => by rw [hAA]; exact lkAt_b hll t m j
  have hlM : M.length ≤ 2 ^ 40 := by rw [hM]; exact Nat.le_trans (maximaL_len _ _) (hll _)
  obtain ⟨n1, n2⟩ := lk_next (xss := xs0) (near := a1) (t := t) (m := m)
  rw [← hM, ← hFF, ← hAA] at n1
  rw [← hM, ← hAA] at n2
  rw [← hM] at bk ⊢
  rw [← hFF] at q7 hL hLA ⊢
  rw [← hAA] at q8 hLA ⊢
  have nE := eE.n
  have bf := (eE.blk _ q3).trans q7
  have ba := (eE.blk _ q5).trans q8
  obtain ⟨ok, hok⟩ : ∃ ok : Nat → Bool, ok = fun i => (nearI M (AA.getD i 0) a1 M.length).2 := ⟨_, rfl⟩
  obtain ⟨lf, hlf⟩ : ∃ lf : Nat → List Int, lf = fun i => ((List.range i).filter ok).map fun i => FF.getD i 0 := ⟨_, rfl⟩
  obtain ⟨pf, hpf⟩ : ∃ pf : Nat → List Int, pf = fun i => ((List.range i).filter ok).map fun i => (nearI M (AA.getD i 0) a1 M.length).1 := ⟨_, rfl⟩
  have n1' : lf AA.length = lkOut xs0 a1 (t + 1) m := by rw [hlf, hok]; exact n1
  have n2' : pf AA.length = lkAt xs0 a1 (t + 1) m := by rw [hpf, hok]; exact n2
  have hl1 : ∀ i, (lf i).length ≤ i := fun i => by rw [hlf]; simp only [List.length_map]; exact Nat.le_trans (List.length_filter_le _ _) (by simp)
  have hl2 : ∀ i, (pf i).length ≤ i := fun i => by rw [hpf]; simp only [List.length_map]; exact Nat.le_trans (List.length_filter_le _ _) (by simp)
  simp (disch := first | assumption | omega | rfl | (refine id ?_; simp only [gxD, ne_eq, reduceCtorEq, not_false_eq_true, Nat.reduceAdd, *]; done) | (refine id ?_; simp only [gxD]; omega)) only [↓gxPre, gxPost, ↓reduceIte, Nat.reduceEqDiff, reduceCtorEq, Nat.reduceAdd]
  refine loop_forH AA.length (fun i => [v0, .int .i64 a1, .slice (some ⟨hf, 0, none⟩) FF.length FF.length, .slice (some ⟨ha, 0, none⟩) AA.length AA.length, .int .i64 ((t : Int) + 1), .slice (some ⟨kh, 0, none⟩) M.length M.length, .slice (some ⟨E.n, 0, none⟩) (lf i).length (lf i).length, .slice (some ⟨E.n + 1, 0, none⟩) (pf i).length (pf i).length, .int .i64 AA.length, .int .i64 i])
    (fun i F => E.n + 2 ≤ F.n ∧ Ext E F ∧ F.blk E.n = some ⟨true, t_int64, (lf i).map iv⟩ ∧ F.blk (E.n + 1) = some ⟨true, t_int64, (pf i).map iv⟩) (by rw [hlf, hpf]; rfl) ⟨by simp only [new_n]; omega, (Ext.new E _).trans (.new _ _), by rw [hlf]; simp (disch := first | assumption | omega | rfl | (refine id ?_; simp only [gxD, ne_eq, reduceCtorEq, not_false_eq_true, Nat.reduceAdd, *]; done) | (refine id ?_; simp only [gxD]; omega)) only [↓gxPre, gxPost, ↓reduceIte, Nat.reduceEqDiff, reduceCtorEq, Nat.reduceAdd]; rfl, by rw [hpf]; simp (disch := first | assumption | omega | rfl | (refine id ?_; simp only [gxD, ne_eq, reduceCtorEq, not_false_eq_true, Nat.reduceAdd, *]; done) | (refine id ?_; simp only [gxD]; omega)) only [↓gxPre, gxPost, ↓reduceIte, Nat.reduceEqDiff, reduceCtorEq, Nat.reduceAdd]; rfl⟩ ?_ ?_
  · rintro F ⟨f1, f2, f3, f4⟩
    rw [n1'] at f3 ⊢
    rw [n2'] at f4 ⊢
    simp (disch := first | assumption | omega | rfl | (refine id ?_; simp only [gxD, ne_eq, reduceCtorEq, not_false_eq_true, Nat.reduceAdd, *]; done) | (refine id ?_; simp only [gxD]; omega)) only [↓gxPre, gxPost, ↓reduceIte, Nat.reduceEqDiff, reduceCtorEq, Nat.reduceAdd, Int.lt_irrefl]
    refine ⟨(t + 1, E.n, E.n + 1), by simp only; omega, ?_, by simp only; omega, by simp only; omega, by simp only; omega, by simp only; omega, by simp only; omega, q6.trans (eE.trans f2), f3, f4⟩
    simp
  · rintro i F hi ⟨f1, f2, f3, f4⟩
    have bkF := (f2.blk _ k2).trans bk
    have bfF := (f2.blk _ (by omega)).trans bf
    have baF := (f2.blk _ (by omega)).trans ba
    have hMI : IS F (.slice (some ⟨kh, 0, none⟩) M.length M.length) M := IS.own bkF (by omega) rfl
    have hAI : IS F (.slice (some ⟨ha, 0, none⟩) AA.length AA.length) AA := IS.own baF (by omega) rfl
    obtain ⟨p, hp⟩ : ∃ p, p = AA.getD i 0 := ⟨_, rfl⟩
    have hpb := hbA i
    rw [← hp] at hpb
    simp (disch := first | assumption | omega | rfl | (refine id ?_; simp only [gxD, ne_eq, reduceCtorEq, not_false_eq_true, Nat.reduceAdd, *]; done) | (refine id ?_; simp only [gxD]; omega)) only [↓gxPre, gxPost, ↓reduceIte, Nat.reduceEqDiff, reduceCtorEq, Nat.reduceAdd]
    refine loop_for M.length (fun j => [v0, .int .i64 a1, .slice (some ⟨hf, 0, none⟩) FF.length FF.length, .slice (some ⟨ha, 0, none⟩) AA.length AA.length, .int .i64 ((t : Int) + 1), .slice (some ⟨kh, 0, none⟩) M.length M.length, .slice (some ⟨E.n, 0, none⟩) (lf i).length (lf i).length, .slice (some ⟨E.n + 1, 0, none⟩) (pf i).length (pf i).length, .int .i64 i, .int .i64 (nixI M p j), .int .i64 AA.length, .int .i64 i, .int .i64 M.length, .int .i64 j]) rfl ?_ ?_
    · have hb := nixI_b M p M.length
      have hnn := near_nix M p a1 M.length
      have lno : ok i = false → lf (i + 1) = lf i ∧ pf (i + 1) = pf i := fun h => by rw [hlf, hpf]; exact ⟨filt_no h, filt_no h⟩
      have lyes : ok i = true → (lf i).map iv ++ [.int .i64 (FF.getD i 0)] = (lf (i + 1)).map iv ∧ (pf i).map iv ++ [.int .i64 (nearI M p a1 M.length).1] = (pf (i + 1)).map iv := fun h => by
        rw [hlf, hpf, hp]
        exact ⟨filt_yes (g := fun i => FF.getD i 0) h, filt_yes (g := fun i => (nearI M (AA.getD i 0) a1 M.length).1) h⟩
      have hoki : ok i = (pckI M p a1 (nixI M p M.length)).2 := by rw [hok]; simp only [← hp, hnn]
      rw [hnn] at lyes
      by_cases c0 : 0 ≤ nixI M p M.length
      rotate_left
      · obtain ⟨l1, l2⟩ := lno (by rw [hoki, pckI, if_neg (fun h => c0 h.1)])
        rw [l1, l2]
        simp (disch := first | assumption | omega | rfl | (refine id ?_; simp only [gxD, ne_eq, reduceCtorEq, not_false_eq_true, Nat.reduceAdd, *]; done) | (refine id ?_; simp only [gxD]; omega)) only [↓gxPre, gxPost, ↓reduceIte, Nat.reduceEqDiff, reduceCtorEq, Nat.reduceAdd, Int.lt_irrefl, c0]
        exact ⟨by simp, f1, f2, f3, f4⟩
      obtain ⟨b, hb0⟩ : ∃ b : Nat, nixI M p M.length = b := ⟨_, (Int.toNat_of_nonneg c0).symm⟩
      have hgx : nixI M p M.length < M.length := hb.2
      rw [hb0] at hb hoki lyes c0 hgx ⊢
      have hbl : b < M.length := by omega
      simp (disch := first | assumption | omega | rfl | (refine id ?_; simp only [gxD, ne_eq, reduceCtorEq, not_false_eq_true, Nat.reduceAdd, *]; done) | (refine id ?_; simp only [gxD]; omega)) only [↓gxPre, gxPost, ↓reduceIte, Nat.reduceEqDiff, reduceCtorEq, Nat.reduceAdd, Int.lt_irrefl, c0, hMI.ia, hMI.ld, hAI.ia, hAI.ld, ← hp]
      refine callR_pure (s_l03Apart_ok (hbM _) hpb) (.inl rfl) ?_
      by_cases c4 : apart (M.getD b 0) p ≤ a1
      rotate_left
      · obtain ⟨l1, l2⟩ := lno (by rw [hoki, pckI, if_neg (fun h => c4 h.2)])
        rw [l1, l2]
        simp (disch := first | assumption | omega | rfl | (refine id ?_; simp only [gxD, ne_eq, reduceCtorEq, not_false_eq_true, Nat.reduceAdd, *]; done) | (refine id ?_; simp only [gxD]; omega)) only [↓gxPre, gxPost, ↓reduceIte, Nat.reduceEqDiff, reduceCtorEq, Nat.reduceAdd, c4]
        exact ⟨by simp, f1, f2, f3, f4⟩
      have hpk : pckI M p a1 (b : Int) = (M.getD b 0, true) := if_pos ⟨c0, c4⟩
      rw [hpk] at hoki lyes
      obtain ⟨l1, l2⟩ := lyes hoki
      have hFI : IS F (.slice (some ⟨hf, 0, none⟩) FF.length FF.length) FF := IS.own bfF (by omega) rfl
      have ml1 : ((lf i).map iv).length = (lf i).length := by simp
      have ml2 : ((pf i).map iv).length = (pf i).length := by simp
      have mlM : (M.map iv).length = M.length := by simp
      have gm : (M.map iv)[b]? = some (.int .i64 (M.getD b 0)) := by simp [hbl, iv, List.getD_eq_getElem?_getD]
      have ll1 := hl1 i
      have ll2 := hl2 i
      have le1 : (lf (i + 1)).length = (lf i).length + 1 := by have := congrArg List.length l1; simp at this; omega
      have le2 : (pf (i + 1)).length = (pf i).length + 1 := by have := congrArg List.length l2; simp at this; omega
      obtain ⟨p1, p2, p3, p4⟩ := push_at f2 f3 (Nat.le_refl _) (by omega) l1
      obtain ⟨r1, r2, r3, r4⟩ := push_at p1 ((p4 (E.n + 1) (by omega) (by omega)).trans f4) (by omega) (by omega) l2
      simp (disch := first | assumption | omega | rfl | (refine id ?_; simp only [gxD, ne_eq, reduceCtorEq, not_false_eq_true, Nat.reduceAdd, *]; done) | (refine id ?_; simp only [gxD]; omega)) only [↓gxPre, gxPost, ↓reduceIte, Nat.reduceEqDiff, reduceCtorEq, Nat.reduceAdd, c4, hFI.ia, hFI.ld, f3, f4, bkF, gm, rd1_at]
      exact ⟨by rw [le1, le2]; simp, by omega, r1, by rw [l1], by rw [l2]⟩
    · intro j hj
      have hb := nixI_b M p j
      by_cases c1 : nixI M p j < 0
      · have hx : nixI M p (j + 1) = j := if_pos (.inl c1)
        simp (disch := first | assumption | omega | rfl | (refine id ?_; simp only [gxD, ne_eq, reduceCtorEq, not_false_eq_true, Nat.reduceAdd, *]; done) | (refine id ?_; simp only [gxD]; omega)) only [↓gxPre, gxPost, ↓reduceIte, Nat.reduceEqDiff, reduceCtorEq, Nat.reduceAdd, c1]
        simp [hx]
      · simp (disch := first | assumption | omega | rfl | (refine id ?_; simp only [gxD, ne_eq, reduceCtorEq, not_false_eq_true, Nat.reduceAdd, *]; done) | (refine id ?_; simp only [gxD]; omega)) only [↓gxPre, gxPost, ↓reduceIte, Nat.reduceEqDiff, reduceCtorEq, Nat.reduceAdd, c1, hMI.ia, hMI.ld, hAI.ia, hAI.ld, ← hp]
        refine callR_of (s_l03Apart_ok (hbM _) hpb) ?_
        rintro _ _ ⟨rfl, rfl⟩
        simp (disch := first | assumption | omega | rfl | (refine id ?_; simp only [gxD, ne_eq, reduceCtorEq, not_false_eq_true, Nat.reduceAdd, *]; done) | (refine id ?_; simp only [gxD]; omega)) only [↓gxPre, gxPost, ↓reduceIte, Nat.reduceEqDiff, reduceCtorEq, Nat.reduceAdd, c1, hMI.ia, hMI.ld, hAI.ia, hAI.ld, ← hp]
        refine ⟨id, callR_pure (s_l03Apart_ok (hbM _) hpb) (.inl rfl) ?_⟩
        by_cases c3 : apart (M.getD j 0) p < apart (M.getD (nixI M p j).toNat 0) p
        · have hx : nixI M p (j + 1) = j := if_pos (.inr c3)
          simp (disch := first | assumption | omega | rfl | (refine id ?_; simp only [gxD, ne_eq, reduceCtorEq, not_false_eq_true, Nat.reduceAdd, *]; done) | (refine id ?_; simp only [gxD]; omega)) only [↓gxPre, gxPost, ↓reduceIte, Nat.reduceEqDiff, reduceCtorEq, Nat.reduceAdd, c3]
          simp [hx]
        · have hx : nixI M p (j + 1) = nixI M p j := if_neg (by omega)
          simp (disch := first | assumption | omega | rfl | (refine id ?_; simp only [gxD, ne_eq, reduceCtorEq, not_false_eq_true, Nat.reduceAdd, *]; done) | (refine id ?_; simp only [gxD]; omega)) only [↓gxPre, gxPost, ↓reduceIte, Nat.reduceEqDiff, reduceCtorEq, Nat.reduceAdd, c3]
          simp [hx]
end Go.Proofs.Ytkojmlpaamdhoad
