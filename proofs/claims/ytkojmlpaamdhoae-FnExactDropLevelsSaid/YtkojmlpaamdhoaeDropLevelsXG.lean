/- Levels of integers taken back. -/
import Derived.Test.YtkojmlpaamdhoaeDropLevelsXF
namespace Go.Proofs.Ytkojmlpaamdhoae
open Go.Gx
set_option maxRecDepth 100000
set_option linter.unusedSimpArgs false
set_option linter.unusedVariables false

def sizeJ (xss : List (List Int)) (i : Nat) : List Nat := (List.range i).map fun j => (xss.getD j []).length
theorem sizeJ_length (xss : List (List Int)) (i : Nat) : (sizeJ xss i).length = i := by simp [sizeJ]
theorem sizeJ_succ (xss : List (List Int)) (i : Nat) : sizeJ xss (i + 1) = sizeJ xss i ++ [(xss.getD i []).length] := by simp [sizeJ, List.range_succ]
theorem sizesJ_len (xss : List (List Int)) (k : Nat) : (xss.map List.length).getD k 0 = (xss.getD k []).length := by
  by_cases h : k < xss.length <;> simp [List.getD_eq_getElem?_getD, h]
theorem sizeJ_all (xss : List (List Int)) : sizeJ xss xss.length = xss.map List.length := by
  refine list_ext_getD 0 (by simp [sizeJ]) fun j hj => ?_
  have hj' : j < xss.length := by simpa [sizeJ] using hj
  rw [sizesJ_len, sizeJ, getD_range_map hj']
theorem sizesJ_le {xss : List (List Int)} (hm : totL xss ≤ 2 ^ 40) (j : Nat) : (xss.map List.length).getD j 0 ≤ 2 ^ 40 := by
  rw [sizesJ_len]; exact totL_row hm j
theorem sizesJ_sum (xss : List (List Int)) (hm : totL xss ≤ 2 ^ 40) : sufS (xss.map List.length) 0 ≤ 2 ^ 40 := by
  have : sufS (xss.map List.length) 0 = offN xss xss.length := by simp [sufS, offN]
  rw [this]
  unfold totL at hm
  omega
theorem sizesJ_n {sz : List Nat} (h : sizesF sz = true) : 1 ≤ sz.length ∧ sz.length ≤ 7 := by
  unfold sizesF at h
  simp only [Bool.and_eq_true] at h
  have := within_true.1 h.1.1.1
  omega
def dropV (kind : Int) (xss : List (List Int)) : Nat → List Int := foldI (fun t l => dropI kind l (xss.getD (xss.length - 2 - t) [])) (xss.getD (xss.length - 1) [])
theorem dropV_zero (kind : Int) (xss : List (List Int)) : dropV kind xss 0 = xss.getD (xss.length - 1) [] := rfl
theorem dropV_succ (kind : Int) (xss : List (List Int)) (t : Nat) : dropV kind xss (t + 1) = dropI kind (dropV kind xss t) (xss.getD (xss.length - 2 - t) []) := rfl
def levOk (kind : Int) (xss : List (List Int)) : Bool := within kind 0 2 && sizesF (xss.map List.length) && ((List.range (xss.length - 1)).all fun t => dropOkI kind (dropV kind xss t) (xss.getD (xss.length - 2 - t) [])) && integersF (dropV kind xss (xss.length - 1))
theorem levOk_no {kind : Int} {xss : List (List Int)} {t : Nat} (ht : t < xss.length - 1) (h : dropOkI kind (dropV kind xss t) (xss.getD (xss.length - 2 - t) []) = false) : levOk kind xss = false := by
  have : ((List.range (xss.length - 1)).all fun t => dropOkI kind (dropV kind xss t) (xss.getD (xss.length - 2 - t) [])) = false := by
    rw [List.all_eq_false]
    exact ⟨t, List.mem_range.2 ht, by rw [h]; decide⟩
  unfold levOk
  rw [this, Bool.and_false, Bool.false_and]
theorem levOk_yes {kind : Int} {xss : List (List Int)} (h0 : within kind 0 2 = true) (h1 : sizesF (xss.map List.length) = true) (h : ∀ k, k < xss.length - 1 → dropOkI kind (dropV kind xss k) (xss.getD (xss.length - 2 - k) []) = true) : levOk kind xss = integersF (dropV kind xss (xss.length - 1)) := by
  have : ((List.range (xss.length - 1)).all fun t => dropOkI kind (dropV kind xss t) (xss.getD (xss.length - 2 - t) [])) = true := by
    rw [List.all_eq_true]
    exact fun k hk => h k (List.mem_range.1 hk)
  unfold levOk
  rw [h0, h1, this, Bool.and_self, Bool.and_self, Bool.true_and]
theorem levOk_int {kind : Int} {xss : List (List Int)} {t : Nat} (h : dropOkI kind (dropV kind xss t) (xss.getD (xss.length - 2 - t) []) = true) : integersF (dropV kind xss (t + 1)) = true := by
  unfold dropOkI at h
  rw [Bool.and_eq_true] at h
  rw [dropV_succ]
  exact h.2
theorem int_le {xs : List Int} (h : integersF xs = true) : xs.length ≤ 128 := by
  simp only [integersF, Bool.and_eq_true] at h
  have := within_true.1 h.1
  omega
theorem dropV_le {kind : Int} {xss : List (List Int)} (hm : totL xss ≤ 2 ^ 40) : ∀ t, (∀ k, k < t → dropOkI kind (dropV kind xss k) (xss.getD (xss.length - 2 - k) []) = true) → (dropV kind xss t).length ≤ 2 ^ 40
  | 0, _ => totL_row hm _
  | t + 1, h => by
    have := int_le (levOk_int (h t (by omega)))
    omega
theorem i_sizesOf_i_ok {H : Heap} {v : Value} {xss : List (List Int)} (hv : SI H v xss) (hm : totL xss ≤ 2 ^ 40) :
    ACalls Try.prog n_i_sizesOf_int64_ [v] H fun r H' => Ext H H' ∧ r = .slice (some ⟨H.n, 0, none⟩) xss.length xss.length ∧ H.n < H'.n ∧ H'.blk H.n = some ⟨true, t_int, (castL (xss.map List.length)).map iv⟩ := by
  have hnx : xss.length ≤ 2 ^ 40 := by unfold totL at hm; omega
  obtain ⟨us, hu, hul, hus⟩ := hv
  refine k_i_sizesOf_int64_.run rfl ?_
  unfold c_i_sizesOf_int64_
  simp (disch := first | assumption | omega | rfl | (refine id ?_; simp only [gxD, ne_eq, reduceCtorEq, not_false_eq_true, Nat.reduceAdd, *]; done) | (refine id ?_; simp only [gxD]; omega)) only [↓gxPre, gxPost, ↓reduceIte, Nat.reduceEqDiff, reduceCtorEq, Nat.reduceAdd, hu.len, hul]
  refine loop_forH xss.length (fun i => [.slice (some ⟨H.n, 0, none⟩) i i, v, .int .i64 xss.length, .int .i64 i])
    (fun i G => H.n + 1 ≤ G.n ∧ Ext H G ∧ G.blk H.n = some ⟨true, t_int, (castL (sizeJ xss i)).map iv⟩) rfl ⟨by simp only [new_n]; omega, ⟨by first | omega | (simp only [new_n, put_n]; omega) | (simp only [new_n, put_n] at *; omega), fun i hi => by simp (disch := first | assumption | omega | rfl | (refine id ?_; simp only [gxD, ne_eq, reduceCtorEq, not_false_eq_true, Nat.reduceAdd, *]; done) | (refine id ?_; simp only [gxD]; omega)) only [↓gxPre, gxPost, ↓reduceIte, Nat.reduceEqDiff, reduceCtorEq, Nat.reduceAdd, *]⟩, by simp (disch := first | assumption | omega | rfl | (refine id ?_; simp only [gxD, ne_eq, reduceCtorEq, not_false_eq_true, Nat.reduceAdd, *]; done) | (refine id ?_; simp only [gxD]; omega)) only [↓gxPre, gxPost, ↓reduceIte, Nat.reduceEqDiff, reduceCtorEq, Nat.reduceAdd]; rfl⟩ ?_ ?_
  · rintro G ⟨hG, hE, hc⟩
    simp (disch := first | assumption | omega | rfl | (refine id ?_; simp only [gxD, ne_eq, reduceCtorEq, not_false_eq_true, Nat.reduceAdd, *]; done) | (refine id ?_; simp only [gxD]; omega)) only [↓gxPre, gxPost, ↓reduceIte, Nat.reduceEqDiff, reduceCtorEq, Nat.reduceAdd, Int.lt_irrefl]
    rw [sizeJ_all] at hc
    exact ⟨hE, hG, hc⟩
  · rintro i G hi ⟨hG, hE, hc⟩
    have hu' := hu.ext hE
    have ht : ((castL (sizeJ xss i)).map iv).length = i := by rw [lMapI, castL_length, sizeJ_length]
    have hm5 : (castL (sizeJ xss i)).map iv ++ [.int .i64 ((xss.getD i []).length : Int)] = (castL (sizeJ xss (i + 1))).map iv := by rw [castL_snoc, sizeJ_succ]
    obtain ⟨f1, f2, f3, f4⟩ := push_at hE hc (Nat.le_refl _) (by omega) hm5
    simp (disch := first | assumption | omega | rfl | (refine id ?_; simp only [gxD, ne_eq, reduceCtorEq, not_false_eq_true, Nat.reduceAdd, *]; done) | (refine id ?_; simp only [gxD]; omega)) only [↓gxPre, gxPost, ↓reduceIte, Nat.reduceEqDiff, reduceCtorEq, Nat.reduceAdd, hu'.ia, hu'.ldD, hul, (hus i hi).len, hc]
    exact ⟨by simp, by omega, f1, by rw [hm5]⟩
theorem i_DropLevels_law {H : Heap} {a0 : Int} {v1 : Value} {xs1 : List (List Int)} (b0 : -9223372036854775808 ≤ a0 ∧ a0 ≤ 9223372036854775807) (A1 : ASI H v1 xs1) :
    ACalls Try.prog n_i_DropLevels [.int .i64 a0, v1] H fun r H' => ListR iv t_int64 H (levOk a0 xs1) (dropV a0 xs1 (xs1.length - 1)) r H' := by
  have hm := A1.le
  have hnx : xs1.length ≤ 2 ^ 40 := by unfold totL at hm; omega
  refine k_i_DropLevels.run rfl ?_
  unfold c_i_DropLevels
  simp (disch := first | assumption | omega | rfl | (refine id ?_; simp only [gxD, ne_eq, reduceCtorEq, not_false_eq_true, Nat.reduceAdd, *]; done) | (refine id ?_; simp only [gxD]; omega)) only [↓gxPre, gxPost, ↓reduceIte, Nat.reduceEqDiff, reduceCtorEq, Nat.reduceAdd]
  refine callR_pure i_within_ok (.inl rfl) ?_
  cases h0 : within a0 0 2
  · simp (disch := first | assumption | omega | rfl | (refine id ?_; simp only [gxD, ne_eq, reduceCtorEq, not_false_eq_true, Nat.reduceAdd, *]; done) | (refine id ?_; simp only [gxD]; omega)) only [↓gxPre, gxPost, ↓reduceIte, Nat.reduceEqDiff, reduceCtorEq, Nat.reduceAdd]
    exact .no (by simp only [levOk, h0, Bool.false_and, Bool.true_and, Bool.and_true, Bool.and_false, Bool.or_true, Bool.true_or, Bool.false_or, Bool.or_false, Bool.and_self, Bool.or_self]) (.refl _)
  simp (disch := first | assumption | omega | rfl | (refine id ?_; simp only [gxD, ne_eq, reduceCtorEq, not_false_eq_true, Nat.reduceAdd, *]; done) | (refine id ?_; simp only [gxD]; omega)) only [↓gxPre, gxPost, ↓reduceIte, Nat.reduceEqDiff, reduceCtorEq, Nat.reduceAdd]
  refine callR_of (i_sizesOf_i_ok A1.rd A1.le) ?_
  rintro _ K ⟨eK, rfl, n1, c1⟩
  simp (disch := first | assumption | omega | rfl | (refine id ?_; simp only [gxD, ne_eq, reduceCtorEq, not_false_eq_true, Nat.reduceAdd, *]; done) | (refine id ?_; simp only [gxD]; omega)) only [↓gxPre, gxPost, ↓reduceIte, Nat.reduceEqDiff, reduceCtorEq, Nat.reduceAdd]
  refine callR_pure (i_areSizes_ok (IS.own c1 n1 (by simp [castL])) (by simpa using hnx) (sizesJ_le hm) (sizesJ_sum xs1 hm)) (.inl rfl) ?_
  cases h1 : sizesF (xs1.map List.length)
  · simp (disch := first | assumption | omega | rfl | (refine id ?_; simp only [gxD, ne_eq, reduceCtorEq, not_false_eq_true, Nat.reduceAdd, *]; done) | (refine id ?_; simp only [gxD]; omega)) only [↓gxPre, gxPost, ↓reduceIte, Nat.reduceEqDiff, reduceCtorEq, Nat.reduceAdd]
    exact .no (by simp only [levOk, h1, Bool.false_and, Bool.true_and, Bool.and_true, Bool.and_false, Bool.or_true, Bool.true_or, Bool.false_or, Bool.or_false, Bool.and_self, Bool.or_self]) eK
  have hn17 := sizesJ_n h1
  rw [List.length_map] at hn17
  obtain ⟨hn1, hn7⟩ := hn17
  obtain ⟨us, hu, hul, hus⟩ := A1.rd
  have e1t : ((xs1.length : Int) - 1).toNat = xs1.length - 1 := by omega
  have hlb := totL_row hm (xs1.length - 1)
  have hKn := eK.n
  have huN := (hu.ext eK).ext (.new K ⟨true, t_int64, []⟩)
  have hr := (((hus (xs1.length - 1) (by omega)).ext eK).ext (.new K ⟨true, t_int64, []⟩)).read
  have huP := (hu.ext eK).ext (.new K ⟨true, t_int64, (xs1.getD (xs1.length - 1) []).map iv⟩)
  simp (disch := first | assumption | omega | rfl | (refine id ?_; simp only [gxD, ne_eq, reduceCtorEq, not_false_eq_true, Nat.reduceAdd, *]; done) | (refine id ?_; simp only [gxD]; omega)) only [↓gxPre, gxPost, ↓reduceIte, Nat.reduceEqDiff, reduceCtorEq, Nat.reduceAdd, huN.len, huN.ia, huN.ldD, hul, e1t, hr, List.nil_append, lMapI, huP.len]
  refine loop_st (σ := Nat × Value) (fun s => [.int .i64 a0, v1, s.2, .int .i64 ((xs1.length : Int) - 2 - s.1)])
    (fun s G => s.1 ≤ xs1.length - 1 ∧ (∀ k, k < s.1 → dropOkI a0 (dropV a0 xs1 k) (xs1.getD (xs1.length - 2 - k) []) = true) ∧ Ext K G ∧ OwL K.n G.n G t_int64 s.2 ((dropV a0 xs1 s.1).map iv))
    (fun s => xs1.length - s.1) (0, .slice (some ⟨K.n, 0, none⟩) (xs1.getD (xs1.length - 1) []).length (xs1.getD (xs1.length - 1) []).length) (by simp)
    ⟨by omega, by intros; omega, .new _ _, .mk (new_self _ _) (by rw [lMapI, dropV_zero]) (by first | omega | (simp only [new_n, put_n]; omega)) (by first | omega | (simp only [new_n, put_n]; omega)) (by first | omega | (simp only [new_n, put_n]; omega))⟩ ?_
  rintro ⟨t, v⟩ G ⟨ht, hok, hE, ho⟩
  simp only at ht hok ho ⊢
  have eHG := eK.trans hE
  have huG := hu.ext eHG
  have hle := dropV_le (kind := a0) hm t hok
  have hEn := hE.n
  by_cases c1 : t < xs1.length - 1
  · obtain ⟨k, hk⟩ : ∃ k, k = xs1.length - 2 - t := ⟨_, rfl⟩
    have hki : (xs1.length : Int) - 2 - (t : Int) = (k : Int) := by omega
    have hk0 : (0 : Int) ≤ (k : Int) := by omega
    have hdd : dropV a0 xs1 (t + 1) = dropI a0 (dropV a0 xs1 t) (xs1.getD k []) := by rw [dropV_succ, hk]
    rw [hki]
    simp (disch := first | assumption | omega | rfl | (refine id ?_; simp only [gxD, ne_eq, reduceCtorEq, not_false_eq_true, Nat.reduceAdd, *]; done) | (refine id ?_; simp only [gxD]; omega)) only [↓gxPre, gxPost, ↓reduceIte, Nat.reduceEqDiff, reduceCtorEq, Nat.reduceAdd, hk0, huG.ia, huG.ldD, hul]
    refine callR_of (i_DropIntegers_core b0 ⟨ho.is, by omega⟩ ⟨(hus k (by omega)).ext eHG, totL_row hm k, A1.w k⟩) ?_
    rintro _ G1 ⟨e1, x, rfl, p, _⟩
    cases hf : dropOkI a0 (dropV a0 xs1 t) (xs1.getD k [])
    · simp (disch := first | assumption | omega | rfl | (refine id ?_; simp only [gxD, ne_eq, reduceCtorEq, not_false_eq_true, Nat.reduceAdd, *]; done) | (refine id ?_; simp only [gxD]; omega)) only [↓gxPre, gxPost, ↓reduceIte, Nat.reduceEqDiff, reduceCtorEq, Nat.reduceAdd]
      rw [hk] at hf
      exact .no (levOk_no c1 hf) (eHG.trans e1)
    rw [hf, ← hdd] at p
    simp (disch := first | assumption | omega | rfl | (refine id ?_; simp only [gxD, ne_eq, reduceCtorEq, not_false_eq_true, Nat.reduceAdd, *]; done) | (refine id ?_; simp only [gxD]; omega)) only [↓gxPre, gxPost, ↓reduceIte, Nat.reduceEqDiff, reduceCtorEq, Nat.reduceAdd]
    refine ⟨(t + 1, x), by simp only; omega, by simp; omega, by simp only; omega, fun j hj => ?_, hE.trans e1, ?_⟩
    · by_cases hjt : j = t
      · subst hjt; rw [hk] at hf; exact hf
      · exact hok j (by simp only at hj; omega)
    · simp only [selL, if_true] at p
      exact p.wide hEn (Nat.le_refl _)
  · have hte : t = xs1.length - 1 := by omega
    have hneg : ¬ (0 : Int) ≤ (xs1.length : Int) - 2 - (t : Int) := by omega
    simp (disch := first | assumption | omega | rfl | (refine id ?_; simp only [gxD, ne_eq, reduceCtorEq, not_false_eq_true, Nat.reduceAdd, *]; done) | (refine id ?_; simp only [gxD]; omega)) only [↓gxPre, gxPost, ↓reduceIte, Nat.reduceEqDiff, reduceCtorEq, Nat.reduceAdd, hneg]
    refine callR_pure (i_AreIntegers_ok ho.is (by omega)) (.inl rfl) ?_
    rw [levOk_yes h0 h1 (fun k hk => hok k (by omega)), ← hte]
    cases hf : integersF (dropV a0 xs1 t)
    · simp (disch := first | assumption | omega | rfl | (refine id ?_; simp only [gxD, ne_eq, reduceCtorEq, not_false_eq_true, Nat.reduceAdd, *]; done) | (refine id ?_; simp only [gxD]; omega)) only [↓gxPre, gxPost, ↓reduceIte, Nat.reduceEqDiff, reduceCtorEq, Nat.reduceAdd]
      exact .no rfl eHG
    simp (disch := first | assumption | omega | rfl | (refine id ?_; simp only [gxD, ne_eq, reduceCtorEq, not_false_eq_true, Nat.reduceAdd, *]; done) | (refine id ?_; simp only [gxD]; omega)) only [↓gxPre, gxPost, ↓reduceIte, Nat.reduceEqDiff, reduceCtorEq, Nat.reduceAdd]
    exact .yes rfl eHG (ho.wide hKn (Nat.le_refl _)) (by omega)
theorem s_DropLevels_law {H : Heap} {a0 : Int} {v1 : Value} {xs1 : List (List Int)} (b0 : -9223372036854775808 ≤ a0 ∧ a0 ≤ 9223372036854775807) (A1 : ASI H v1 xs1) :
    ACalls Try.prog n_s_DropLevels [.int .i64 a0, v1] H fun r H' => ListR iv t_int64 H (levOk a0 xs1) (dropV a0 xs1 (xs1.length - 1)) r H' := by
  have hm := A1.le
  have hnx : xs1.length ≤ 2 ^ 40 := by unfold totL at hm; omega
  obtain ⟨us, hu, hul, hus⟩ := A1.rd
  refine k_s_DropLevels.run rfl ?_
  unfold c_s_DropLevels
  simp (disch := first | assumption | omega | rfl | (refine id ?_; simp only [gxD, ne_eq, reduceCtorEq, not_false_eq_true, Nat.reduceAdd, *]; done) | (refine id ?_; simp only [gxD]; omega)) only [↓gxPre, gxPost, ↓reduceIte, Nat.reduceEqDiff, reduceCtorEq, Nat.reduceAdd]
  refine loop_forH xs1.length (fun i => [.int .i64 a0, v1, .slice (some ⟨H.n, 0, none⟩) i i, .int .i64 i])
    (fun i G => H.n + 1 ≤ G.n ∧ Ext H G ∧ G.blk H.n = some ⟨true, t_int, (castL (sizeJ xs1 i)).map iv⟩) rfl ⟨by simp only [new_n]; omega, ⟨by first | omega | (simp only [new_n, put_n]; omega) | (simp only [new_n, put_n] at *; omega), fun i hi => by simp (disch := first | assumption | omega | rfl | (refine id ?_; simp only [gxD, ne_eq, reduceCtorEq, not_false_eq_true, Nat.reduceAdd, *]; done) | (refine id ?_; simp only [gxD]; omega)) only [↓gxPre, gxPost, ↓reduceIte, Nat.reduceEqDiff, reduceCtorEq, Nat.reduceAdd, *]⟩, by simp (disch := first | assumption | omega | rfl | (refine id ?_; simp only [gxD, ne_eq, reduceCtorEq, not_false_eq_true, Nat.reduceAdd, *]; done) | (refine id ?_; simp only [gxD]; omega)) only [↓gxPre, gxPost, ↓reduceIte, Nat.reduceEqDiff, reduceCtorEq, Nat.reduceAdd]; rfl⟩ ?_ ?_
  rotate_left
  · rintro i G hi ⟨hG, hE, hc⟩
    have hu' := hu.ext hE
    have ht : ((castL (sizeJ xs1 i)).map iv).length = i := by rw [lMapI, castL_length, sizeJ_length]
    have hm5 : (castL (sizeJ xs1 i)).map iv ++ [.int .i64 ((xs1.getD i []).length : Int)] = (castL (sizeJ xs1 (i + 1))).map iv := by rw [castL_snoc, sizeJ_succ]
    obtain ⟨f1, f2, f3, f4⟩ := push_at hE hc (Nat.le_refl _) (by omega) hm5
    simp (disch := first | assumption | omega | rfl | (refine id ?_; simp only [gxD, ne_eq, reduceCtorEq, not_false_eq_true, Nat.reduceAdd, *]; done) | (refine id ?_; simp only [gxD]; omega)) only [↓gxPre, gxPost, ↓reduceIte, Nat.reduceEqDiff, reduceCtorEq, Nat.reduceAdd, hu'.len, hu'.ia, hu'.ldD, hul, (hus i hi).len, hc]
    exact ⟨by simp, by omega, f1, by rw [hm5]⟩
  rintro K ⟨nK, eK, c1⟩
  rw [sizeJ_all] at c1
  have huK := hu.ext eK
  simp (disch := first | assumption | omega | rfl | (refine id ?_; simp only [gxD, ne_eq, reduceCtorEq, not_false_eq_true, Nat.reduceAdd, *]; done) | (refine id ?_; simp only [gxD]; omega)) only [↓gxPre, gxPost, ↓reduceIte, Nat.reduceEqDiff, reduceCtorEq, Nat.reduceAdd, huK.len, hul, Int.lt_irrefl]
  refine callR_pure s_l02Kind_ok (.inl rfl) ?_
  cases h0 : within a0 0 2
  · simp (disch := first | assumption | omega | rfl | (refine id ?_; simp only [gxD, ne_eq, reduceCtorEq, not_false_eq_true, Nat.reduceAdd, *]; done) | (refine id ?_; simp only [gxD]; omega)) only [↓gxPre, gxPost, ↓reduceIte, Nat.reduceEqDiff, reduceCtorEq, Nat.reduceAdd]
    exact .no (by simp only [levOk, h0, Bool.false_and, Bool.true_and, Bool.and_true, Bool.and_false, Bool.or_true, Bool.true_or, Bool.false_or, Bool.or_false, Bool.and_self, Bool.or_self]) eK
  simp (disch := first | assumption | omega | rfl | (refine id ?_; simp only [gxD, ne_eq, reduceCtorEq, not_false_eq_true, Nat.reduceAdd, *]; done) | (refine id ?_; simp only [gxD]; omega)) only [↓gxPre, gxPost, ↓reduceIte, Nat.reduceEqDiff, reduceCtorEq, Nat.reduceAdd]
  refine callR_pure (s_l02Sizes_ok (IS.own c1 (by omega) (by simp [castL])) (by simpa using hnx) (sizesJ_le hm) (sizesJ_sum xs1 hm)) (.inl rfl) ?_
  cases h1 : sizesF (xs1.map List.length)
  · simp (disch := first | assumption | omega | rfl | (refine id ?_; simp only [gxD, ne_eq, reduceCtorEq, not_false_eq_true, Nat.reduceAdd, *]; done) | (refine id ?_; simp only [gxD]; omega)) only [↓gxPre, gxPost, ↓reduceIte, Nat.reduceEqDiff, reduceCtorEq, Nat.reduceAdd]
    exact .no (by simp only [levOk, h1, Bool.false_and, Bool.true_and, Bool.and_true, Bool.and_false, Bool.or_true, Bool.true_or, Bool.false_or, Bool.or_false, Bool.and_self, Bool.or_self]) eK
  have hn17 := sizesJ_n h1
  rw [List.length_map] at hn17
  obtain ⟨hn1, hn7⟩ := hn17
  have e1t : ((xs1.length : Int) - 1).toNat = xs1.length - 1 := by omega
  have hlb := totL_row hm (xs1.length - 1)
  have hKn := eK.n
  simp (disch := first | assumption | omega | rfl | (refine id ?_; simp only [gxD, ne_eq, reduceCtorEq, not_false_eq_true, Nat.reduceAdd, *]; done) | (refine id ?_; simp only [gxD]; omega)) only [↓gxPre, gxPost, ↓reduceIte, Nat.reduceEqDiff, reduceCtorEq, Nat.reduceAdd, huK.len, huK.ia, huK.ldD, hul, e1t]
  refine callR_pure (s_l02Integers_ok ((hus (xs1.length - 1) (by omega)).ext eK) hlb) (.inl rfl) ?_
  have huN := (hu.ext eK).ext (.new K ⟨true, t_int64, []⟩)
  have hr := (((hus (xs1.length - 1) (by omega)).ext eK).ext (.new K ⟨true, t_int64, []⟩)).read
  have huP := (hu.ext eK).ext (.new K ⟨true, t_int64, (xs1.getD (xs1.length - 1) []).map iv⟩)
  have key : ∀ (P : Prop), (integersF (xs1.getD (xs1.length - 1) []) = true → P) → (integersF (xs1.getD (xs1.length - 1) []) = false → ¬ (xs1.length : Int) = 1 → P) → (integersF (xs1.getD (xs1.length - 1) []) = false → (xs1.length : Int) = 1 → P) → P := fun P f g k => by
    cases h : integersF (xs1.getD (xs1.length - 1) [])
    · by_cases h' : (xs1.length : Int) = 1
      · exact k h h'
      · exact g h h'
    · exact f h
  refine key _ (fun h2 => ?_) (fun h2 h3 => ?_) (fun h2 h3 => ?_)
  rotate_right
  · simp (disch := first | assumption | omega | rfl | (refine id ?_; simp only [gxD, ne_eq, reduceCtorEq, not_false_eq_true, Nat.reduceAdd, *]; done) | (refine id ?_; simp only [gxD]; omega)) only [↓gxPre, gxPost, ↓reduceIte, Nat.reduceEqDiff, reduceCtorEq, Nat.reduceAdd, h2, h3, huK.len, hul]
    have hz : xs1.length - 1 = 0 := by omega
    rw [← dropV_zero a0] at h2
    refine .no ?_ eK
    unfold levOk
    rw [hz, h2, Bool.and_false]
  all_goals have hone : xs1.length = 1 → integersF (xs1.getD (xs1.length - 1) []) = true := fun h => by first | exact h2 | (exfalso; omega)
  all_goals first | simp (disch := first | assumption | omega | rfl | (refine id ?_; simp only [gxD, ne_eq, reduceCtorEq, not_false_eq_true, Nat.reduceAdd, *]; done) | (refine id ?_; simp only [gxD]; omega)) only [↓gxPre, gxPost, ↓reduceIte, Nat.reduceEqDiff, reduceCtorEq, Nat.reduceAdd, h2, h3, huK.len, huN.len, huN.ia, huN.ldD, hul, e1t, hr, List.nil_append, lMapI, huP.len] | simp (disch := first | assumption | omega | rfl | (refine id ?_; simp only [gxD, ne_eq, reduceCtorEq, not_false_eq_true, Nat.reduceAdd, *]; done) | (refine id ?_; simp only [gxD]; omega)) only [↓gxPre, gxPost, ↓reduceIte, Nat.reduceEqDiff, reduceCtorEq, Nat.reduceAdd, h2, huK.len, huN.len, huN.ia, huN.ldD, hul, e1t, hr, List.nil_append, lMapI, huP.len]
  all_goals clear h2
  all_goals (
    refine loop_st (σ := Nat × Value) (fun s => [.int .i64 a0, v1, s.2, .int .i64 ((xs1.length : Int) - 2 - s.1)])
      (fun s G => s.1 ≤ xs1.length - 1 ∧ (∀ k, k < s.1 → dropOkI a0 (dropV a0 xs1 k) (xs1.getD (xs1.length - 2 - k) []) = true) ∧ Ext K G ∧ OwL K.n G.n G t_int64 s.2 ((dropV a0 xs1 s.1).map iv))
      (fun s => xs1.length - s.1) (0, .slice (some ⟨K.n, 0, none⟩) (xs1.getD (xs1.length - 1) []).length (xs1.getD (xs1.length - 1) []).length) (by simp)
      ⟨by omega, by intros; omega, .new _ _, .mk (new_self _ _) (by rw [lMapI, dropV_zero]) (by first | omega | (simp only [new_n, put_n]; omega)) (by first | omega | (simp only [new_n, put_n]; omega)) (by first | omega | (simp only [new_n, put_n]; omega))⟩ ?_
    rintro ⟨t, v⟩ G ⟨ht, hok, hE, ho⟩
    simp only at ht hok ho ⊢
    have eHG := eK.trans hE
    have huG := hu.ext eHG
    have hle := dropV_le (kind := a0) hm t hok
    have hEn := hE.n
    by_cases c1 : t < xs1.length - 1
    · obtain ⟨k, hk⟩ : ∃ k, k = xs1.length - 2 - t := ⟨_, rfl⟩
      have hki : (xs1.length : Int) - 2 - (t : Int) = (k : Int) := by omega
      have hk0 : (0 : Int) ≤ (k : Int) := by omega
      have hdd : dropV a0 xs1 (t + 1) = dropI a0 (dropV a0 xs1 t) (xs1.getD k []) := by rw [dropV_succ, hk]
      rw [hki]
      simp (disch := first | assumption | omega | rfl | (refine id ?_; simp only [gxD, ne_eq, reduceCtorEq, not_false_eq_true, Nat.reduceAdd, *]; done) | (refine id ?_; simp only [gxD]; omega)) only [↓gxPre, gxPost, ↓reduceIte, Nat.reduceEqDiff, reduceCtorEq, Nat.reduceAdd, hk0, huG.ia, huG.ldD, hul]
      refine callR_of (s_l02Drop_law ⟨ho.is, by omega⟩ ⟨(hus k (by omega)).ext eHG, totL_row hm k, A1.w k⟩ h0) ?_
      rintro _ G1 ⟨e1, x, rfl, p, _⟩
      cases hf : dropOkI a0 (dropV a0 xs1 t) (xs1.getD k [])
      · simp (disch := first | assumption | omega | rfl | (refine id ?_; simp only [gxD, ne_eq, reduceCtorEq, not_false_eq_true, Nat.reduceAdd, *]; done) | (refine id ?_; simp only [gxD]; omega)) only [↓gxPre, gxPost, ↓reduceIte, Nat.reduceEqDiff, reduceCtorEq, Nat.reduceAdd]
        rw [hk] at hf
        exact .no (levOk_no c1 hf) (eHG.trans e1)
      rw [hf, ← hdd] at p
      simp (disch := first | assumption | omega | rfl | (refine id ?_; simp only [gxD, ne_eq, reduceCtorEq, not_false_eq_true, Nat.reduceAdd, *]; done) | (refine id ?_; simp only [gxD]; omega)) only [↓gxPre, gxPost, ↓reduceIte, Nat.reduceEqDiff, reduceCtorEq, Nat.reduceAdd]
      refine ⟨(t + 1, x), by simp only; omega, by simp; omega, by simp only; omega, fun j hj => ?_, hE.trans e1, ?_⟩
      · by_cases hjt : j = t
        · subst hjt; rw [hk] at hf; exact hf
        · exact hok j (by simp only at hj; omega)
      · simp only [selL, if_true] at p
        exact p.wide hEn (Nat.le_refl _)
    · have hte : t = xs1.length - 1 := by omega
      have hneg : ¬ (0 : Int) ≤ (xs1.length : Int) - 2 - (t : Int) := by omega
      simp (disch := first | assumption | omega | rfl | (refine id ?_; simp only [gxD, ne_eq, reduceCtorEq, not_false_eq_true, Nat.reduceAdd, *]; done) | (refine id ?_; simp only [gxD]; omega)) only [↓gxPre, gxPost, ↓reduceIte, Nat.reduceEqDiff, reduceCtorEq, Nat.reduceAdd, hneg]
      have hfin : integersF (dropV a0 xs1 (xs1.length - 1)) = true := by
        by_cases hz : xs1.length = 1
        · have h := hone hz
          rw [← dropV_zero a0] at h
          rwa [show xs1.length - 1 = 0 by omega]
        · have h := levOk_int (hok (xs1.length - 2) (by omega))
          rwa [show xs1.length - 2 + 1 = xs1.length - 1 by omega] at h
      rw [levOk_yes h0 h1 (fun k hk => hok k (by omega)), hfin, ← hte]
      exact .yes rfl eHG (ho.wide hKn (Nat.le_refl _)) (by omega))
end Go.Proofs.Ytkojmlpaamdhoae
