/- Lists taken back many times. -/
import Derived.Test.YtkojmlpaamdhoaeCoarseOfXE
namespace Go.Proofs.Ytkojmlpaamdhoae
open Go.Gx
set_option maxRecDepth 100000
set_option linter.unusedSimpArgs false
set_option linter.unusedVariables false

theorem wovL_len' {α : Type} {d : α} {ev od : List α} : ∀ i, (wovL d ev od i).length = i + min i od.length
  | 0 => by simp [wovL]
  | i + 1 => by
    have := wovL_len' (d := d) (ev := ev) (od := od) i
    by_cases h : i < od.length
    · rw [wovL_both h]; simp; omega
    · rw [wovL_one h]; simp; omega
theorem dropF_len' (ws : List Nat) (sc : Nat) {ev od : List Nat} (h : od.length ≤ ev.length) : (dropF ws sc ev od).length = ev.length + od.length := by
  unfold dropF
  split
  · omega
  · dsimp only
    have h1 := (weighDown_len ws (ev.map fun x => fbin .quo .f32 x sc, od.map fun x => fbin .mul .f32 x sc) ws.length).1
    have h2 := (weighDown_len ws (ev.map fun x => fbin .quo .f32 x sc, od.map fun x => fbin .mul .f32 x sc) ws.length).2
    simp only [List.length_map] at h1 h2
    rw [wovL_len', h1, h2]
    omega
theorem sizes_at {sz : List Nat} (h : sizesF sz = true) : 1 ≤ sz.length ∧ sz.length ≤ 7 ∧ 1 ≤ sz.getD (sz.length - 1) 0 ∧ ∀ j, j < sz.length - 1 → sizeAt sz j = true := by
  unfold sizesF at h
  simp only [Bool.and_eq_true, decide_eq_true_eq, List.all_eq_true, List.mem_range] at h
  have := within_true.1 h.1.1.1
  exact ⟨by omega, by omega, h.1.1.2, fun j hj => h.2 j hj⟩
theorem suf_pos {sz : List Nat} (h : sizesF sz = true) {k : Nat} (hk : k ≤ sz.length - 1) : 1 ≤ sufS sz k := by
  obtain ⟨h1, h2, h3, h4⟩ := sizes_at h
  have := sufS_le sz (i := k) (j := sz.length - 1) hk
  rw [sufS_last (by omega)] at this
  omega
theorem sizes_fit {sz : List Nat} (h : sizesF sz = true) {k : Nat} (hk : k < sz.length - 1) : fitF (sufS sz (k + 1)) (sz.getD k 0) = true := by
  obtain ⟨h1, h2, h3, h4⟩ := sizes_at h
  have h5 := size_fit (sz := sz) (k := k) (by omega) (suf_pos h (by omega))
  rw [h4 k hk, Bool.and_eq_true] at h5
  exact h5.2
theorem sizes_len (xss : List (List Nat)) (k : Nat) : (xss.map List.length).getD k 0 = (xss.getD k []).length := by
  by_cases h : k < xss.length <;> simp [List.getD_eq_getElem?_getD, h]
def dropD (ws : List Nat) (sc : Nat) (xss : List (List Nat)) : Nat → List Nat := foldI (fun t l => dropF ws sc l (xss.getD (xss.length - 2 - t) [])) (xss.getD (xss.length - 1) [])
theorem dropD_zero (ws : List Nat) (sc : Nat) (xss : List (List Nat)) : dropD ws sc xss 0 = xss.getD (xss.length - 1) [] := rfl
theorem dropD_succ (ws : List Nat) (sc : Nat) (xss : List (List Nat)) (t : Nat) : dropD ws sc xss (t + 1) = dropF ws sc (dropD ws sc xss t) (xss.getD (xss.length - 2 - t) []) := rfl
def unOk (ws : List Nat) (sc : Nat) (xss : List (List Nat)) : Bool := schemeF ws sc && bandsF xss && (List.range (xss.length - 1)).all fun t => (dropD ws sc xss (t + 1)).all finF
theorem dropD_len {ws : List Nat} {sc : Nat} {xss : List (List Nat)} (h : sizesF (xss.map List.length) = true) : ∀ t, t ≤ xss.length - 1 → (dropD ws sc xss t).length = sufS (xss.map List.length) (xss.length - 1 - t)
  | 0, _ => by
    have := sufS_last (sz := xss.map List.length) (by have := (sizes_at h).1; omega)
    rw [List.length_map] at this
    rw [Nat.sub_zero, this, sizes_len]; rfl
  | t + 1, ht => by
    have ih := dropD_len (ws := ws) (sc := sc) h t (by omega)
    have hf := fit_facts (sizes_fit h (k := xss.length - 2 - t) (by rw [List.length_map]; omega))
    rw [show xss.length - 2 - t + 1 = xss.length - 1 - t by omega, sizes_len] at hf
    have hs := sufS_succ (sz := xss.map List.length) (i := xss.length - 2 - t) (by rw [List.length_map]; omega)
    rw [show xss.length - 2 - t + 1 = xss.length - 1 - t by omega, sizes_len] at hs
    rw [dropD_succ, dropF_len' _ _ (by omega), ih, show xss.length - 1 - (t + 1) = xss.length - 2 - t by omega, hs]
    omega
theorem dropD_fit {ws : List Nat} {sc : Nat} {xss : List (List Nat)} (h : sizesF (xss.map List.length) = true) {t : Nat} (ht : t < xss.length - 1) : fitF (dropD ws sc xss t).length (xss.getD (xss.length - 2 - t) []).length = true := by
  have hf := sizes_fit h (k := xss.length - 2 - t) (by rw [List.length_map]; omega)
  rwa [show xss.length - 2 - t + 1 = xss.length - 1 - t by omega, sizes_len, ← dropD_len (ws := ws) (sc := sc) h t (by omega)] at hf
theorem bands_sizes {xss : List (List Nat)} (h : bandsF xss = true) : sizesF (xss.map List.length) = true := by
  unfold bandsF at h
  rw [Bool.and_eq_true] at h
  exact h.1
theorem dropD_fin {ws : List Nat} {sc : Nat} {xss : List (List Nat)} (h : bandsF xss = true) : ∀ t, (∀ k, k < t → (dropD ws sc xss (k + 1)).all finF = true) → (dropD ws sc xss t).all finF = true
  | 0, _ => bandsF_fin h _ (by have := (bandsF_len h).1; omega)
  | t + 1, hk => hk t (by omega)
theorem dropD_ok {ws : List Nat} {sc : Nat} {xss : List (List Nat)} (h0 : schemeF ws sc = true) (h : bandsF xss = true) {t : Nat} (ht : t < xss.length - 1) (hk : ∀ k, k < t → (dropD ws sc xss (k + 1)).all finF = true) : dropOk ws sc (dropD ws sc xss t) (xss.getD (xss.length - 2 - t) []) = (dropD ws sc xss (t + 1)).all finF := by
  unfold dropOk
  rw [h0, dropD_fit (bands_sizes h) ht, dropD_fin h t hk, bandsF_fin h _ (by omega), Bool.and_self, Bool.and_self, Bool.true_and, dropD_succ]
theorem unOk_no {ws : List Nat} {sc : Nat} {xss : List (List Nat)} {t : Nat} (ht : t < xss.length - 1) (h : (dropD ws sc xss (t + 1)).all finF = false) : unOk ws sc xss = false := by
  have : ((List.range (xss.length - 1)).all fun t => (dropD ws sc xss (t + 1)).all finF) = false := by
    rw [List.all_eq_false]
    exact ⟨t, List.mem_range.2 ht, by rw [h]; decide⟩
  unfold unOk
  rw [this, Bool.and_false]
theorem unOk_yes {ws : List Nat} {sc : Nat} {xss : List (List Nat)} (h0 : schemeF ws sc = true) (h1 : bandsF xss = true) (h : ∀ k, k < xss.length - 1 → (dropD ws sc xss (k + 1)).all finF = true) : unOk ws sc xss = true := by
  unfold unOk
  rw [h0, h1, Bool.and_self, Bool.true_and, List.all_eq_true]
  exact fun k hk => h k (List.mem_range.1 hk)
theorem dropD_le {ws : List Nat} {sc : Nat} {xss : List (List Nat)} (h : bandsF xss = true) {t : Nat} (ht : t ≤ xss.length - 1) : (dropD ws sc xss t).length ≤ 128 := by
  have hs := bands_sizes h
  by_cases hz : xss.length = 1
  · have h0 : t = 0 := by omega
    subst h0
    unfold bandsF sizesF at h
    simp only [Bool.and_eq_true, Bool.or_eq_true, decide_eq_true_eq, List.length_map, sizes_len] at h
    have := h.1.1.2
    rw [dropD_zero, show xss.length - 1 = 0 by omega]
    omega
  · have h1 := (sizes_at hs).1
    rw [List.length_map] at h1
    have h2 := (sizes_at hs).2.2.2 0 (by rw [List.length_map]; omega)
    simp only [sizeAt, Bool.and_eq_true, decide_eq_true_eq] at h2
    have h3 := sufS_le (xss.map List.length) (i := 0) (j := xss.length - 1 - t) (by omega)
    rw [dropD_len hs t ht]
    omega
structure RS (H : Heap) (v : Value) (xss : List (List Nat)) : Prop where
  rd : SS H v xss
  le : totL xss ≤ 2 ^ 40
theorem i_DropDeep_core {H : Heap} {v0 v1 : Value} {xs0 : List Nat} {xs1 : List (List Nat)} {a0 : Nat} (A0 : RF H v0 xs0) (b0 : a0 < 2 ^ 32) (A1 : RS H v1 xs1) :
    ACalls Try.prog n_i_DropDeep [.agg #[v0, .float .f32 a0], v1] H fun r H' => ListR fv t_float32 H (unOk xs0 a0 xs1) (dropD xs0 a0 xs1 (xs1.length - 1)) r H' := by
  have hm := A1.le
  refine k_i_DropDeep.run rfl ?_
  unfold c_i_DropDeep
  have o0 := A0.rd.one
  have e0 : Ext H (H.new ⟨true, t_Scheme, [v0, .float .f32 a0]⟩) := .new _ _
  simp (disch := first | assumption | omega | rfl | (refine id ?_; simp only [gxD, ne_eq, reduceCtorEq, not_false_eq_true, Nat.reduceAdd, *]; done) | (refine id ?_; simp only [gxD]; omega)) only [↓gxPre, gxPost, ↓reduceIte, Nat.reduceEqDiff, reduceCtorEq, Nat.reduceAdd]
  refine callR_ext (i_ValidScheme_ok (A0.rd.ext e0) A0.le) ?_
  intro H1 n1 bb1
  have e1 := e0.trans ⟨n1, bb1⟩
  have hs1 : H1.blk H.n = some ⟨true, t_Scheme, [v0, .float .f32 a0]⟩ := (bb1 _ (by first | omega | (simp only [new_n, put_n]; omega))).trans (by simp (disch := first | assumption | omega | rfl | (refine id ?_; simp only [gxD, ne_eq, reduceCtorEq, not_false_eq_true, Nat.reduceAdd, *]; done) | (refine id ?_; simp only [gxD]; omega)) only [↓gxPre, gxPost, ↓reduceIte, Nat.reduceEqDiff, reduceCtorEq, Nat.reduceAdd])
  simp only [new_n] at n1
  cases h0 : schemeF xs0 a0
  · simp (disch := first | assumption | omega | rfl | (refine id ?_; simp only [gxD, ne_eq, reduceCtorEq, not_false_eq_true, Nat.reduceAdd, *]; done) | (refine id ?_; simp only [gxD]; omega)) only [↓gxPre, gxPost, ↓reduceIte, Nat.reduceEqDiff, reduceCtorEq, Nat.reduceAdd]
    exact .no (by simp only [unOk, h0, Bool.false_and, Bool.true_and, Bool.and_true, Bool.and_false, Bool.or_true, Bool.true_or, Bool.false_or, Bool.or_false, Bool.and_self, Bool.or_self]) e1
  simp (disch := first | assumption | omega | rfl | (refine id ?_; simp only [gxD, ne_eq, reduceCtorEq, not_false_eq_true, Nat.reduceAdd, *]; done) | (refine id ?_; simp only [gxD]; omega)) only [↓gxPre, gxPost, ↓reduceIte, Nat.reduceEqDiff, reduceCtorEq, Nat.reduceAdd]
  refine callR_ext (i_AreBands_ok (A1.rd.ext e1) A1.le) ?_
  intro K n2 bb2
  have eK := e1.trans ⟨n2, bb2⟩
  have hsK : K.blk H.n = some ⟨true, t_Scheme, [v0, .float .f32 a0]⟩ := (bb2 _ (by omega)).trans hs1
  cases h1 : bandsF xs1
  · simp (disch := first | assumption | omega | rfl | (refine id ?_; simp only [gxD, ne_eq, reduceCtorEq, not_false_eq_true, Nat.reduceAdd, *]; done) | (refine id ?_; simp only [gxD]; omega)) only [↓gxPre, gxPost, ↓reduceIte, Nat.reduceEqDiff, reduceCtorEq, Nat.reduceAdd]
    exact .no (by simp only [unOk, h1, Bool.false_and, Bool.true_and, Bool.and_true, Bool.and_false, Bool.or_true, Bool.true_or, Bool.false_or, Bool.or_false, Bool.and_self, Bool.or_self]) eK
  obtain ⟨hn1, hn7⟩ := bandsF_len h1
  obtain ⟨us, hu, hul, hus⟩ := A1.rd
  have huK := hu.ext eK
  have e1t : ((xs1.length : Int) - 1).toNat = xs1.length - 1 := by omega
  simp (disch := first | assumption | omega | rfl | (refine id ?_; simp only [gxD, ne_eq, reduceCtorEq, not_false_eq_true, Nat.reduceAdd, *]; done) | (refine id ?_; simp only [gxD]; omega)) only [↓gxPre, gxPost, ↓reduceIte, Nat.reduceEqDiff, reduceCtorEq, Nat.reduceAdd, huK.len, huK.ia, huK.ldD, hul, e1t]
  refine callR_of (i_copyOf_ex ((hus (xs1.length - 1) (by omega)).ext eK) (totL_row hm _)) ?_
  rintro _ P ⟨eP, rfl, nP, hcP⟩
  have hKn := eK.n
  have huP := huK.ext eP
  simp (disch := first | assumption | omega | rfl | (refine id ?_; simp only [gxD, ne_eq, reduceCtorEq, not_false_eq_true, Nat.reduceAdd, *]; done) | (refine id ?_; simp only [gxD]; omega)) only [↓gxPre, gxPost, ↓reduceIte, Nat.reduceEqDiff, reduceCtorEq, Nat.reduceAdd, huP.len, hul]
  refine loop_st (σ := Nat × Value) (fun s => [v1, .pointer (some ⟨H.n, 0, some 2⟩), s.2, .int .i64 ((xs1.length : Int) - 2 - s.1)])
    (fun s G => s.1 ≤ xs1.length - 1 ∧ (∀ k, k < s.1 → (dropD xs0 a0 xs1 (k + 1)).all finF = true) ∧ Ext K G ∧ OwL K.n G.n G t_float32 s.2 ((dropD xs0 a0 xs1 s.1).map fv))
    (fun s => xs1.length - s.1) (0, .slice (some ⟨K.n, 0, none⟩) (xs1.getD (xs1.length - 1) []).length (xs1.getD (xs1.length - 1) []).length) (by simp)
    ⟨by omega, by intros; omega, eP, .mk hcP (by rw [lMapN, dropD_zero]) (by omega) (by omega) (by have := totL_row hm (xs1.length - 1); omega)⟩ ?_
  rintro ⟨t, v⟩ G ⟨ht, hok, hE, ho⟩
  simp only at ht hok ho ⊢
  have eHG := eK.trans hE
  have huG := hu.ext eHG
  have hsG : G.blk H.n = some ⟨true, t_Scheme, [v0, .float .f32 a0]⟩ := (hE.blk _ (by omega)).trans hsK
  have hle := dropD_le (ws := xs0) (sc := a0) h1 (t := t) ht
  by_cases c1 : t < xs1.length - 1
  · obtain ⟨k, hk⟩ : ∃ k, k = xs1.length - 2 - t := ⟨_, rfl⟩
    have hki : (xs1.length : Int) - 2 - (t : Int) = (k : Int) := by omega
    have hk0 : (0 : Int) ≤ (k : Int) := by omega
    rw [hki]
    simp (disch := first | assumption | omega | rfl | (refine id ?_; simp only [gxD, ne_eq, reduceCtorEq, not_false_eq_true, Nat.reduceAdd, *]; done) | (refine id ?_; simp only [gxD]; omega)) only [↓gxPre, gxPost, ↓reduceIte, Nat.reduceEqDiff, reduceCtorEq, Nat.reduceAdd, hk0, hsG, huG.ia, huG.ldD, hul]
    refine callR_of (i_DropOnce_core ⟨A0.rd.ext eHG, A0.le⟩ b0 ⟨ho.fs, by omega⟩ ⟨(hus k (by omega)).ext eHG, totL_row hm k⟩) ?_
    rintro _ G1 ⟨e1, x, rfl, p, _⟩
    rw [hk, dropD_ok h0 h1 c1 hok, ← hk] at *
    have hEn := hE.n
    cases hf : (dropD xs0 a0 xs1 (t + 1)).all finF
    · simp (disch := first | assumption | omega | rfl | (refine id ?_; simp only [gxD, ne_eq, reduceCtorEq, not_false_eq_true, Nat.reduceAdd, *]; done) | (refine id ?_; simp only [gxD]; omega)) only [↓gxPre, gxPost, ↓reduceIte, Nat.reduceEqDiff, reduceCtorEq, Nat.reduceAdd]
      exact .no (unOk_no c1 hf) (eHG.trans e1)
    simp (disch := first | assumption | omega | rfl | (refine id ?_; simp only [gxD, ne_eq, reduceCtorEq, not_false_eq_true, Nat.reduceAdd, *]; done) | (refine id ?_; simp only [gxD]; omega)) only [↓gxPre, gxPost, ↓reduceIte, Nat.reduceEqDiff, reduceCtorEq, Nat.reduceAdd]
    refine ⟨(t + 1, x), by simp only; omega, by simp; omega, by simp only; omega, fun j hj => ?_, hE.trans e1, ?_⟩
    · by_cases hjt : j = t
      · subst hjt; exact hf
      · exact hok j (by simp only at hj; omega)
    · simp only [hf, selL, if_true] at p
      rw [hk] at p
      exact p.wide hEn (Nat.le_refl _)
  · have hte : t = xs1.length - 1 := by omega
    have hneg : ¬ (0 : Int) ≤ (xs1.length : Int) - 2 - (t : Int) := by omega
    simp (disch := first | assumption | omega | rfl | (refine id ?_; simp only [gxD, ne_eq, reduceCtorEq, not_false_eq_true, Nat.reduceAdd, *]; done) | (refine id ?_; simp only [gxD]; omega)) only [↓gxPre, gxPost, ↓reduceIte, Nat.reduceEqDiff, reduceCtorEq, Nat.reduceAdd, hneg]
    rw [← hte]
    exact .yes (unOk_yes h0 h1 fun k hk => hok k (by omega)) eHG (ho.wide hKn (Nat.le_refl _)) (by omega)
theorem i_DropDeep_law {H : Heap} {v0 v1 : Value} {xs0 : List Nat} {xs1 : List (List Nat)} {a0 : Nat} (A0 : AF H v0 xs0) (b0 : a0 < 2 ^ 32) (A1 : AS H v1 xs1) :
    ACalls Try.prog n_i_DropDeep [.agg #[v0, .float .f32 a0], v1] H fun r H' => ListR fv t_float32 H (unOk xs0 a0 xs1) (dropD xs0 a0 xs1 (xs1.length - 1)) r H' :=
  i_DropDeep_core ⟨A0.rd, A0.le⟩ b0 ⟨A1.rd, A1.le⟩
theorem s_l02Undeep_ok {H K : Heap} {h a0 : Nat} {own : Bool} {ty : TypeId} {v0 v1 : Value} {xs0 : List Nat} {xs1 : List (List Nat)} (hsK : K.blk h = some ⟨own, ty, [v0, .float .f32 a0]⟩) (hh : h < K.n) (eK : Ext H K) (A0 : RF K v0 xs0) (A1 : SS K v1 xs1) (hm : totL xs1 ≤ 2 ^ 40) (h0 : schemeF xs0 a0 = true) (h1 : bandsF xs1 = true) :
    ACalls Try.prog n_s_l02Undeep [.pointer (some ⟨h, 0, some 2⟩), v1] K fun r H' => ListR fv t_float32 H (unOk xs0 a0 xs1) (dropD xs0 a0 xs1 (xs1.length - 1)) r H' := by
  refine k_s_l02Undeep.run rfl ?_
  unfold c_s_l02Undeep
  obtain ⟨hn1, hn7⟩ := bandsF_len h1
  have h01 : (1 : Int) ≤ xs0.length ∧ (xs0.length : Int) ≤ 8 := by
    have h00 := h0
    unfold schemeF at h00
    simp only [Bool.and_eq_true] at h00
    exact within_true.1 h00.1.1
  have hKn := eK.n
  obtain ⟨us, hu, hul, hus⟩ := A1
  have huN := hu.ext (.new K ⟨true, t_float32, []⟩)
  have e1t : ((xs1.length : Int) - 1).toNat = xs1.length - 1 := by omega
  have hr := ((hus (xs1.length - 1) (by omega)).ext (.new K ⟨true, t_float32, []⟩)).read
  have huP := hu.ext (.new K ⟨true, t_float32, (xs1.getD (xs1.length - 1) []).map fv⟩)
  have hlb := totL_row hm (xs1.length - 1)
  simp (disch := first | assumption | omega | rfl | (refine id ?_; simp only [gxD, ne_eq, reduceCtorEq, not_false_eq_true, Nat.reduceAdd, *]; done) | (refine id ?_; simp only [gxD]; omega)) only [↓gxPre, gxPost, ↓reduceIte, Nat.reduceEqDiff, reduceCtorEq, Nat.reduceAdd, huN.len, huN.ia, huN.ldD, hul, e1t, hr, List.nil_append, lMapN, huP.len]
  refine loop_st (σ := Nat × Value) (fun s => [.pointer (some ⟨h, 0, some 2⟩), v1, s.2, .int .i64 ((xs1.length : Int) - 2 - s.1)])
    (fun s G => s.1 ≤ xs1.length - 1 ∧ (∀ k, k < s.1 → (dropD xs0 a0 xs1 (k + 1)).all finF = true) ∧ Ext K G ∧ OwL K.n G.n G t_float32 s.2 ((dropD xs0 a0 xs1 s.1).map fv))
    (fun s => xs1.length - s.1) (0, .slice (some ⟨K.n, 0, none⟩) (xs1.getD (xs1.length - 1) []).length (xs1.getD (xs1.length - 1) []).length) (by simp)
    ⟨by omega, by intros; omega, .new _ _, .mk (new_self _ _) (by rw [lMapN, dropD_zero]) (by first | omega | (simp only [new_n, put_n]; omega)) (by first | omega | (simp only [new_n, put_n]; omega)) (by first | omega | (simp only [new_n, put_n]; omega))⟩ ?_
  rintro ⟨t, v⟩ G ⟨ht, hok, hE, ho⟩
  simp only at ht hok ho ⊢
  have eHG := eK.trans hE
  have huG := hu.ext hE
  have hsG : G.blk h = some ⟨own, ty, [v0, .float .f32 a0]⟩ := (hE.blk _ hh).trans hsK
  have hle := dropD_le (ws := xs0) (sc := a0) h1 (t := t) ht
  by_cases c1 : t < xs1.length - 1
  · obtain ⟨k, hk⟩ : ∃ k, k = xs1.length - 2 - t := ⟨_, rfl⟩
    have hki : (xs1.length : Int) - 2 - (t : Int) = (k : Int) := by omega
    have hk0 : (0 : Int) ≤ (k : Int) := by omega
    rw [hki]
    simp (disch := first | assumption | omega | rfl | (refine id ?_; simp only [gxD, ne_eq, reduceCtorEq, not_false_eq_true, Nat.reduceAdd, *]; done) | (refine id ?_; simp only [gxD]; omega)) only [↓gxPre, gxPost, ↓reduceIte, Nat.reduceEqDiff, reduceCtorEq, Nat.reduceAdd, hk0, hsG, huG.ia, huG.ldD, hul]
    have hGn := hE.n
    have hfit := dropD_fit (ws := xs0) (sc := a0) (bands_sizes h1) c1
    rw [← hk] at hfit
    obtain ⟨p1, p2, p3⟩ := fit_facts hfit
    have hdd : dropD xs0 a0 xs1 (t + 1) = dropF xs0 a0 (dropD xs0 a0 xs1 t) (xs1.getD k []) := by rw [dropD_succ, hk]
    refine callR_of (s_l02DropOnce_ok hsG (by omega) ⟨A0.rd.ext hE, A0.le⟩ (by omega) (by omega) ⟨ho.fs, by omega⟩ ⟨(hus k (by omega)).ext hE, totL_row hm k⟩ p1 p2 p3) ?_
    rintro _ G1 ⟨e1, x, rfl, p, _⟩
    rw [← hdd] at p ⊢
    have hEn := hE.n
    cases hf : (dropD xs0 a0 xs1 (t + 1)).all finF
    · simp (disch := first | assumption | omega | rfl | (refine id ?_; simp only [gxD, ne_eq, reduceCtorEq, not_false_eq_true, Nat.reduceAdd, *]; done) | (refine id ?_; simp only [gxD]; omega)) only [↓gxPre, gxPost, ↓reduceIte, Nat.reduceEqDiff, reduceCtorEq, Nat.reduceAdd]
      exact .no (unOk_no c1 hf) (eHG.trans e1)
    simp (disch := first | assumption | omega | rfl | (refine id ?_; simp only [gxD, ne_eq, reduceCtorEq, not_false_eq_true, Nat.reduceAdd, *]; done) | (refine id ?_; simp only [gxD]; omega)) only [↓gxPre, gxPost, ↓reduceIte, Nat.reduceEqDiff, reduceCtorEq, Nat.reduceAdd]
    refine ⟨(t + 1, x), by simp only; omega, by simp; omega, by simp only; omega, fun j hj => ?_, hE.trans e1, ?_⟩
    · by_cases hjt : j = t
      · subst hjt; exact hf
      · exact hok j (by simp only at hj; omega)
    · simp only [hf, selL, if_true] at p
      exact p.wide hEn (Nat.le_refl _)
  · have hte : t = xs1.length - 1 := by omega
    have hneg : ¬ (0 : Int) ≤ (xs1.length : Int) - 2 - (t : Int) := by omega
    simp (disch := first | assumption | omega | rfl | (refine id ?_; simp only [gxD, ne_eq, reduceCtorEq, not_false_eq_true, Nat.reduceAdd, *]; done) | (refine id ?_; simp only [gxD]; omega)) only [↓gxPre, gxPost, ↓reduceIte, Nat.reduceEqDiff, reduceCtorEq, Nat.reduceAdd, hneg]
    rw [← hte]
    exact .yes (unOk_yes h0 h1 fun k hk => hok k (by omega)) eHG (ho.wide hKn (Nat.le_refl _)) (by omega)
end Go.Proofs.Ytkojmlpaamdhoae
