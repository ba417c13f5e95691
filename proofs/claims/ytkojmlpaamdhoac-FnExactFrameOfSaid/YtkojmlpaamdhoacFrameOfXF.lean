/- Lists taken back many times. -/
import Derived.Test.YtkojmlpaamdhoacFrameOfXE
namespace Go.Proofs.Ytkojmlpaamdhoac
open Go.Gx
set_option maxRecDepth 100000
set_option linter.unusedSimpArgs false
set_option linter.unusedVariables false

theorem wovL_len' {α : Type} {d : α} {ev od : List α} : ∀ i, (wovL d ev od i).length = i + min i od.length
  | 0 => by simp [wovL]
  | i + 1 => by
    have := wovL_len' (d := d) (ev := ev) (od := od) i
    by_cases h : i < od.length
    · rw [wovL_both h]; simp; omega
    · rw [wovL_one h]; simp; omega
theorem dropF_len' (ws : List Nat) (sc : Nat) {ev od : List Nat} (h : od.length ≤ ev.length) : (dropF ws sc ev od).length = ev.length + od.length := by
  unfold dropF
  split
  · omega
  · dsimp only
    have h1 := (weighDown_len ws (ev.map fun x => fbin .quo .f32 x sc, od.map fun x => fbin .mul .f32 x sc) ws.length).1
    have h2 := (weighDown_len ws (ev.map fun x => fbin .quo .f32 x sc, od.map fun x => fbin .mul .f32 x sc) ws.length).2
    simp only [List.length_map] at h1 h2
    rw [wovL_len', h1, h2]
    omega
theorem sizes_at {sz : List Nat} (h : sizesF sz = true) : 1 ≤ sz.length ∧ sz.length ≤ 7 ∧ 1 ≤ sz.getD (sz.length - 1) 0 ∧ ∀ j, j < sz.length - 1 → sizeAt sz j = true := by
  unfold sizesF at h
  simp only [Bool.and_eq_true, decide_eq_true_eq, List.all_eq_true, List.mem_range] at h
  have := within_true.1 h.1.1.1
  exact ⟨by omega, by omega, h.1.1.2, fun j hj => h.2 j hj⟩
theorem suf_pos {sz : List Nat} (h : sizesF sz = true) {k : Nat} (hk : k ≤ sz.length - 1) : 1 ≤ sufS sz k := by
  obtain ⟨h1, h2, h3, h4⟩ := sizes_at h
  have := sufS_le sz (i := k) (j := sz.length - 1) hk
  rw [sufS_last (by omega)] at this
  omega
theorem sizes_fit {sz : List Nat} (h : sizesF sz = true) {k : Nat} (hk : k < sz.length - 1) : fitF (sufS sz (k + 1)) (sz.getD k 0) = true := by
  obtain ⟨h1, h2, h3, h4⟩ := sizes_at h
  have h5 := size_fit (sz := sz) (k := k) (by omega) (suf_pos h (by omega))
  rw [h4 k hk, Bool.and_eq_true] at h5
  exact h5.2
theorem sizes_len (xss : List (List Nat)) (k : Nat) : (xss.map List.length).getD k 0 = (xss.getD k []).length := by
  by_cases h : k < xss.length <;> simp [List.getD_eq_getElem?_getD, h]
def dropD (ws : List Nat) (sc : Nat) (xss : List (List Nat)) : Nat → List Nat := foldI (fun t l => dropF ws sc l (xss.getD (xss.length - 2 - t) [])) (xss.getD (xss.length - 1) [])
theorem dropD_zero (ws : List Nat) (sc : Nat) (xss : List (List Nat)) : dropD ws sc xss 0 = xss.getD (xss.length - 1) [] := rfl
theorem dropD_succ (ws : List Nat) (sc : Nat) (xss : List (List Nat)) (t : Nat) : dropD ws sc xss (t + 1) = dropF ws sc (dropD ws sc xss t) (xss.getD (xss.length - 2 - t) []) := rfl
def unOk (ws : List Nat) (sc : Nat) (xss : List (List Nat)) : Bool := schemeF ws sc && bandsF xss && (List.range (xss.length - 1)).all fun t => (dropD ws sc xss (t + 1)).all finF
theorem dropD_len {ws : List Nat} {sc : Nat} {xss : List (List Nat)} (h : sizesF (xss.map List.length) = true) : ∀ t, t ≤ xss.length - 1 → (dropD ws sc xss t).length = sufS (xss.map List.length) (xss.length - 1 - t)
  | 0, _ => by
    have := sufS_last (sz := xss.map List.length) (by have := (sizes_at h).1; omega)
    rw [List.length_map] at this
    rw [Nat.sub_zero, this, sizes_len]; rfl
  | t + 1, ht => by
    have ih := dropD_len (ws := ws) (sc := sc) h t (by omega)
    have hf := fit_facts (sizes_fit h (k := xss.length - 2 - t) (by rw [List.length_map]; omega))
    rw [show xss.length - 2 - t + 1 = xss.length - 1 - t by omega, sizes_len] at hf
    have hs := sufS_succ (sz := xss.map List.length) (i := xss.length - 2 - t) (by rw [List.length_map]; omega)
    rw [show xss.length - 2 - t + 1 = xss.length - 1 - t by omega, sizes_len] at hs
    rw [dropD_succ, dropF_len' _ _ (by omega), ih, show xss.length - 1 - (t + 1) = xss.length - 2 - t by omega, hs]
    omega
theorem dropD_fit {ws : List Nat} {sc : Nat} {xss : List (List Nat)} (h : sizesF (xss.map List.length) = true) {t : Nat} (ht : t < xss.length - 1) : fitF (dropD ws sc xss t).length (xss.getD (xss.length - 2 - t) []).length = true := by
  have hf := sizes_fit h (k := xss.length - 2 - t) (by rw [List.length_map]; omega)
  rwa [show xss.length - 2 - t + 1 = xss.length - 1 - t by omega, sizes_len, ← dropD_len (ws := ws) (sc := sc) h t (by omega)] at hf
theorem bands_sizes {xss : List (List Nat)} (h : bandsF xss = true) : sizesF (xss.map List.length) = true := by
  unfold bandsF at h
  rw [Bool.and_eq_true] at h
  exact h.1
theorem dropD_fin {ws : List Nat} {sc : Nat} {xss : List (List Nat)} (h : bandsF xss = true) : ∀ t, (∀ k, k < t → (dropD ws sc xss (k + 1)).all finF = true) → (dropD ws sc xss t).all finF = true
  | 0, _ => bandsF_fin h _ (by have := (bandsF_len h).1; omega)
  | t + 1, hk => hk t (by omega)
theorem dropD_ok {ws : List Nat} {sc : Nat} {xss : List (List Nat)} (h0 : schemeF ws sc = true) (h : bandsF xss = true) {t : Nat} (ht : t < xss.length - 1) (hk : ∀ k, k < t → (dropD ws sc xss (k + 1)).all finF = true) : dropOk ws sc (dropD ws sc xss t) (xss.getD (xss.length - 2 - t) []) = (dropD ws sc xss (t + 1)).all finF := by
  unfold dropOk
  rw [h0, dropD_fit (bands_sizes h) ht, dropD_fin h t hk, bandsF_fin h _ (by omega), Bool.and_self, Bool.and_self, Bool.true_and, dropD_succ]
theorem unOk_no {ws : List Nat} {sc : Nat} {xss : List (List Nat)} {t : Nat} (ht : t < xss.length - 1) (h : (dropD ws sc xss (t + 1)).all finF = false) : unOk ws sc xss = false := by
  have : ((List.range (xss.length - 1)).all fun t => (dropD ws sc xss (t + 1)).all finF) = false := by
    rw [List.all_eq_false]
    exact ⟨t, List.mem_range.2 ht, by rw [h]; decide⟩
  unfold unOk
  rw [this, Bool.and_false]
theorem unOk_yes {ws : List Nat} {sc : Nat} {xss : List (List Nat)} (h0 : schemeF ws sc = true) (h1 : bandsF xss = true) (h : ∀ k, k < xss.length - 1 → (dropD ws sc xss (k + 1)).all finF = true) : unOk ws sc xss = true := by
  unfold unOk
  rw [h0, h1, Bool.and_self, Bool.true_and, List.all_eq_true]
  exact fun k hk => h k (List.mem_range.1 hk)
theorem dropD_le {ws : List Nat} {sc : Nat} {xss : List (List Nat)} (h : bandsF xss = true) {t : Nat} (ht : t ≤ xss.length - 1) : (dropD ws sc xss t).length ≤ 128 := by
  have hs := bands_sizes h
  by_cases hz : xss.length = 1
  · have h0 : t = 0 := by omega
    subst h0
    unfold bandsF sizesF at h
    simp only [Bool.and_eq_true, Bool.or_eq_true, decide_eq_true_eq, List.length_map, sizes_len] at h
    have := h.1.1.2
    rw [dropD_zero, show xss.length - 1 = 0 by omega]
    omega
  · have h1 := (sizes_at hs).1
    rw [List.length_map] at h1
    have h2 := (sizes_at hs).2.2.2 0 (by rw [List.length_map]; omega)
    simp only [sizeAt, Bool.and_eq_true, decide_eq_true_eq] at h2
    have h3 := sufS_le (xss.map List.length) (i := 0) (j := xss.length - 1 - t) (by omega)
    rw [dropD_len hs t ht]
    omega
structure RS (H : Heap) (v : Value) (xss : List (List Nat)) : Prop where
  rd : SS H v xss
  le : totL xss ≤ 2 ^ 40
end Go.Proofs.Ytkojmlpaamdhoac
