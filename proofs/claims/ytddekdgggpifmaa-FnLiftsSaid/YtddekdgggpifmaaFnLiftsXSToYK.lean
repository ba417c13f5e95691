/- What the functions of the program do: contracts that are proved. -/
import Derived.Test.YtddekdgggpifmaaFnLiftsXBToXR
namespace Go.Proofs.Ytddekdgggpifmaa
open Go.Gx
set_option maxRecDepth 100000
set_option linter.unusedSimpArgs false
set_option linter.unusedVariables false

/-- The rest behind two blocks that were made in any order: shown once. -/
theorem bothAny {P : Program} {A : Nat → Value → Value → Heap → Prop} {f : FuncId} {args : Nat → Value → Value → List Value} {d : Option Nat} {rc : RC} {r : List AStep} {k : List AItem} {R : Post} {φ : Nat → Value → Value → Gx.Frame} {X : Prop}
    (main : (∀ (p : Nat) (y z : Value) (G : Heap), A p y z G → callR P f (args p y z) d rc r k R (φ p y z) G) → X) (kk : ∀ (p : Nat) (y z : Value) (G : Heap), A p y z G → callR P f (args p y z) d rc r k R (φ p y z) G) : X := main kk
def aloneK (n : Nat) (l : Int) : List Bool := (List.range n).map fun i : Nat => decide ((i : Int) = l)
theorem aloneK_length (n : Nat) (l : Int) : (aloneK n l).length = n := by simp [aloneK]
theorem aloneK_set {n l : Nat} : (List.replicate n (Value.bool false)).set l (.bool true) = (aloneK n l).map bv := by
  refine list_ext_getD undef (by simp [aloneK]) fun j hj => ?_
  have hj' : j < n := by simpa using hj
  by_cases h : l = j
  · subst h
    simp [List.getD_eq_getElem?_getD, hj', aloneK, bv]
  · simp [List.getD_eq_getElem?_getD, hj', aloneK, bv, List.getElem?_set, h, Ne.symm h]
    omega
theorem aloneK_none {n : Nat} : List.replicate n (Value.bool false) = (aloneK n n).map bv := by
  refine list_ext_getD undef (by simp [aloneK]) fun j hj => ?_
  have hj' : j < n := by simpa using hj
  simp [List.getD_eq_getElem?_getD, hj', aloneK, bv]
  omega
theorem keepL_fin {b : Bool} {xs : List Nat} (h : xs.all finF = true) : (keepL b xs).all finF = true := by
  unfold keepL
  split
  · exact h
  · rw [List.all_eq_true]
    intro x hx
    rw [(List.mem_replicate.1 hx).2]
    exact finF_zero
theorem keepL_w {b : Bool} {xs : List Nat} (h : W32 xs) : W32 (keepL b xs) := by
  unfold keepL
  split
  · exact h
  · intro j
    by_cases hj : j < xs.length
    · simp [List.getD_eq_getElem?_getD, hj]
    · simp [List.getD_eq_getElem?_getD, hj]
theorem keepS_getD {ks : List Bool} {yss : List (List Nat)} {n j : Nat} (h : j < n) : (keepS ks yss n).getD j [] = keepL (ks.getD j false) (yss.getD j []) := getD_range_map h
theorem keepS_w {ks : List Bool} {yss : List (List Nat)} {n : Nat} (h : W32S yss) : W32S (keepS ks yss n) := fun j => by
  by_cases hj : j < n
  · rw [keepS_getD hj]; exact keepL_w (h j)
  · have : (keepS ks yss n).getD j [] = [] := by simp [List.getD_eq_getElem?_getD, List.getElem?_eq_none (show (keepS ks yss n).length ≤ j by rw [keepS_length]; omega)]
    rw [this]; intro k; simp
theorem keep_valid {b : Bool} {ks : List Bool} {xs : List Nat} {yss : List (List Nat)} (h : validBandsF xs yss = true) : validBandsF (keepL b xs) (keepS ks yss yss.length) = true := by
  obtain ⟨h1, h2, h3, h4, h5, h6⟩ := vb_yes h
  have hl : ∀ j, ((keepS ks yss yss.length).getD j []).length = (yss.getD j []).length := fun j => by
    by_cases hj : j < yss.length
    · rw [keepS_getD hj, keepL_length]
    · rw [List.getD_eq_getElem?_getD, List.getD_eq_getElem?_getD, List.getElem?_eq_none (by rw [keepS_length]; omega), List.getElem?_eq_none (by omega)]
  have hd : ∀ j, detAt (keepS ks yss yss.length) j = detAt yss j := fun j => by unfold detAt; rw [hl, hl]
  unfold validBandsF
  rw [keepS_length, within_true.2 ⟨by omega, by omega⟩, hl, decide_eq_true h2, keepL_fin h3, hl, keepL_length, decide_eq_true h6]
  have e1 : ((keepS ks yss yss.length).all fun ys => ys.all finF) = true := (allD []).2 fun j hj => by
    rw [keepS_length] at hj
    rw [keepS_getD hj]
    exact keepL_fin (h4 j hj)
  have e2 : (List.range yss.length).all (detAt (keepS ks yss yss.length)) = true := allR.2 fun j hj => by rw [hd]; exact h5 j hj
  rw [e1, e2]
  rfl
def aloneOk (xs : List Nat) (yss : List (List Nat)) (ps : List Nat) (l : Int) : Bool := validBandsF xs yss && validPairF ps && within l 0 yss.length && allJ (keepL (decide (l = yss.length)) xs) (keepS (aloneK yss.length l) yss yss.length) ps
def aloneL (xs : List Nat) (yss : List (List Nat)) (ps : List Nat) (l : Int) : List Nat := nowJ (keepL (decide (l = yss.length)) xs) (keepS (aloneK yss.length l) yss yss.length) ps yss.length
end Go.Proofs.Ytddekdgggpifmaa

namespace Go.Proofs.Ytddekdgggpifmaa
open Go.Gx
set_option maxRecDepth 100000
set_option linter.unusedSimpArgs false
set_option linter.unusedVariables false

def apart (a b : Int) : Int := max (a - b) (b - a)
/-- The nearest number and if it lies near, among the first numbers of a list. -/
def nearI (l : List Int) (p n : Int) : Nat → Int × Bool
  | 0 => (0, false)
  | i + 1 => if apart (l.getD i 0) p ≤ n ∧ ((nearI l p n i).2 = false ∨ apart (l.getD i 0) p < apart (nearI l p n i).1 p) then (l.getD i 0, true) else nearI l p n i
def nixI (l : List Int) (p : Int) : Nat → Int
  | 0 => -1
  | i + 1 => if nixI l p i < 0 ∨ apart (l.getD i 0) p < apart (l.getD (nixI l p i).toNat 0) p then (i : Int) else nixI l p i
theorem nixI_b (l : List Int) (p : Int) : ∀ i, -1 ≤ nixI l p i ∧ nixI l p i < i
  | 0 => by simp [nixI]
  | i + 1 => by
    have := nixI_b l p i
    simp only [nixI]
    split <;> omega
def pckI (l : List Int) (p n b : Int) : Int × Bool := if 0 ≤ b ∧ apart (l.getD b.toNat 0) p ≤ n then (l.getD b.toNat 0, true) else (0, false)
theorem near_nix (l : List Int) (p n : Int) : ∀ i, nearI l p n i = pckI l p n (nixI l p i)
  | 0 => by simp [nixI, nearI, pckI]
  | i + 1 => by
    have ih := near_nix l p n i
    have hb := nixI_b l p i
    have hi : pckI l p n (i : Int) = if apart (l.getD i 0) p ≤ n then (l.getD i 0, true) else (0, false) := by simp [pckI]
    simp only [nearI]
    by_cases h0 : nixI l p i < 0
    · have e : nixI l p (i + 1) = i := if_pos (.inl h0)
      have e2 : nearI l p n i = (0, false) := by rw [ih, pckI, if_neg (by omega)]
      rw [e, e2, hi]
      simp
    · by_cases h1 : apart (l.getD (nixI l p i).toNat 0) p ≤ n
      · have e2 : nearI l p n i = (l.getD (nixI l p i).toNat 0, true) := by rw [ih, pckI, if_pos ⟨by omega, h1⟩]
        rw [e2]
        simp only [Bool.true_eq_false, false_or]
        by_cases h2 : apart (l.getD i 0) p < apart (l.getD (nixI l p i).toNat 0) p
        · have e : nixI l p (i + 1) = i := if_pos (.inr h2)
          rw [e, hi, if_pos ⟨by omega, h2⟩, if_pos (by omega)]
        · have e : nixI l p (i + 1) = nixI l p i := if_neg (by omega)
          rw [e, if_neg (fun h => h2 h.2), ← ih, e2]
      · have e2 : nearI l p n i = (0, false) := by rw [ih, pckI, if_neg (fun h => h1 h.2)]
        rw [e2]
        simp only [true_or, and_true]
        by_cases h2 : apart (l.getD i 0) p < apart (l.getD (nixI l p i).toNat 0) p
        · have e : nixI l p (i + 1) = i := if_pos (.inr h2)
          rw [e, hi]
        · have e : nixI l p (i + 1) = nixI l p i := if_neg (by omega)
          rw [e, if_neg (by omega), ← ih, e2]
theorem nearI_b {l : List Int} {p n : Int} (hb : ∀ j, 0 ≤ l.getD j 0 ∧ l.getD j 0 ≤ 2 ^ 40) : ∀ i, 0 ≤ (nearI l p n i).1 ∧ (nearI l p n i).1 ≤ 2 ^ 40
  | 0 => by simp [nearI]
  | i + 1 => by
    simp only [nearI]
    split
    · exact hb i
    · exact nearI_b hb i
def maxL (xs : List Nat) : List Int := maximaL xs xs.length
theorem maxL_b (xs : List Nat) (j : Nat) : 0 ≤ (maxL xs).getD j 0 ∧ (maxL xs).getD j 0 ≤ xs.length := by
  by_cases hj : j < (maxL xs).length
  · have hm : (maxL xs).getD j 0 ∈ maxL xs := by rw [List.getD_eq_getElem?_getD, List.getElem?_eq_getElem hj]; exact List.getElem_mem hj
    unfold maxL maximaL at hm
    obtain ⟨k, hk, he⟩ := List.mem_map.1 hm
    have := List.mem_range.1 (List.mem_filter.1 hk).1
    unfold maxL maximaL
    omega
  · rw [List.getD_eq_getElem?_getD, List.getElem?_eq_none (by omega)]
    simp
/-- Where a start has come after so many rows more, and if it goes on. -/
def linkS (xss : List (List Nat)) (near s : Int) : Nat → Int × Bool
  | 0 => (s, true)
  | t + 1 => if (linkS xss near s t).2 = true then nearI (maxL (xss.getD (t + 1) [])) (linkS xss near s t).1 near (maxL (xss.getD (t + 1) [])).length else linkS xss near s t
def lkOut (xss : List (List Nat)) (near : Int) (n i : Nat) : List Int := ((List.range i).filter fun j => (linkS xss near ((maxL (xss.getD 0 [])).getD j 0) n).2).map fun j => (maxL (xss.getD 0 [])).getD j 0
theorem lkOut_len (xss : List (List Nat)) (near : Int) (n i : Nat) : (lkOut xss near n i).length ≤ i := by
  unfold lkOut
  rw [List.length_map]
  exact Nat.le_trans (List.length_filter_le _ _) (by simp)
theorem filt_yes {f : Nat → Bool} {g : Nat → Int} {i : Nat} (h : f i = true) : (((List.range i).filter f).map g).map iv ++ [.int .i64 (g i)] = (((List.range (i + 1)).filter f).map g).map iv := by
  simp [List.range_succ, List.filter_append, h, iv]
theorem filt_no {f : Nat → Bool} {g : Nat → Int} {i : Nat} (h : f i = false) : ((List.range (i + 1)).filter f).map g = ((List.range i).filter f).map g := by
  simp [List.range_succ, List.filter_append, h]
theorem lkOut_yes {xss : List (List Nat)} {near : Int} {n i : Nat} (h : (linkS xss near ((maxL (xss.getD 0 [])).getD i 0) n).2 = true) : (lkOut xss near n i).map iv ++ [.int .i64 ((maxL (xss.getD 0 [])).getD i 0)] = (lkOut xss near n (i + 1)).map iv := filt_yes (f := fun j => (linkS xss near ((maxL (xss.getD 0 [])).getD j 0) n).2) (g := fun j => (maxL (xss.getD 0 [])).getD j 0) h
theorem lkOut_no {xss : List (List Nat)} {near : Int} {n i : Nat} (h : (linkS xss near ((maxL (xss.getD 0 [])).getD i 0) n).2 = false) : lkOut xss near n (i + 1) = lkOut xss near n i := filt_no (f := fun j => (linkS xss near ((maxL (xss.getD 0 [])).getD j 0) n).2) (g := fun j => (maxL (xss.getD 0 [])).getD j 0) h
theorem linkS_stop {xss : List (List Nat)} {near s : Int} {t : Nat} (h : (linkS xss near s t).2 = false) : ∀ k, (linkS xss near s (t + k)).2 = false
  | 0 => h
  | k + 1 => by
    have ih := linkS_stop h k
    show (linkS xss near s (t + k + 1)).2 = false
    simp only [linkS, ih]
    simp
    exact ih
theorem linkS_b {xss : List (List Nat)} {near s : Int} (hs : 0 ≤ s ∧ s ≤ 2 ^ 40) (hl : ∀ j, (xss.getD j []).length ≤ 2 ^ 40) : ∀ t, 0 ≤ (linkS xss near s t).1 ∧ (linkS xss near s t).1 ≤ 2 ^ 40
  | 0 => hs
  | t + 1 => by
    simp only [linkS]
    split
    · exact nearI_b (fun j => by have := maxL_b (xss.getD (t + 1) []) j; have := hl (t + 1); omega) _
    · exact linkS_b hs hl t
end Go.Proofs.Ytddekdgggpifmaa

namespace Go.Proofs.Ytddekdgggpifmaa
open Go.Gx
set_option maxRecDepth 100000
set_option linter.unusedSimpArgs false
set_option linter.unusedVariables false

/-- The rest behind two blocks that were made in any order, with a loop ahead: shown once. -/
theorem bothLoop {P : Program} {A : Nat → Value → Heap → Prop} {live : List Nat} {vs : Nat → Value → List Value} {a : ACode} {k : List AItem} {R : Post} {X : Prop}
    (main : (∀ (p : Nat) (y : Value) (G : Heap), A p y G → loopR P live (vs p y) a k R G) → X) (kk : ∀ (p : Nat) (y : Value) (G : Heap), A p y G → loopR P live (vs p y) a k R G) : X := main kk
def fineF (val : Nat → Nat) (a c l : Int) (xs : List Nat) (j : Nat) : Nat := if coarseF a c l j = true then xs.getD j 0 else val (xs.getD j 0)
def fineL (val : Nat → Nat) (a c l : Int) (xs : List Nat) : List Nat := (List.range xs.length).map (fineF val a c l xs)
def fineN (hit : Nat → Bool) (a c l : Int) (xs : List Nat) : Nat → Int
  | 0 => 0
  | i + 1 => if coarseF a c l i = true then fineN hit a c l xs i else fineN hit a c l xs i + if hit (xs.getD i 0) = true then 1 else 0
theorem fineN_b (hit : Nat → Bool) (a c l : Int) (xs : List Nat) : ∀ i, 0 ≤ fineN hit a c l xs i ∧ fineN hit a c l xs i ≤ i
  | 0 => by simp [fineN]
  | i + 1 => by
    have := fineN_b hit a c l xs i
    simp only [fineN]
    split
    · omega
    · split <;> omega
theorem updF_same {g : Nat → Nat} {xs : List Nat} {i : Nat} (h : g i = xs.getD i 0) : updF g xs (i + 1) = updF g xs i := by
  refine list_ext_getD 0 (by simp [updF]) fun j hj => ?_
  have hj' : j < xs.length := by simpa [updF] using hj
  rw [updF, updF, getD_range_map hj', getD_range_map hj']
  by_cases hji : j = i
  · subst hji
    rw [if_pos (by omega), if_neg (by omega), h]
  · by_cases h2 : j < i
    · rw [if_pos h2, if_pos (by omega)]
    · rw [if_neg h2, if_neg (by omega)]
def fineOk (val : Nat → Nat) (a c l : Int) (xs : List Nat) : Bool := validPicF a c xs && within l 1 4 && validPicF a c (fineL val a c l xs)
def PicNR (ty : TypeId) (H : Heap) (ok : Bool) (w h : Int) (xs : List Nat) (n : Int) (r : Value) (H' : Heap) : Prop :=
  Ext H H' ∧ ∃ v, r = .tuple #[.agg #[.int .i64 (selI ok w), .int .i64 (selI ok h), v], .int .i64 (selI ok n), .bool ok] ∧ OwL H.n H'.n H' ty v ((selL ok xs).map fv) ∧ (selL ok xs).length ≤ 2 ^ 40
theorem PicNR.no {ty : TypeId} {H H' : Heap} {ok : Bool} {w h : Int} {xs : List Nat} {n : Int} (hk : ok = false) (e : Ext H H') : PicNR ty H ok w h xs n (.tuple #[.agg #[.int .i64 0, .int .i64 0, .slice none 0 0], .int .i64 0, .bool false]) H' := by
  subst hk; exact ⟨e, _, rfl, .nil, by simp [selL]⟩
theorem PicNR.yes {ty : TypeId} {H H' : Heap} {ok : Bool} {w h : Int} {xs : List Nat} {n : Int} {v : Value} (hk : ok = true) (e : Ext H H') (o : OwL H.n H'.n H' ty v (xs.map fv)) (hl : xs.length ≤ 2 ^ 40) : PicNR ty H ok w h xs n (.tuple #[.agg #[.int .i64 w, .int .i64 h, v], .int .i64 n, .bool true]) H' := by
  subst hk; exact ⟨e, v, rfl, o, hl⟩
def quietH (lim x : Nat) : Bool := fcB .leq .f32 (sizeF x) lim
def quietV (lim x : Nat) : Nat := if quietH lim x = true then 0 else x
theorem quiet_fin {lim : Nat} {a c l : Int} {xs : List Nat} (h : xs.all finF = true) : (fineL (quietV lim) a c l xs).all finF = true := by
  rw [List.all_eq_true]
  intro x hx
  obtain ⟨j, hj, rfl⟩ := List.mem_map.1 hx
  have hj' := (List.all_eq_true.1 h) (xs.getD j 0) (by
    have := List.mem_range.1 hj
    rw [List.getD_eq_getElem?_getD, List.getElem?_eq_getElem this]; exact List.getElem_mem this)
  unfold fineF quietV
  split
  · exact hj'
  · split
    · exact finF_zero
    · exact hj'
theorem quiet_ok {lim : Nat} {a c l : Int} {xs : List Nat} : fineOk (quietV lim) a c l xs = (validPicF a c xs && within l 1 4) := by
  unfold fineOk
  cases h1 : validPicF a c xs
  · simp
  · have h2 : validPicF a c (fineL (quietV lim) a c l xs) = true := by
      obtain ⟨m, n, rfl, rfl, q1, q2, q3, q4, q5, q6⟩ := valid_sides h1
      exact valid_mk q1 q2 q3 q4 (by rw [fineL, List.length_map, List.length_range, q5]) (quiet_fin q6)
    rw [h2]
    simp
def quietOk (a c : Int) (xs : List Nat) (l : Int) (lim : Nat) : Bool := leastF lim && (validPicF a c xs && within l 1 4)
end Go.Proofs.Ytddekdgggpifmaa

namespace Go.Proofs.Ytddekdgggpifmaa
open Go.Gx
set_option maxRecDepth 100000
set_option linter.unusedSimpArgs false
set_option linter.unusedVariables false

theorem soft_all {y : Nat} {a c l : Int} {xs : List Nat} (hy : leastF y = true) (h : xs.all finF = true) : (fineL (softV y) a c l xs).all finF = true := by
  rw [List.all_eq_true]
  intro x hx
  obtain ⟨j, hj, rfl⟩ := List.mem_map.1 hx
  have hj' := (List.all_eq_true.1 h) (xs.getD j 0) (by
    have := List.mem_range.1 hj
    rw [List.getD_eq_getElem?_getD, List.getElem?_eq_getElem this]; exact List.getElem_mem this)
  unfold fineF
  split
  · exact hj'
  · exact soft_fin hj' hy
theorem soft_ok {y : Nat} {a c l : Int} {xs : List Nat} (hy : leastF y = true) : fineOk (softV y) a c l xs = (validPicF a c xs && within l 1 4) := by
  unfold fineOk
  cases h1 : validPicF a c xs
  · simp
  · have h2 : validPicF a c (fineL (softV y) a c l xs) = true := by
      obtain ⟨m, n, rfl, rfl, q1, q2, q3, q4, q5, q6⟩ := valid_sides h1
      exact valid_mk q1 q2 q3 q4 (by rw [fineL, List.length_map, List.length_range, q5]) (soft_all hy q6)
    rw [h2]
    simp
end Go.Proofs.Ytddekdgggpifmaa

namespace Go.Proofs.Ytddekdgggpifmaa
open Go.Gx
set_option maxRecDepth 100000
set_option linter.unusedSimpArgs false
set_option linter.unusedVariables false

def rootN (x : Nat) : Nat := (f2f .f64 (sqrtF (f64 x)) .f32).getD 0
theorem acv_root {x : Nat} : acv (.f .f32) (.float .f64 (sqrtF (f64 x))) = some (.float .f32 (rootN x)) := by
  obtain ⟨r, hr⟩ := sqrt_narrow x
  show (f2f .f64 _ .f32).map _ = _
  unfold rootN
  rw [hr]
  rfl
def difF (xs ys : List Nat) (i : Nat) : Nat := fbin .sub .f32 (xs.getD i 0) (ys.getD i 0)
def difS (xs ys : List Nat) : Nat → Nat := foldI (fun i s => fbin .add .f32 s (fbin .mul .f32 (difF xs ys i) (difF xs ys i))) 0
theorem difS_succ (xs ys : List Nat) (i : Nat) : difS xs ys (i + 1) = fbin .add .f32 (difS xs ys i) (fbin .mul .f32 (difF xs ys i) (difF xs ys i)) := rfl
theorem difS_all (xs ys : List Nat) (n : Nat) : squaresF (tabL n (difF xs ys)) = difS xs ys n := by
  unfold squaresF
  rw [tabL_length]
  have : ∀ k, k ≤ n → foldI (fun i s => fbin .add .f32 s (fbin .mul .f32 ((tabL n (difF xs ys)).getD i 0) ((tabL n (difF xs ys)).getD i 0))) 0 k = difS xs ys k := by
    intro k
    induction k with
    | zero => intro _; rfl
    | succ k ih =>
      intro hk
      rw [foldI_succ, ih (by omega), tabL_getD (by omega), difS_succ]
  exact this n (Nat.le_refl _)
def farF (xs ys : List Nat) : Nat := rootN (fbin .quo .f32 (difS xs ys xs.length) (i2f .f32 xs.length))
def farN (a c : Int) (xs : List Nat) (b d : Int) (ys : List Nat) : Nat := if alikeF a c xs b d ys = true then (if finF (farF xs ys) = true then farF xs ys else 0) else 0
def farB (a c : Int) (xs : List Nat) (b d : Int) (ys : List Nat) : Bool := alikeF a c xs b d ys && finF (farF xs ys)
end Go.Proofs.Ytddekdgggpifmaa

namespace Go.Proofs.Ytddekdgggpifmaa
open Go.Gx
set_option maxRecDepth 100000
set_option linter.unusedSimpArgs false
set_option linter.unusedVariables false

theorem finW_neq {k : FloatKind} {x : Nat} (h : FinW k x) : fcB .neq k x x = false := by
  obtain ⟨A, B, P, hP, h1, h2, h3⟩ := order_val h h
  have hAB : A = B := by
    rcases Int.lt_trichotomy A B with c | c | c
    · have := (mul_lt_iff hP).2 c
      rw [← h1, ← h2] at this
      exact absurd this Rat.lt_irrefl
    · exact c
    · have := (mul_lt_iff hP).2 c
      rw [← h1, ← h2] at this
      exact absurd this Rat.lt_irrefl
  unfold fcB fcmp
  simp only [h3, hAB, Int.compare_eq_eq.2 rfl]
  rfl
theorem fcB_eql {k : FloatKind} {x y : Nat} (hx : FinW k x) (hy : FinW k y) : fcB .eql k x y = decide (fval k x = fval k y) := by
  obtain ⟨A, B, P, hP, h1, h2, h3⟩ := order_val hx hy
  unfold fcB fcmp
  simp only [h3]
  rw [Bool.eq_iff_iff, decide_eq_true_eq, h1, h2]
  rcases Int.lt_trichotomy A B with c | c | c
  · have h5 := (mul_lt_iff hP).2 c
    have : compare A B = .lt := Int.compare_eq_lt.2 c
    simp only [this]
    constructor
    · intro h; simp at h
    · intro h; rw [h] at h5; exact absurd h5 Rat.lt_irrefl
  · subst c
    simp only [Int.compare_eq_eq.2 rfl]
    simp
  · have h5 := (mul_lt_iff hP).2 c
    have : compare A B = .gt := Int.compare_eq_gt.2 c
    simp only [this]
    constructor
    · intro h; simp at h
    · intro h; rw [h] at h5; exact absurd h5 Rat.lt_irrefl
theorem fval_least {x : Nat} (h : FinW .f32 x) (h0 : 0 < fval .f32 x) : p2 (-149) ≤ fval .f32 x := by
  obtain ⟨n, j, hn, _, hj⟩ := h.rep
  rw [hn] at h0 ⊢
  have hl : FloatKind.f32.format.leastPlace = -149 := by decide
  rw [hl] at hj
  have hp := p2_pos j
  have hn1 : 1 ≤ n := by
    rcases ilg 0 n with c | c
    · omega
    · exfalso
      have h1 := Rat.mul_le_mul_of_nonneg_right (Rat.intCast_le_intCast.2 c) (Rat.le_of_lt hp)
      have h2 : ((0 : Int) : Rat) * p2 j = 0 := Rat.zero_mul _
      rw [h2] at h1
      grind_linarith
  have h1 := Rat.mul_le_mul_of_nonneg_right (Rat.intCast_le_intCast.2 hn1) (Rat.le_of_lt hp)
  have h2 : ((1 : Int) : Rat) * p2 j = p2 j := Rat.one_mul _
  rw [h2] at h1
  exact Rat.le_trans (p2_le hj) h1
/-- The logarithm, narrow, of numbers that aren't negative. -/
def logR (x : Nat) : Nat := if fcB .eql .f32 x 0 = true then 4286578688 else (f2f .f64 (logW (f64 x)) .f32).getD 0
def logV (y : Nat) : Nat := if fcB .eql .f64 y 0 = true then 18442240474082181120 else logW y
theorem zero64_val : FinW .f64 0 ∧ fval .f64 0 = 0 := by
  have h : (0 : Nat) = i2f .f64 0 := by decide +kernel
  rw [h]; exact i2f_fval (by decide)
theorem eql_wide {x : Nat} (h : FinW .f32 x) : fcB .eql .f64 (f64 x) 0 = fcB .eql .f32 x 0 := by
  obtain ⟨a, b⟩ := f64_fin h
  rw [fcB_eql a zero64_val.1, fcB_eql h finW_zero.1, b, zero64_val.2, finW_zero.2]
theorem log_dom {x : Nat} (h : FinW .f32 x) (h0 : 0 ≤ fval .f32 x) (hz : fcB .eql .f32 x 0 = false) : FinW .f64 (f64 x) ∧ p2 (-149) ≤ fval .f64 (f64 x) ∧ fval .f64 (f64 x) ≤ p2 128 := by
  obtain ⟨a, b⟩ := f64_fin h
  rw [fcB_eql h finW_zero.1, finW_zero.2] at hz
  have hne := of_decide_eq_false hz
  have hb := h.bd
  have ht := top64
  unfold Bd at hb
  rw [b]
  refine ⟨a, fval_least h ?_, by grind_linarith⟩
  exact Rat.lt_of_le_of_ne h0 (Ne.symm hne)
theorem acv_log {x : Nat} (h : FinW .f32 x) (h0 : 0 ≤ fval .f32 x) (hz : fcB .eql .f32 x 0 = false) : acv (.f .f32) (.float .f64 (logW (f64 x))) = some (.float .f32 (logR x)) := by
  obtain ⟨a, b, c⟩ := log_dom h h0 hz
  obtain ⟨w, hw, _⟩ := Bn_narrow (logW_bn a b c) (by decide)
  show (f2f .f64 _ .f32).map _ = _
  unfold logR
  rw [hz, hw]
  rfl
theorem acv_ninf : acv (.f .f32) (.float .f64 18442240474082181120) = some (.float .f32 4286578688) := by
  have : f2f .f64 18442240474082181120 .f32 = some 4286578688 := by decide +kernel
  have h : acv (.f .f32) (.float .f64 18442240474082181120) = (f2f .f64 18442240474082181120 .f32).map (.float .f32) := rfl
  rw [h, this]
  rfl
theorem not_inf {y : Nat} (h : FinW .f64 y) : fcB .gtr .f64 y 9218868437227405311 = false := by
  have hd : FloatKind.f64.decode 9218868437227405311 = .number false 9007199254740991 971 := by decide +kernel
  have hv : fval .f64 9218868437227405311 = topK .f64 := by
    unfold fval
    rw [hd, dval_number, sg_false, Rat.one_mul]
    rfl
  rw [fcB_gtr h ⟨_, _, _, hd⟩, hv]
  have hb := h.bd
  unfold Bd at hb
  exact decide_eq_false (by intro hh; grind_linarith)
theorem from_ninf : aFrom64 (.int .u64 18442240474082181120) = some (.float .f64 18442240474082181120) := by
  have h : canon .f64 18442240474082181120 = 18442240474082181120 := by decide +kernel
  show some (Value.float .f64 (canon .f64 18442240474082181120)) = _
  rw [h]
theorem i2f_up {t : Nat} (ht : t ≤ 300) : fbin .add .f64 (i2f .f64 (t : Int)) 4607182418800017408 = i2f .f64 ((t + 1 : Nat) : Int) := by
  have h := add_one64 ⟨t + 400, by omega⟩
  simp only at h
  rw [show ((t + 400 : Nat) : Int) - 400 = t by omega, show ((t + 400 : Nat) : Int) - 399 = ((t + 1 : Nat) : Int) by omega] at h
  exact h
theorem i2f_dn {n : Int} (h1 : -300 ≤ n) (h2 : n ≤ 300) : fbin .sub .f64 (i2f .f64 n) 4607182418800017408 = i2f .f64 (n - 1) := by
  have h := sub_one64 ⟨(n + 400).toNat, by omega⟩
  simp only at h
  rw [show (((n + 400).toNat : Nat) : Int) - 400 = n by omega, show (((n + 400).toNat : Nat) : Int) - 401 = n - 1 by omega] at h
  exact h
theorem i2f_dn2 {n : Int} (h1 : -10 ≤ n) (h2 : n ≤ 30) : fbin .sub .f64 (i2f .f64 n) 4611686018427387904 = i2f .f64 (n - 2) := by
  have h := sub_two64 ⟨(n + 20).toNat, by omega⟩
  simp only at h
  rw [show (((n + 20).toNat : Nat) : Int) - 20 = n by omega, show (((n + 20).toNat : Nat) : Int) - 22 = n - 2 by omega] at h
  exact h
theorem i2f_geq {n : Int} (h1 : -10 ≤ n) (h2 : n ≤ 30) : fcB .geq .f64 (i2f .f64 n) 4607182418800017408 = decide (1 ≤ n) := by
  have h := geq_one64 ⟨(n + 20).toNat, by omega⟩
  simp only at h
  rw [show (((n + 20).toNat : Nat) : Int) - 20 = n by omega] at h
  exact h
theorem i2f_25 : i2f .f64 25 = 4627730092099895296 := by decide +kernel
end Go.Proofs.Ytddekdgggpifmaa

namespace Go.Proofs.Ytddekdgggpifmaa
open Go.Gx
set_option maxRecDepth 100000
set_option linter.unusedSimpArgs false
set_option linter.unusedVariables false

def avgF (p : List Nat) (ys : List (List Nat)) (i : Nat) : Nat := fbin .quo .f32 (p.getD i 0) (i2f .f32 ((ys.getD i []).length : Int))
def ruY (p : List Nat) (ys : List (List Nat)) (i : Nat) : Nat := fbin .quo .f32 (logR (avgF p ys i)) 1060205080
def ruA : Nat → Nat := foldI (fun i s => fbin .add .f32 s (i2f .f32 (i : Int))) 0
def ruB (p : List Nat) (ys : List (List Nat)) : Nat → Nat := foldI (fun i s => fbin .add .f32 s (ruY p ys i)) 0
def ruC : Nat → Nat := foldI (fun i s => fbin .add .f32 s (fbin .mul .f32 (i2f .f32 (i : Int)) (i2f .f32 (i : Int)))) 0
def ruD (p : List Nat) (ys : List (List Nat)) : Nat → Nat := foldI (fun i s => fbin .add .f32 s (fbin .mul .f32 (i2f .f32 (i : Int)) (ruY p ys i))) 0
def ruF (p : List Nat) (ys : List (List Nat)) (n : Nat) : Nat := fbin .quo .f32 (fbin .sub .f32 (fbin .mul .f32 (i2f .f32 (n : Int)) (ruD p ys n)) (fbin .mul .f32 (ruA n) (ruB p ys n))) (fbin .sub .f32 (fbin .mul .f32 (i2f .f32 (n : Int)) (ruC n)) (fbin .mul .f32 (ruA n) (ruA n)))
def ruOk (xs : List Nat) (ys : List (List Nat)) : Bool := validBandsF xs ys && (powersF xs ys).all finF && decide (2 ≤ ys.length) && (List.range ys.length).all fun i => fcB .gtr .f32 ((powersF xs ys).getD i 0) 0
def ruN (xs : List Nat) (ys : List (List Nat)) : Nat := if (ruOk xs ys && finF (ruF (powersF xs ys) ys ys.length)) = true then ruF (powersF xs ys) ys ys.length else 0
def ruV (xs : List Nat) (ys : List (List Nat)) : Bool := ruOk xs ys && finF (ruF (powersF xs ys) ys ys.length)
theorem avg_dom {p : List Nat} {ys : List (List Nat)} {i : Nat} (hf : finF (p.getD i 0) = true) (hp : fcB .gtr .f32 (p.getD i 0) 0 = true) (h1 : 1 ≤ (ys.getD i []).length) (h2 : (ys.getD i []).length ≤ 64) : FinW .f32 (avgF p ys i) ∧ 0 ≤ fval .f32 (avgF p ys i) := by
  have fx := finW_of hf
  rw [fcB_gtr fx finW_zero.1, finW_zero.2] at hp
  have hp := of_decide_eq_true hp
  have ht := top32
  have ht2 : (1 : Rat) ≤ p2 127 := by rw [← p2_zero]; exact p2_le (by decide)
  have h64 : p2 6 ≤ p2 127 := p2_le (by decide)
  have e64 : p2 6 = ((64 : Nat) : Rat) := p2_nat 6
  have hl1 : (1 : Rat) ≤ (((ys.getD i []).length : Int) : Rat) := by
    have : ((1 : Int) : Rat) ≤ (((ys.getD i []).length : Int) : Rat) := Rat.intCast_le_intCast.2 (by omega)
    exact this
  have hl2 : (((ys.getD i []).length : Int) : Rat) ≤ ((64 : Nat) : Rat) := by
    have : (((ys.getD i []).length : Int) : Rat) ≤ ((64 : Int) : Rat) := Rat.intCast_le_intCast.2 (by omega)
    exact this
  have g := i2f_val (k := .f32) (n := ((ys.getD i []).length : Int)) (by unfold Bd; constructor <;> grind_linarith)
  have hB : 2 * FloatKind.f32.format.binade = 16777216 := by decide
  have hv := g.exact (Rep.int (by decide) _ (by omega))
  unfold avgF
  rw [← hv] at hl1 hl2
  have gw := g.1
  generalize i2f .f32 ((ys.getD i []).length : Int) = l at *
  have hl0 : fval .f32 l ≠ 0 := by
    intro h
    rw [h] at hl1
    grind_linarith
  have hq : fval .f32 (p.getD i 0) / fval .f32 l * fval .f32 l = fval .f32 (p.getD i 0) := Rat.div_mul_cancel hl0
  have hlp : 0 < fval .f32 l := by grind_linarith
  generalize hqq : fval .f32 (p.getD i 0) / fval .f32 l = q at hq
  have q0 : 0 ≤ q := by
    refine Rat.le_of_mul_le_mul_right (c := fval .f32 l) ?_ hlp
    rw [hq]
    grind_linarith
  have q1 : q ≤ fval .f32 (p.getD i 0) := by
    have := Rat.mul_le_mul_of_nonneg_left hl1 q0
    grind_linarith
  have bx := fx.bd
  unfold Bd at bx
  have gg := fdiv_val fx gw hl0 hq (by unfold Bd; constructor <;> grind_linarith)
  exact ⟨gg.1, gg.ge (Rep.int (by decide) 0 (by decide)) q0⟩
theorem ru_no {xs : List Nat} {ys : List (List Nat)} (h : ruOk xs ys = false) : ruN xs ys = 0 ∧ ruV xs ys = false := by simp [ruN, ruV, h]
end Go.Proofs.Ytddekdgggpifmaa

namespace Go.Proofs.Ytddekdgggpifmaa
open Go.Gx
set_option maxRecDepth 100000
set_option linter.unusedSimpArgs false
set_option linter.unusedVariables false

theorem i2f_dn1 {n : Int} (h1 : -10 ≤ n) (h2 : n ≤ 30) : fbin .sub .f64 (i2f .f64 n) 4607182418800017408 = i2f .f64 (n - 1) := i2f_dn (by omega) (by omega)
theorem i2f_12 : i2f .f64 12 = 4622945017495814144 := by decide +kernel
theorem i2f_8 : i2f .f64 8 = 4620693217682128896 := by decide +kernel
theorem not_200 {y : Nat} (hy : FinW .f64 y) (h0 : fval .f64 y ≤ 0) : fcB .gtr .f64 y 4641240890982006784 = false := by
  have hm : FinW .f64 4641240890982006784 ∧ fval .f64 4641240890982006784 = ((200 : Int) : Rat) := by rw [c200]; exact i2f_fval (by decide)
  rw [fcB_gtr hy hm.1, hm.2]
  have e : ((200 : Int) : Rat) = 200 := rfl
  rw [e]
  exact decide_eq_false (by intro h; grind_linarith)
theorem acv_trunc {x : Nat} {n : Int} (h : f2i .f64 x .i64 = some n) : acv (.i .i64) (.float .f64 x) = some (.int .i64 n) := by
  show (f2i .f64 x .i64).map _ = _
  rw [h]
  rfl
theorem fin_sub {x : Nat} (h : FinW .f64 x) : fcB .eql .f64 (fbin .sub .f64 x x) 0 = true ∧ fcB .neq .f64 (fbin .sub .f64 x x) 0 = false := by
  have g := fsub_val h h (by
    have hp := top_nat (show 0 ≤ 1048576 by decide)
    have e : (((0 : Nat) : Int) : Rat) = 0 := rfl
    rw [e] at hp
    unfold Bd
    constructor <;> grind_linarith)
  have hv : fval .f64 (fbin .sub .f64 x x) = 0 := by
    have e : fval .f64 x - fval .f64 x = 0 := by grind_linarith
    rw [e] at g
    exact g.exact r0
  have h1 : fcB .eql .f64 (fbin .sub .f64 x x) 0 = true := by
    rw [fcB_eql g.1 zero64_val.1, hv, zero64_val.2]
    exact decide_eq_true rfl
  refine ⟨h1, ?_⟩
  have h2 : fcB .neq .f64 (fbin .sub .f64 x x) 0 = !fcB .eql .f64 (fbin .sub .f64 x x) 0 := rfl
  rw [h2, h1]
  rfl
def expR (x : Nat) : Nat := (f2f .f64 (expW (f64 x)) .f32).getD 0
theorem acv_exp {x : Nat} (hx : FinW .f32 x) (h0 : fval .f32 x ≤ 0) : acv (.f .f32) (.float .f64 (expW (f64 x))) = some (.float .f32 (expR x)) := by
  obtain ⟨a, b⟩ := f64_fin hx
  obtain ⟨c, d, e⟩ := expW_in a (by rw [b]; exact h0)
  have hp := p2_le (show (0 : Int) ≤ 127 by decide)
  have ht := top32
  rw [p2_zero] at hp
  obtain ⟨w, hw, _⟩ := f2f_fin c (by unfold Bd; constructor <;> grind_linarith)
  show (f2f .f64 _ .f32).map _ = _
  unfold expR
  rw [hw]
  rfl
end Go.Proofs.Ytddekdgggpifmaa

namespace Go.Proofs.Ytddekdgggpifmaa
open Go.Gx
set_option maxRecDepth 100000
set_option linter.unusedSimpArgs false
set_option linter.unusedVariables false

theorem bits64_num {x : Nat} (h : FinW .f64 x) : aBits64 (.float .f64 x) = some (.int .u64 (x : Int)) := by
  obtain ⟨s, m, e, hx⟩ := h
  have hn : nanB .f64 x = false := by
    unfold nanB
    rw [hx]; rfl
  unfold aBits64
  simp [hn]
theorem from64_num {x : Nat} (h : FinW .f64 x) (hl : x < 2 ^ 64) : aFrom64 (.int .u64 (x : Int)) = some (.float .f64 x) := by
  obtain ⟨s, m, e, hx⟩ := h
  have hn : nanB .f64 x = false := by
    unfold nanB
    rw [hx]; rfl
  unfold aFrom64
  simp only
  rw [if_pos ⟨by omega, by omega⟩, Int.toNat_natCast, canon_of_num hn]
theorem abin_andNot {a b : Int} : abin .andNot (.int .u64 a) (.int .u64 b) = some (.int .u64 (bits .andNot .u64 a b)) := by simp [abin, isShift, aint]
theorem acv_nar {y : Nat} (h : In y (-2) 2) : acv (.f .f32) (.float .f64 y) = some (.float .f32 (narF y)) := by
  show (f2f .f64 y .f32).map _ = _
  rw [(nar_in h).1]
  rfl
def phX (u : Nat) : Nat := if nQ (fracF u) = 1 then fbin .sub .f64 0 (phS u) else if nQ (fracF u) = 2 then fbin .sub .f64 0 (phC u) else if nQ (fracF u) = 3 then phS u else phC u
def phY (u : Nat) : Nat := if nQ (fracF u) = 1 then phC u else if nQ (fracF u) = 2 then fbin .sub .f64 0 (phS u) else if nQ (fracF u) = 3 then fbin .sub .f64 0 (phC u) else phS u
def phV (u : Nat) : Value := .complex .f32 (narF (phX u)) (narF (phY u))
theorem phX_in {u : Nat} (h : In (fracF u) 0 1) : In (phX u) (-2) 2 ∧ In (phY u) (-2) 2 := by
  obtain ⟨_, c, s⟩ := phC_in h
  have nc := neg_in c
  have ns := neg_in s
  unfold phX phY
  constructor
  · split
    · exact ns
    · split
      · exact nc
      · split
        · exact s
        · exact c
  · split
    · exact c
    · split
      · exact ns
      · split
        · exact nc
        · exact s
end Go.Proofs.Ytddekdgggpifmaa

namespace Go.Proofs.Ytddekdgggpifmaa
open Go.Gx
set_option maxRecDepth 100000
set_option linter.unusedSimpArgs false
set_option linter.unusedVariables false

def scaleF (x : Nat) : Bool := fcB .geq .f32 x 1056964608 && fcB .leq .f32 x 1098907648
theorem up_cut (neg : Bool) (n d : Nat) : Ieee.Toward.up.cut neg n d * 2 ^ d ≤ n + 2 ^ d := by
  have hcut : Ieee.Toward.up.cut neg n d ≤ n / 1 <<< min d (n.log2 + 2) + 1 := by
    unfold Ieee.Toward.cut
    simp only
    have := Bool.toNat_le (!neg && n % 1 <<< min d (n.log2 + 2) != 0)
    omega
  have hlog : n < 2 ^ (n.log2 + 1) := by
    by_cases h : n = 0
    · subst h; decide
    · exact (Nat.log2_lt h).1 (Nat.lt_succ_self _)
  by_cases hd : d ≤ n.log2 + 2
  · rw [Nat.min_eq_left hd, Nat.one_shiftLeft] at hcut
    have h1 := Nat.div_mul_le_self n (2 ^ d)
    have h2 := Nat.mul_le_mul_right (2 ^ d) hcut
    rw [Nat.add_mul, Nat.one_mul] at h2
    omega
  · rw [Nat.min_eq_right (by omega), Nat.one_shiftLeft] at hcut
    have h4 : 2 ^ (n.log2 + 1) ≤ 2 ^ (n.log2 + 2) := Nat.pow_le_pow_right (by omega) (by omega)
    rw [Nat.div_eq_of_lt (by omega)] at hcut
    have h2 := Nat.mul_le_mul_right (2 ^ d) hcut
    omega
theorem up_val (m : Nat) (e : Int) (neg : Bool) : ((Ieee.Toward.up.cut neg (m <<< e.toNat) (-e).toNat : Nat) : Rat) ≤ (m : Rat) * p2 e + 1 := by
  have h1 := up_cut neg (m <<< e.toNat) (-e).toNat
  generalize Ieee.Toward.up.cut neg (m <<< e.toNat) (-e).toNat = k at *
  have key : ((m <<< e.toNat : Nat) : Rat) = (m : Rat) * p2 e * ((2 ^ (-e).toNat : Nat) : Rat) := by
    rw [Nat.shiftLeft_eq, Rat.natCast_mul, ← p2_nat, ← p2_nat, Rat.mul_assoc, ← p2_add]
    congr 2
    omega
  have hD : (0 : Rat) < ((2 ^ (-e).toNat : Nat) : Rat) := Rat.natCast_pos.2 (Nat.two_pow_pos _)
  have c1 := natCast_le h1
  rw [Rat.natCast_mul, Rat.natCast_add, key] at c1
  refine Rat.le_of_mul_le_mul_right (c := ((2 ^ (-e).toNat : Nat) : Rat)) ?_ hD
  grind_linarith
/-- A whole number of steps that is not below. -/
theorem ceil_ok {x : Nat} (hx : FinW .f64 x) (h0 : 0 ≤ fval .f64 x) (h1 : fval .f64 x ≤ 64) : ∃ n : Int, f2i .f64 (intF 1 x) .i64 = some n ∧ 0 ≤ n ∧ n ≤ 66 := by
  obtain ⟨s, m, e, hd⟩ := hx
  have hv : fval .f64 x = sg s * ((m : Rat) * p2 e) := by unfold fval; rw [hd, dval_number]
  have hu := up_val m e s
  have a0 := val_nonneg m e
  have hi : intF 1 x = FloatKind.f64.format.write (.number s (Ieee.Toward.up.cut s (m <<< e.toNat) (-e).toNat) 0) := by
    unfold intF
    rw [hd]
    rfl
  rw [hi]
  rw [hv] at h0 h1
  have hneg : s = true → Ieee.Toward.up.cut s (m <<< e.toNat) (-e).toNat ≤ 66 → True := fun _ _ => trivial
  have hk : Ieee.Toward.up.cut s (m <<< e.toNat) (-e).toNat ≤ 65 := by
    have : ((Ieee.Toward.up.cut s (m <<< e.toNat) (-e).toNat : Nat) : Rat) ≤ ((65 : Nat) : Rat) := by
      have e1 : ((65 : Nat) : Rat) = 65 := rfl
      rw [e1]
      cases s
      · rw [sg_false] at h1; grind_linarith
      · rw [sg_true] at h0; grind_linarith
    exact of_natCast_le this
  have hz : s = true → Ieee.Toward.up.cut s (m <<< e.toNat) (-e).toNat = 0 := fun hs => by
    subst hs
    rw [sg_true] at h0
    have hm0 : (m : Rat) * p2 e = 0 := Rat.le_antisymm (by grind_linarith) a0
    have hm : m = 0 := by
      rcases Nat.eq_zero_or_pos m with h | h
      · exact h
      · have := Rat.mul_pos (Rat.natCast_pos.2 h) (p2_pos e)
        rw [hm0] at this
        exact absurd this Rat.lt_irrefl
    subst hm
    unfold Ieee.Toward.cut
    simp
  generalize Ieee.Toward.up.cut s (m <<< e.toNat) (-e).toNat = k at *
  have hkv : Ieee.Datum.number s k 0 = .number s k 0 := rfl
  have hval : dval (.number s k 0) = ((k : Int) : Rat) := by
    rw [dval_number, p2_zero, Rat.mul_one, Rat.intCast_natCast]
    cases s
    · rw [sg_false, Rat.one_mul]
    · rw [hz rfl]
      have e0 : ((0 : Nat) : Rat) = 0 := rfl
      rw [e0]
      grind_linarith
  have ht := top_nat (n := k) (by omega)
  have hk0 : 0 ≤ ((k : Int) : Rat) := Rat.intCast_nonneg.2 (by omega)
  have g := gives_write .f64 hval (by unfold Bd; constructor <;> grind_linarith)
  have hB : 2 * FloatKind.f64.format.binade = 9007199254740992 := by decide
  have hex := g.exact (Rep.int (by decide) (k : Int) (by omega))
  have hk65 : ((k : Int) : Rat) ≤ ((65 : Int) : Rat) := Rat.intCast_le_intCast.2 (by omega)
  have e65 : ((65 : Int) : Rat) = 65 := rfl
  rw [e65] at hk65
  obtain ⟨n, n1, n2, n3, n4, n5, n6⟩ := f2i_ok g.1 (by rw [hex]; grind_linarith) (by rw [hex]; grind_linarith)
  refine ⟨n, n1, n6 (by rw [hex]; exact hk0), ?_⟩
  rw [hex] at n4 n5
  rcases ilg 66 n with c | c
  · exfalso
    have h66 : ((66 : Int) : Rat) ≤ (n : Rat) := Rat.intCast_le_intCast.2 (by omega)
    have e66 : ((66 : Int) : Rat) = 66 := rfl
    rw [e66] at h66
    grind_linarith
  · exact c
end Go.Proofs.Ytddekdgggpifmaa

namespace Go.Proofs.Ytddekdgggpifmaa
open Go.Gx
set_option maxRecDepth 100000
set_option linter.unusedSimpArgs false
set_option linter.unusedVariables false

theorem c_half32 : FinW .f32 1056964608 ∧ fval .f32 1056964608 = 1 / 2 := by
  have h : FloatKind.f32.decode 1056964608 = .number false 8388608 (-24) := by decide +kernel
  refine ⟨⟨_, _, _, h⟩, ?_⟩
  unfold fval
  rw [h]
  show sg false * _ = _
  unfold p2
  decide +kernel
theorem c_16 : FinW .f32 1098907648 ∧ fval .f32 1098907648 = 16 := by
  have h : FloatKind.f32.decode 1098907648 = .number false 8388608 (-19) := by decide +kernel
  refine ⟨⟨_, _, _, h⟩, ?_⟩
  unfold fval
  rw [h]
  show sg false * _ = _
  unfold p2
  decide +kernel
theorem c_3 : FinW .f32 1077936128 ∧ fval .f32 1077936128 = 3 := by
  have h : FloatKind.f32.decode 1077936128 = .number false 12582912 (-22) := by decide +kernel
  refine ⟨⟨_, _, _, h⟩, ?_⟩
  unfold fval
  rw [h]
  show sg false * _ = _
  unfold p2
  decide +kernel
theorem c_mhalf : FinW .f32 3204448256 ∧ fval .f32 3204448256 = -(1 / 2) := by
  have h : FloatKind.f32.decode 3204448256 = .number true 8388608 (-24) := by decide +kernel
  refine ⟨⟨_, _, _, h⟩, ?_⟩
  unfold fval
  rw [h]
  show sg true * _ = _
  unfold p2
  decide +kernel
def In32 (r : Nat) (a b : Rat) : Prop := FinW .f32 r ∧ a ≤ fval .f32 r ∧ fval .f32 r ≤ b
theorem In32_of {v a b : Rat} {r : Nat} (ha : Rep FloatKind.f32.format a) (hb : Rep FloatKind.f32.format b) (h1 : a ≤ v) (h2 : v ≤ b) (h3 : -(65536 : Rat) ≤ a) (h4 : b ≤ 65536) (g : Bd v (topK .f32) → Gives .f32 v r) : In32 r a b := by
  have h5 := p2_le (show (16 : Int) ≤ 127 by decide)
  have e : p2 16 = ((65536 : Nat) : Rat) := p2_nat 16
  have e2 : ((65536 : Nat) : Rat) = 65536 := rfl
  have ht := top32
  rw [e, e2] at h5
  have g' := g (by unfold Bd; constructor <;> grind_linarith)
  exact ⟨g'.1, g'.ge ha h1, g'.le hb h2⟩
theorem repI (n : Int) (h : n.natAbs ≤ 65536) {c : Rat} (e : c = (n : Rat)) : Rep FloatKind.f32.format c := by
  have hB : 2 * FloatKind.f32.format.binade = 16777216 := by decide
  rw [e]
  exact Rep.int (by decide) n (by omega)
theorem scale_dom {x : Nat} (h : scaleF x = true) : In32 x (1 / 2) 16 := by
  unfold scaleF at h
  rw [Bool.and_eq_true] at h
  have hx : FinW .f32 x := by
    obtain ⟨s1, m1, e1, hd1⟩ := c_half32.1
    obtain ⟨s2, m2, e2, hd2⟩ := c_16.1
    have g1 : ((FloatKind.f32.decode x).order (.number s1 m1 e1) == some .gt || (FloatKind.f32.decode x).order (.number s1 m1 e1) == some .eq) = true := by
      have := h.1
      rw [← hd1]
      exact this
    have g2 : ((FloatKind.f32.decode x).order (.number s2 m2 e2) == some .lt || (FloatKind.f32.decode x).order (.number s2 m2 e2) == some .eq) = true := by
      have := h.2
      rw [← hd2]
      exact this
    cases hd : FloatKind.f32.decode x with
    | nan a b =>
      rw [hd] at g1
      simp [Ieee.Datum.order] at g1
    | infinity s =>
      rw [hd] at g1 g2
      cases s
      · simp [Ieee.Datum.order] at g2
      · simp [Ieee.Datum.order] at g1
    | number s m e => exact ⟨s, m, e, hd⟩
  have h1 := h.1
  have h2 := h.2
  rw [fcB_geq hx c_half32.1, c_half32.2] at h1
  rw [fcB_leq hx c_16.1, c_16.2] at h2
  exact ⟨hx, of_decide_eq_true h1, of_decide_eq_true h2⟩
def kR (x : Nat) : Int := (f2i .f64 (intF 1 (f64 (fbin .mul .f32 1077936128 x))) .i64).getD 0
def kU (x : Nat) (k : Nat) : Nat := fbin .quo .f32 (i2f .f32 ((k : Int) - kR x)) x
def kA (x : Nat) (k : Nat) : Nat := fbin .mul .f32 (fbin .mul .f32 3204448256 (kU x k)) (kU x k)
def kW (x : Nat) (k : Nat) : Nat := fbin .quo .f32 (expR (kA x k)) x
def kC (x : Nat) (k : Nat) : Nat × Nat := (fbin .mul .f32 (narF (phX (f64 (kU x k)))) (kW x k), fbin .mul .f32 (narF (phY (f64 (kU x k)))) (kW x k))
def cv (p : Nat × Nat) : Value := .complex .f32 p.1 p.2
def kL (x : Nat) (n : Nat) : List (Nat × Nat) := (List.range n).map (kC x)
theorem kR_ok {x : Nat} (h : In32 x (1 / 2) 16) : f2i .f64 (intF 1 (f64 (fbin .mul .f32 1077936128 x))) .i64 = some (kR x) ∧ 0 ≤ kR x ∧ kR x ≤ 66 := by
  obtain ⟨a, b, c⟩ := h
  obtain ⟨f, g1, g2⟩ := In32_of (repI 0 (by decide) rfl) (repI 48 (by decide) rfl) (by show (0 : Rat) ≤ _; rw [c_3.2]; grind_linarith) (by show _ ≤ (48 : Rat); rw [c_3.2]; grind_linarith) (by decide) (by decide) (fmul_val c_3.1 a)
  obtain ⟨w, wv⟩ := f64_fin f
  have e0 : ((0 : Int) : Rat) = 0 := rfl
  have e48 : ((48 : Int) : Rat) = 48 := rfl
  rw [e0] at g1
  rw [e48] at g2
  obtain ⟨n, n1, n2, n3⟩ := ceil_ok w (by rw [wv]; exact g1) (by rw [wv]; grind_linarith)
  have hn : kR x = n := by unfold kR; rw [n1]; rfl
  rw [hn]
  exact ⟨n1, n2, n3⟩
theorem kU_in {x : Nat} (h : In32 x (1 / 2) 16) {k : Nat} (hk : (k : Int) ≤ 2 * kR x) : In32 (kU x k) (-132) 132 := by
  obtain ⟨a, b, c⟩ := h
  obtain ⟨_, r0', r1'⟩ := kR_ok ⟨a, b, c⟩
  have hz : ((k : Int) - kR x).natAbs ≤ 66 := by omega
  unfold kU
  generalize (k : Int) - kR x = z at *
  have hz1 : ((-66 : Int) : Rat) ≤ (z : Rat) := Rat.intCast_le_intCast.2 (by omega)
  have hz2 : (z : Rat) ≤ ((66 : Int) : Rat) := Rat.intCast_le_intCast.2 (by omega)
  have em : ((-66 : Int) : Rat) = -66 := rfl
  have ep : ((66 : Int) : Rat) = 66 := rfl
  rw [em] at hz1
  rw [ep] at hz2
  have ht := top32
  have h7 := p2_le (show (7 : Int) ≤ 127 by decide)
  have e7 : p2 7 = ((128 : Nat) : Rat) := p2_nat 7
  have e7' : ((128 : Nat) : Rat) = 128 := rfl
  rw [e7, e7'] at h7
  have g := i2f_val (k := .f32) (n := z) (by unfold Bd; constructor <;> grind_linarith)
  have hv := g.exact (repI z (by omega) rfl)
  have hx0 : fval .f32 x ≠ 0 := by intro hh; rw [hh] at b; grind_linarith
  have hq := Rat.div_mul_cancel (a := fval .f32 (i2f .f32 z)) hx0
  have gq := fun hb => fdiv_val (q := fval .f32 (i2f .f32 z) / fval .f32 x) g.1 a hx0 hq hb
  generalize fval .f32 (i2f .f32 z) / fval .f32 x = q at hq gq
  rw [hv] at hq
  have hxp : 0 < fval .f32 x := by grind_linarith
  have q1 : -132 ≤ q := by
    refine Rat.le_of_mul_le_mul_right (c := fval .f32 x) ?_ hxp
    rw [hq]; grind_linarith
  have q2 : q ≤ 132 := by
    refine Rat.le_of_mul_le_mul_right (c := fval .f32 x) ?_ hxp
    rw [hq]; grind_linarith
  exact In32_of (repI (-132) (by decide) rfl) (repI 132 (by decide) rfl) q1 q2 (by decide) (by decide) gq
theorem kA_in {x : Nat} (h : In32 x (1 / 2) 16) {k : Nat} (hk : (k : Int) ≤ 2 * kR x) : FinW .f32 (kA x k) ∧ fval .f32 (kA x k) ≤ 0 := by
  obtain ⟨a, b, c⟩ := kU_in h hk
  unfold kA
  generalize kU x k = u at *
  rcases (Rat.le_total : fval .f32 u ≤ 0 ∨ 0 ≤ fval .f32 u) with hs | hs
  · obtain ⟨m1, m2, m3⟩ := In32_of (r := fbin .mul .f32 3204448256 u) (repI 0 (by decide) rfl) (repI 66 (by decide) rfl) (by show (0 : Rat) ≤ _; rw [c_mhalf.2]; grind_linarith) (by show _ ≤ (66 : Rat); rw [c_mhalf.2]; grind_linarith) (by decide) (by decide) (fmul_val c_mhalf.1 a)
    have e0 : ((0 : Int) : Rat) = 0 := rfl
    have e66 : ((66 : Int) : Rat) = 66 := rfl
    rw [e0] at m2
    rw [e66] at m3
    obtain ⟨p1, p2'⟩ := mul_in m2 m3 (show (0 : Rat) ≤ -fval .f32 u by grind_linarith) (show -fval .f32 u ≤ 132 by grind_linarith)
    obtain ⟨x1, x2, x3⟩ := In32_of (r := fbin .mul .f32 (fbin .mul .f32 3204448256 u) u) (repI (-8712) (by decide) rfl) (repI 0 (by decide) rfl) (by show (-8712 : Rat) ≤ _; grind_linarith) (by show _ ≤ (0 : Rat); grind_linarith) (by decide) (by decide) (fmul_val m1 a)
    exact ⟨x1, x3⟩
  · obtain ⟨m1, m2, m3⟩ := In32_of (r := fbin .mul .f32 3204448256 u) (repI (-66) (by decide) rfl) (repI 0 (by decide) rfl) (by show (-66 : Rat) ≤ _; rw [c_mhalf.2]; grind_linarith) (by show _ ≤ (0 : Rat); rw [c_mhalf.2]; grind_linarith) (by decide) (by decide) (fmul_val c_mhalf.1 a)
    have e0 : ((0 : Int) : Rat) = 0 := rfl
    have e66 : ((-66 : Int) : Rat) = -66 := rfl
    rw [e66] at m2
    rw [e0] at m3
    obtain ⟨p1, p2'⟩ := mul_in (show (0 : Rat) ≤ -fval .f32 (fbin .mul .f32 3204448256 u) by grind_linarith) (show -fval .f32 (fbin .mul .f32 3204448256 u) ≤ 66 by grind_linarith) hs c
    obtain ⟨x1, x2, x3⟩ := In32_of (r := fbin .mul .f32 (fbin .mul .f32 3204448256 u) u) (repI (-8712) (by decide) rfl) (repI 0 (by decide) rfl) (by show (-8712 : Rat) ≤ _; grind_linarith) (by show _ ≤ (0 : Rat); grind_linarith) (by decide) (by decide) (fmul_val m1 a)
    exact ⟨x1, x3⟩
theorem expR_in {x : Nat} (hx : FinW .f32 x) (h0 : fval .f32 x ≤ 0) : In32 (expR x) 0 1 := by
  obtain ⟨a, b⟩ := f64_fin hx
  obtain ⟨c, d, e⟩ := expW_in a (by rw [b]; exact h0)
  have hp := p2_le (show (0 : Int) ≤ 127 by decide)
  have ht := top32
  rw [p2_zero] at hp
  obtain ⟨w, hw, g⟩ := f2f_fin c (by unfold Bd; constructor <;> grind_linarith)
  have he : expR x = w := by unfold expR; rw [hw]; rfl
  rw [he]
  exact ⟨g.1, g.ge (repI 0 (by decide) rfl) d, g.le (repI 1 (by decide) rfl) e⟩
theorem kW_in {x : Nat} (h : In32 x (1 / 2) 16) {k : Nat} (hk : (k : Int) ≤ 2 * kR x) : In32 (kW x k) 0 2 := by
  obtain ⟨f, f0⟩ := kA_in h hk
  obtain ⟨e1, e2, e3⟩ := expR_in f f0
  obtain ⟨a, b, c⟩ := h
  unfold kW
  generalize expR (kA x k) = e at *
  have hx0 : fval .f32 x ≠ 0 := by intro hh; rw [hh] at b; grind_linarith
  have hq := Rat.div_mul_cancel (a := fval .f32 e) hx0
  have gq := fun hb => fdiv_val (q := fval .f32 e / fval .f32 x) e1 a hx0 hq hb
  generalize fval .f32 e / fval .f32 x = q at hq gq
  have hxp : 0 < fval .f32 x := by grind_linarith
  have q1 : 0 ≤ q := by
    refine Rat.le_of_mul_le_mul_right (c := fval .f32 x) ?_ hxp
    rw [hq]; grind_linarith
  have q2 : q ≤ 2 := by
    refine Rat.le_of_mul_le_mul_right (c := fval .f32 x) ?_ hxp
    rw [hq]; grind_linarith
  exact In32_of (repI 0 (by decide) rfl) (repI 2 (by decide) rfl) q1 q2 (by decide) (by decide) gq
theorem kC_fin {x : Nat} (h : In32 x (1 / 2) 16) {k : Nat} (hk : (k : Int) ≤ 2 * kR x) : finF (kC x k).1 = true ∧ finF (kC x k).2 = true := by
  obtain ⟨u1, u2, u3⟩ := kU_in h hk
  obtain ⟨w1, w2, w3⟩ := kW_in h hk
  obtain ⟨v1, v2⟩ := f64_fin u1
  obtain ⟨_, _, _, hf⟩ := frac_in v1 (by rw [v2]; grind_linarith) (by rw [v2]; grind_linarith)
  obtain ⟨x1, x2⟩ := phX_in hf
  obtain ⟨_, n1, n2⟩ := nar_in x1
  obtain ⟨_, n3, n4⟩ := nar_in x2
  have hw : Bd (fval .f32 (kW x k)) 2 := by unfold Bd; constructor <;> grind_linarith
  clear hf x1 x2
  have m1 := bd_mul n2 hw
  have m2 := bd_mul n4 hw
  unfold Bd at m1 m2
  simp only [kC]
  clear u1 u2 u3 v1 v2 w2 w3 hw h hk
  generalize narF (phX (f64 (kU x k))) = a at *
  generalize narF (phY (f64 (kU x k))) = b at *
  generalize kW x k = w at *
  have f1 := In32_of (repI (-4) (by decide) rfl) (repI 4 (by decide) rfl) (show ((-4 : Int) : Rat) ≤ fval .f32 a * fval .f32 w from by show (-4 : Rat) ≤ _; grind_linarith) (show fval .f32 a * fval .f32 w ≤ ((4 : Int) : Rat) from by show _ ≤ (4 : Rat); grind_linarith) (by decide) (by decide) (fmul_val n1 w1)
  have f2 := In32_of (repI (-4) (by decide) rfl) (repI 4 (by decide) rfl) (show ((-4 : Int) : Rat) ≤ fval .f32 b * fval .f32 w from by show (-4 : Rat) ≤ _; grind_linarith) (show fval .f32 b * fval .f32 w ≤ ((4 : Int) : Rat) from by show _ ≤ (4 : Rat); grind_linarith) (by decide) (by decide) (fmul_val n3 w1)
  exact ⟨f1.1.fin, f2.1.fin⟩
theorem kC_1 (x k : Nat) : fbin .mul .f32 (narF (phX (f64 (kU x k)))) (kW x k) = (kC x k).1 := by simp only [kC]
theorem kC_2 (x k : Nat) : fbin .mul .f32 (narF (phY (f64 (kU x k)))) (kW x k) = (kC x k).2 := by simp only [kC]
theorem kL_succ (x n : Nat) : (kL x n).map cv ++ [.complex .f32 (kC x n).1 (kC x n).2] = (kL x (n + 1)).map cv := by simp [kL, List.range_succ, cv]
end Go.Proofs.Ytddekdgggpifmaa

namespace Go.Proofs.Ytddekdgggpifmaa
open Go.Gx
set_option maxRecDepth 100000
set_option linter.unusedSimpArgs false
set_option linter.unusedVariables false

def finC (p : Nat × Nat) : Bool := finF p.1 && finF p.2
theorem cv_ld {H : Heap} {v : Value} {xs : List (Nat × Nat)} (h : Sl H v (xs.map cv)) (j : Nat) (h1 : j < xs.length) : aLd (elp v j) H = some (.complex .f32 (xs.getD j (0, 0)).1 (xs.getD j (0, 0)).2) := by
  rw [Sl.ld h j (by simpa using h1)]
  simp [List.getD_eq_getElem?_getD, h1, cv]
theorem cv_ia {H : Heap} {v : Value} {xs : List (Nat × Nat)} (h : Sl H v (xs.map cv)) (k : IntKind) (j : Int) (h0 : 0 ≤ j) (h1 : j < xs.length) : aIa v (.int k j) H = some (elp v j.toNat) := Sl.ia h k j h0 (by simpa using h1)
theorem cv_len {H : Heap} {v : Value} {xs : List (Nat × Nat)} (h : Sl H v (xs.map cv)) : aLen v = some (.int .i64 xs.length) := by simpa using Sl.len h
theorem kL_len (x n : Nat) : (kL x n).length = n := by simp [kL]
end Go.Proofs.Ytddekdgggpifmaa

namespace Go.Proofs.Ytddekdgggpifmaa
open Go.Gx
set_option maxRecDepth 100000
set_option linter.unusedSimpArgs false
set_option linter.unusedVariables false

def nkF (n : Int) : Nat := (f2f .f64 (i2f .f64 n) .f32).getD 0
def markC (k : Int) (j : Nat) : Value := .complex .f32 (nkF (k + (j : Int))) 1065353216
theorem nk_ok {n : Int} (h0 : 0 ≤ n) (h1 : n ≤ 2 ^ 62) : f2f .f64 (i2f .f64 n) .f32 = some (nkF n) ∧ FinW .f32 (nkF n) := by
  have e62 : p2 62 = ((4611686018427387904 : Nat) : Rat) := p2_nat 62
  have a1 : ((0 : Int) : Rat) ≤ (n : Rat) := Rat.intCast_le_intCast.2 h0
  have a2 : (n : Rat) ≤ ((4611686018427387904 : Int) : Rat) := Rat.intCast_le_intCast.2 (by omega)
  have e0 : ((0 : Int) : Rat) = 0 := rfl
  have e4 : ((4611686018427387904 : Int) : Rat) = ((4611686018427387904 : Nat) : Rat) := rfl
  rw [e0] at a1
  rw [e4, ← e62] at a2
  have t64 := top_ge (show (62 : Int) ≤ 1023 by decide)
  have t127 := p2_le (show (62 : Int) ≤ 127 by decide)
  have t32 := top32
  have hp := p2_pos 62
  have g := i2f_val (k := .f64) (n := n) (by unfold Bd; constructor <;> grind_linarith)
  have hb := g.bd (Rep.p2 (by decide)) (show Bd (n : Rat) (p2 62) by unfold Bd; constructor <;> grind_linarith)
  unfold Bd at hb
  obtain ⟨w, hw, gw⟩ := f2f_fin g.1 (by unfold Bd; constructor <;> grind_linarith)
  have hz : nkF n = w := by unfold nkF; rw [hw]; rfl
  rw [hz]
  exact ⟨hw, gw.1⟩
theorem one_nar : f2f .f64 4607182418800017408 .f32 = some 1065353216 := by decide +kernel
theorem one_fin32 : FinW .f32 1065353216 := by
  have h : FloatKind.f32.decode 1065353216 = .number false 8388608 (-23) := by decide +kernel
  exact ⟨_, _, _, h⟩
theorem acv_markC {n : Int} (h0 : 0 ≤ n) (h1 : n ≤ 2 ^ 62) : acv (.c .f32) (.complex .f64 (i2f .f64 n) 4607182418800017408) = some (.complex .f32 (nkF n) 1065353216) := by
  unfold acv
  simp only [(nk_ok h0 h1).1, one_nar]
theorem acv_wideC {a b : Nat} : acv (.c .f64) (.complex .f32 a b) = some (.complex .f64 (f64 a) (f64 b)) := by
  unfold acv
  simp only [f2f_wide]
theorem feq_self {w : Nat} (h : FinW .f32 w) : feq .f32 w w = true := by
  have := finW_neq h
  have e : fcB .neq .f32 w w = !feq .f32 w w := rfl
  rw [e] at this
  simpa using this
end Go.Proofs.Ytddekdgggpifmaa

namespace Go.Proofs.Ytddekdgggpifmaa
open Go.Gx
set_option maxRecDepth 100000
set_option linter.unusedSimpArgs false
set_option linter.unusedVariables false

def ripStep (ks : List (Nat × Nat)) (xs : List Nat) (i : Nat) (R : Int) (k : Nat) (s : Nat × Nat) : Nat × Nat :=
  if 0 ≤ (i : Int) + k - R ∧ (i : Int) + k - R < xs.length then (fbin .add .f32 s.1 (fbin .mul .f32 (ks.getD k (0, 0)).1 (xs.getD ((i : Int) + k - R).toNat 0)), fbin .add .f32 s.2 (fbin .mul .f32 (fneg .f32 (ks.getD k (0, 0)).2) (xs.getD ((i : Int) + k - R).toNat 0))) else s
def ripS (ks : List (Nat × Nat)) (xs : List Nat) (i : Nat) (R : Int) : Nat → Nat × Nat := foldI (ripStep ks xs i R) (0, 0)
theorem ripS_succ (ks : List (Nat × Nat)) (xs : List Nat) (i : Nat) (R : Int) (k : Nat) : ripS ks xs i R (k + 1) = ripStep ks xs i R k (ripS ks xs i R k) := rfl
def ripL (ks : List (Nat × Nat)) (xs : List Nat) (R : Int) (n : Nat) : List (Nat × Nat) := (List.range n).map fun i => ripS ks xs i R ks.length
theorem ripL_succ (ks : List (Nat × Nat)) (xs : List Nat) (R : Int) (n : Nat) : (ripL ks xs R n).map cv ++ [.complex .f32 (ripS ks xs n R ks.length).1 (ripS ks xs n R ks.length).2] = (ripL ks xs R (n + 1)).map cv := by simp [ripL, List.range_succ, cv]
end Go.Proofs.Ytddekdgggpifmaa

namespace Go.Proofs.Ytddekdgggpifmaa
open Go.Gx
set_option maxRecDepth 100000
set_option linter.unusedSimpArgs false
set_option linter.unusedVariables false

theorem wr_u64 (z : Int) : 0 ≤ IntKind.wrap .u64 z ∧ IntKind.wrap .u64 z < 2 ^ 64 := by
  unfold IntKind.wrap
  simp [IntKind.bits, IntKind.signed]
  omega
theorem and_255 (z : Int) : 0 ≤ bits .and .u64 z 255 ∧ bits .and .u64 z 255 ≤ 255 := by
  unfold bits
  simp only
  have e1 : (BitVec.ofInt (IntKind.bits .u64) z &&& BitVec.ofInt (IntKind.bits .u64) 255).toNat ≤ 255 := by
    show (BitVec.ofInt 64 z &&& BitVec.ofInt 64 255).toNat ≤ 255
    rw [BitVec.toNat_and]
    exact Nat.and_le_right
  generalize (BitVec.ofInt (IntKind.bits .u64) z &&& BitVec.ofInt (IntKind.bits .u64) 255).toNat = n at *
  unfold IntKind.wrap
  simp [IntKind.bits, IntKind.signed]
  omega
theorem wr_small {y : Int} (h0 : 0 ≤ y) (h1 : y ≤ 255) : IntKind.wrap .i64 y = y := by
  obtain ⟨n, rfl⟩ : ∃ n : Nat, y = n := ⟨y.toNat, by omega⟩
  exact wrN _ (by omega)
theorem w_r8Long_ok {H : Heap} {v u : Value} {bs cs : List Nat} (hv : YA H v bs) (hu : YA H u cs) : ACalls Try.prog n_w_r8Long [v, u] H fun r H' => r = .bool (decide (48 < bs.length) || decide (48 < cs.length)) ∧ H' = H := by
  refine k_w_r8Long.run rfl ?_
  unfold c_w_r8Long
  by_cases c1 : (48 : Int) < bs.length
  · simp (disch := first | assumption | omega | rfl | (refine id ?_; simp only [gxD, ne_eq, reduceCtorEq, not_false_eq_true, Nat.reduceAdd, *]; done) | (refine id ?_; simp only [gxD]; omega)) only [↓gxPre, gxPost, ↓reduceIte, Nat.reduceEqDiff, reduceCtorEq, Nat.reduceAdd, hv.len, c1]
    try simp
    try omega
  · simp (disch := first | assumption | omega | rfl | (refine id ?_; simp only [gxD, ne_eq, reduceCtorEq, not_false_eq_true, Nat.reduceAdd, *]; done) | (refine id ?_; simp only [gxD]; omega)) only [↓gxPre, gxPost, ↓reduceIte, Nat.reduceEqDiff, reduceCtorEq, Nat.reduceAdd, hv.len, hu.len, c1]
    try simp
    try omega
theorem w_r8At_ok {H : Heap} {v : Value} {bs : List Nat} {k n : Int} (hv : YB H v bs) (hk : 0 ≤ k) (hn : 2 ≤ n) (hn' : n ≤ 1000) : ∃ x : Int, 0 ≤ x ∧ x < n ∧ ACalls Try.prog n_w_r8At [v, .int .i64 k, .int .i64 n] H fun r H' => r = .int .i64 x ∧ H' = H := by
  have c1 : ¬ n ≤ 1 := by omega
  have hn0 : n ≠ 0 := by omega
  by_cases c2 : (bs.length : Int) ≤ k
  · refine ⟨0, by omega, by omega, ?_⟩
    refine k_w_r8At.run rfl ?_
    unfold c_w_r8At
    simp (disch := first | assumption | omega | rfl | (refine id ?_; simp only [gxD, ne_eq, reduceCtorEq, not_false_eq_true, Nat.reduceAdd, *]; done) | (refine id ?_; simp only [gxD]; omega)) only [↓gxPre, gxPost, ↓reduceIte, Nat.reduceEqDiff, reduceCtorEq, Nat.reduceAdd, hv.len, c1, c2]
  · have hw := hv.w k.toNat
    refine ⟨((bs.getD k.toNat 0 : Nat) : Int).tmod n, Int.tmod_nonneg _ (by omega), Int.tmod_lt_of_pos _ (by omega), ?_⟩
    refine k_w_r8At.run rfl ?_
    unfold c_w_r8At
    have hr : IntKind.wrap .i64 ((bs.getD k.toNat 0 : Nat) : Int) = ((bs.getD k.toNat 0 : Nat) : Int) := wrN _ (by omega)
    simp (disch := first | assumption | omega | rfl | (refine id ?_; simp only [gxD, ne_eq, reduceCtorEq, not_false_eq_true, Nat.reduceAdd, *]; done) | (refine id ?_; simp only [gxD]; omega)) only [↓gxPre, gxPost, ↓reduceIte, Nat.reduceEqDiff, reduceCtorEq, Nat.reduceAdd, hv.len, hv.ia, hv.ld, c1, c2, hr, hn0]
theorem s_l00Src_next_ok {H : Heap} {p : Nat} {ty : TypeId} {v : Value} {bs : List Nat} {at0 seed : Int} (hb : H.blk p = some ⟨true, ty, [v, .int .i64 at0, .int .u64 seed]⟩) (hp : p < H.n) (hv : YB H v bs) (h0 : 0 ≤ at0) (h1 : at0 ≤ 2 ^ 41) (s0 : 0 ≤ seed) (s1 : seed < 2 ^ 64) :
    ACalls Try.prog n_s_l00Src_next [.pointer (some ⟨p, 0, some 3⟩)] H fun r H' => ∃ x seed' : Int, r = .int .i64 x ∧ 0 ≤ x ∧ x ≤ 255 ∧ 0 ≤ seed' ∧ seed' < 2 ^ 64 ∧ H' = H.put p ⟨true, ty, [v, .int .i64 (at0 + 1), .int .u64 seed']⟩ := by
  refine k_s_l00Src_next.run rfl ?_
  unfold c_s_l00Src_next
  have o := Sl.one hv.rd
  by_cases c1 : at0 < bs.length
  · have hw := hv.w at0.toNat
    have hr : IntKind.wrap .i64 ((bs.getD at0.toNat 0 : Nat) : Int) = ((bs.getD at0.toNat 0 : Nat) : Int) := wrN _ (by omega)
    have c2 : at0 + 1 ≤ bs.length := by omega
    simp (disch := first | assumption | omega | rfl | (refine id ?_; simp only [gxD, ne_eq, reduceCtorEq, not_false_eq_true, Nat.reduceAdd, *]; done) | (refine id ?_; simp only [gxD]; omega)) only [↓gxPre, gxPost, ↓reduceIte, Nat.reduceEqDiff, reduceCtorEq, Nat.reduceAdd, hb, hv.len, c1, hv.ia, hv.ld, hr, c2]
    exact ⟨_, _, rfl, by omega, by omega, (wr_u64 _).1, (wr_u64 _).2, rfl⟩
  · have c2 : ¬ at0 + 1 ≤ bs.length := by omega
    simp (disch := first | assumption | omega | rfl | (refine id ?_; simp only [gxD, ne_eq, reduceCtorEq, not_false_eq_true, Nat.reduceAdd, *]; done) | (refine id ?_; simp only [gxD]; omega)) only [↓gxPre, gxPost, ↓reduceIte, Nat.reduceEqDiff, reduceCtorEq, Nat.reduceAdd, hb, hv.len, c1, c2]
    refine ⟨_, _, rfl, ?_, ?_, (wr_u64 _).1, (wr_u64 _).2, rfl⟩
    · rw [wr_small (and_255 _).1 (and_255 _).2]; exact (and_255 _).1
    · rw [wr_small (and_255 _).1 (and_255 _).2]; exact (and_255 _).2
theorem s_l00Src_pick_ok {H : Heap} {p : Nat} {ty : TypeId} {v : Value} {bs : List Nat} {at0 seed n : Int} (hb : H.blk p = some ⟨true, ty, [v, .int .i64 at0, .int .u64 seed]⟩) (hp : p < H.n) (hv : YB H v bs) (h0 : 0 ≤ at0) (h1 : at0 ≤ 2 ^ 40) (s0 : 0 ≤ seed) (s1 : seed < 2 ^ 64) (hn : 2 ≤ n) (hn' : n ≤ 1000)
    (hvp : ∀ b, YB (H.put p ⟨true, ty, b⟩) v bs) :
    ACalls Try.prog n_s_l00Src_pick [.pointer (some ⟨p, 0, some 3⟩), .int .i64 n] H fun r H' => ∃ x at' seed' : Int, r = .int .i64 x ∧ 0 ≤ x ∧ x < n ∧ at0 ≤ at' ∧ at' ≤ at0 + 2 ∧ 0 ≤ seed' ∧ seed' < 2 ^ 64 ∧ H' = H.put p ⟨true, ty, [v, .int .i64 at', .int .u64 seed']⟩ := by
  refine k_s_l00Src_pick.run rfl ?_
  unfold c_s_l00Src_pick
  have c1 : ¬ n ≤ 1 := by omega
  have hn0 : n ≠ 0 := by omega
  simp (disch := first | assumption | omega | rfl | (refine id ?_; simp only [gxD, ne_eq, reduceCtorEq, not_false_eq_true, Nat.reduceAdd, *]; done) | (refine id ?_; simp only [gxD]; omega)) only [↓gxPre, gxPost, ↓reduceIte, Nat.reduceEqDiff, reduceCtorEq, Nat.reduceAdd, c1]
  refine callR_of (s_l00Src_next_ok hb hp hv h0 (by omega) s0 s1) ?_
  rintro _ _ ⟨x, sd, rfl, x0, x1, sd0, sd1, rfl⟩
  by_cases c2 : 200 < n
  · simp (disch := first | assumption | omega | rfl | (refine id ?_; simp only [gxD, ne_eq, reduceCtorEq, not_false_eq_true, Nat.reduceAdd, *]; done) | (refine id ?_; simp only [gxD]; omega)) only [↓gxPre, gxPost, ↓reduceIte, Nat.reduceEqDiff, reduceCtorEq, Nat.reduceAdd, c2]
    refine callR_of (s_l00Src_next_ok (hput_self _ _ _) (by rw [put_n]; exact hp) (hvp _) (by omega) (by omega) sd0 sd1) ?_
    rintro _ _ ⟨y, sd2, rfl, y0, y1, t0, t1, rfl⟩
    simp (disch := first | assumption | omega | rfl | (refine id ?_; simp only [gxD, ne_eq, reduceCtorEq, not_false_eq_true, Nat.reduceAdd, *]; done) | (refine id ?_; simp only [gxD]; omega)) only [↓gxPre, gxPost, ↓reduceIte, Nat.reduceEqDiff, reduceCtorEq, Nat.reduceAdd, hn0, hput_put]
    exact ⟨_, _, _, rfl, Int.tmod_nonneg _ (by omega), Int.tmod_lt_of_pos _ (by omega), by omega, by omega, t0, t1, rfl⟩
  · simp (disch := first | assumption | omega | rfl | (refine id ?_; simp only [gxD, ne_eq, reduceCtorEq, not_false_eq_true, Nat.reduceAdd, *]; done) | (refine id ?_; simp only [gxD]; omega)) only [↓gxPre, gxPost, ↓reduceIte, Nat.reduceEqDiff, reduceCtorEq, Nat.reduceAdd, c2, hn0]
    exact ⟨_, _, _, rfl, Int.tmod_nonneg _ (by omega), Int.tmod_lt_of_pos _ (by omega), by omega, by omega, sd0, sd1, rfl⟩
theorem s_l00From_ok {H : Heap} {v : Value} {bs : List Nat} (hv : YB H v bs) : ACalls Try.prog n_s_l00From [v] H fun r H' => ∃ ty, r = .pointer (some ⟨H.n, 0, some 3⟩) ∧ H' = H.new ⟨true, ty, [v, .int .i64 0, .int .u64 0]⟩ := by
  refine k_s_l00From.run rfl ?_
  unfold c_s_l00From
  have o := Sl.one hv.rd
  simp (disch := first | assumption | omega | rfl | (refine id ?_; simp only [gxD, ne_eq, reduceCtorEq, not_false_eq_true, Nat.reduceAdd, *]; done) | (refine id ?_; simp only [gxD]; omega)) only [↓gxPre, gxPost, ↓reduceIte, Nat.reduceEqDiff, reduceCtorEq, Nat.reduceAdd]
  exact ⟨_, rfl⟩
end Go.Proofs.Ytddekdgggpifmaa

namespace Go.Proofs.Ytddekdgggpifmaa
open Go.Gx
set_option maxRecDepth 100000
set_option linter.unusedSimpArgs false
set_option linter.unusedVariables false

def bzN (n : Nat) : Nat → Nat := foldI (fun _ m => m - m / 2) n
theorem bzN_zero (n : Nat) : bzN n 0 = n := rfl
theorem bzN_succ (n t : Nat) : bzN n (t + 1) = bzN n t - bzN n t / 2 := rfl
def bzM (n t : Nat) : Bool := decide (1 < bzN n t)
def bzO (n t : Nat) : List Nat := (List.range t).map fun k => bzN n k / 2
def bzS (n L : Nat) : Nat := stopN (bzM n) L
def bzL (n L : Nat) : List Nat := bzO n (bzS n L) ++ [bzN n (bzS n L)]
theorem bzO_length (n t : Nat) : (bzO n t).length = t := by simp [bzO]
theorem bzO_succ (n t : Nat) : bzO n t ++ [bzN n t / 2] = bzO n (t + 1) := by simp [bzO, List.range_succ]
theorem bzN_bd {n : Nat} (h0 : 1 ≤ n) : ∀ t, 1 ≤ bzN n t ∧ bzN n t ≤ n
  | 0 => ⟨h0, Nat.le_refl _⟩
  | t + 1 => by have := bzN_bd h0 t; rw [bzN_succ]; omega
theorem bz_ok : ∀ n : Fin 129, ∀ L : Fin 7, 1 ≤ n.val → 1 ≤ L.val → sizesF (bzL n.val L.val) = true := by decide +kernel
theorem nowI_len (kind : Int) (xs : List Int) : ∀ t, (nowI kind xs t).length = bzN xs.length t
  | 0 => rfl
  | t + 1 => by rw [nowI_succ, liftE_length, nowI_len kind xs t, bzN_succ]; omega
theorem moreI_eq (kind : Int) (xs : List Int) : moreI kind xs = bzM xs.length := by
  funext t
  unfold moreI bzM
  rw [nowI_len]
theorem levelsI_eq (kind : Int) (xs : List Int) (L : Nat) : levelsI kind xs L = outI kind xs (bzS xs.length L) ++ [nowI kind xs (bzS xs.length L)] := by
  unfold levelsI bzS
  rw [moreI_eq]
theorem levelsI_len (kind : Int) (xs : List Int) (L : Nat) : (levelsI kind xs L).length = bzS xs.length L + 1 := by rw [levelsI_eq]; simp [outI_len]
theorem levelsI_sizes (kind : Int) (xs : List Int) (L : Nat) : (levelsI kind xs L).map List.length = bzL xs.length L := by
  rw [levelsI_eq, List.map_append, List.map_cons, List.map_nil, nowI_len, bzL]
  congr 1
  unfold outI bzO
  rw [List.map_map]
  refine List.map_congr_left fun k _ => ?_
  show (liftO kind (nowI kind xs k)).length = _
  rw [liftO_length, nowI_len]
theorem outI_at {kind : Int} {xs : List Int} {t k : Nat} {l : List Int} (h : k < t) : (outI kind xs t ++ [l]).getD k [] = liftO kind (nowI kind xs k) := by
  rw [getD_app_lt (by rw [outI_len]; exact h), outI, getD_range_map h]
theorem dropV_lev (kind : Int) {xs : List Int} (hI : I64 xs) (L : Nat) : ∀ k, k ≤ bzS xs.length L → dropV kind (levelsI kind xs L) k = nowI kind xs (bzS xs.length L - k)
  | 0, _ => by
    rw [dropV_zero, levelsI_eq]
    have := @getD_app_at _ (outI kind xs (bzS xs.length L)) (nowI kind xs (bzS xs.length L)) []
    rw [outI_len] at this
    simp only [List.length_append, outI_len, List.length_cons, List.length_nil, Nat.zero_add, Nat.add_sub_cancel, Nat.sub_zero]
    exact this
  | k + 1, h => by
    have ih := dropV_lev kind hI L k (by omega)
    rw [dropV_succ, ih, levelsI_len]
    have e : bzS xs.length L + 1 - 2 - k = bzS xs.length L - (k + 1) := by omega
    have e2 : bzS xs.length L - k = bzS xs.length L - (k + 1) + 1 := by omega
    rw [e, e2, levelsI_eq, outI_at (by omega), nowI_succ]
    exact drop_lift (i64_nowI hI _)
def mbI : Nat → Int
  | 0 => 100
  | t + 1 => 3 * mbI t + 3
theorem mbI_le : ∀ t : Fin 7, 0 ≤ mbI t.val ∧ mbI t.val ≤ 100000 := by decide
theorem nowI_bd (kind : Int) {xs : List Int} (h : IB xs 100) : ∀ t, t ≤ 6 → IB (nowI kind xs t) (mbI t)
  | 0, _ => h
  | t + 1, ht => by
    have ih := nowI_bd kind h t (by omega)
    have := mbI_le ⟨t, by omega⟩
    simp only at this
    rw [nowI_succ]
    exact liftE_bound ih (by omega) (by omega)
theorem boundF_of {xs : List Int} {M N : Int} (h : IB xs M) (hN : M ≤ N) : boundF xs N = true := by
  unfold boundF
  refine (allD 0).2 fun j hj => ?_
  have := h j
  exact within_true.2 (by omega)
theorem integers_of {xs : List Int} {M : Int} (h : IB xs M) (hM : M ≤ 1000000) (h0 : 1 ≤ xs.length) (h1 : xs.length ≤ 128) : integersF xs = true := by
  unfold integersF
  rw [boundF_of h hM, within_true.2 (by omega)]
  rfl
theorem lev_back {kind : Int} {xs : List Int} {L : Nat} (hk : within kind 0 2 = true) (h : IB xs 100) (h0 : 1 ≤ xs.length) (h1 : xs.length ≤ 128) (l0 : 1 ≤ L) (l1 : L ≤ 6) :
    levOk kind (levelsI kind xs L) = true ∧ dropV kind (levelsI kind xs L) ((levelsI kind xs L).length - 1) = xs := by
  have hI : I64 xs := h.i64 (by omega)
  have hs : bzS xs.length L ≤ L := stopN_le _ _
  have hlen := levelsI_len kind xs L
  have hint : ∀ t, t ≤ 6 → integersF (nowI kind xs t) = true := fun t ht => by
    have := mbI_le ⟨t, by omega⟩
    simp only at this
    have b := bzN_bd h0 t
    exact integers_of (nowI_bd kind h t ht) (by omega) (by rw [nowI_len]; omega) (by rw [nowI_len]; omega)
  have hfin : dropV kind (levelsI kind xs L) ((levelsI kind xs L).length - 1) = xs := by
    rw [hlen, Nat.add_sub_cancel, dropV_lev kind hI L _ (Nat.le_refl _), Nat.sub_self]
    rfl
  refine ⟨?_, hfin⟩
  rw [levOk_yes hk (by rw [levelsI_sizes]; exact bz_ok ⟨xs.length, by omega⟩ ⟨L, by omega⟩ h0 l0) ?_, hfin]
  · exact hint 0 (by omega)
  · intro k hk'
    rw [hlen, Nat.add_sub_cancel] at hk'
    rw [dropV_lev kind hI L _ (by omega), hlen]
    have e : bzS xs.length L + 1 - 2 - k = bzS xs.length L - (k + 1) := by omega
    have e2 : bzS xs.length L - k = bzS xs.length L - (k + 1) + 1 := by omega
    rw [e, e2, levelsI_eq, outI_at (by omega), nowI_succ]
    generalize ht : bzS xs.length L - (k + 1) = t
    have ht6 : t ≤ 5 := by omega
    have b0 := nowI_bd kind h t (by omega)
    have m0 := mbI_le ⟨t, by omega⟩
    simp only at m0
    have hl := bzN_bd h0 t
    unfold dropOkI
    have f1 : fitF (liftE kind (nowI kind xs t)).length (liftO kind (nowI kind xs t)).length = true := by
      rw [liftE_length, liftO_length, nowI_len]
      unfold fitF
      simp only [Bool.and_eq_true, Bool.or_eq_true, decide_eq_true_eq]
      omega
    rw [hk, f1, boundF_of (liftE_bound b0 m0.1 (by omega)) (by omega), boundF_of (liftO_bound b0 m0.1 (by omega)) (by omega), drop_lift (i64_nowI hI _), hint t (by omega)]
    rfl
theorem lift_back {kind : Int} {xs : List Int} (hk : within kind 0 2 = true) (h : IB xs 100) (h0 : 1 ≤ xs.length) (h1 : xs.length ≤ 128) :
    integersF xs = true ∧ dropOkI kind (liftE kind xs) (liftO kind xs) = true ∧ dropI kind (liftE kind xs) (liftO kind xs) = xs := by
  have hI : I64 xs := h.i64 (by omega)
  have hint : integersF xs = true := integers_of h (by omega) h0 h1
  refine ⟨hint, ?_, drop_lift hI⟩
  unfold dropOkI
  have f1 : fitF (liftE kind xs).length (liftO kind xs).length = true := by
    rw [liftE_length, liftO_length]
    unfold fitF
    simp only [Bool.and_eq_true, Bool.or_eq_true, decide_eq_true_eq]
    omega
  rw [hk, f1, boundF_of (liftE_bound h (by omega) (by omega)) (by omega), boundF_of (liftO_bound h (by omega) (by omega)) (by omega), drop_lift hI, hint]
  rfl
theorem i_BandSizes_law {H : Heap} {a0 a1 : Int} : ACalls Try.prog n_i_BandSizes [.int .i64 a0, .int .i64 a1] H fun r H' => ListR iv t_int64 H (within a0 1 128 && within a1 1 6) (castL (bzL a0.toNat a1.toNat)) r H' := by
  refine k_i_BandSizes.run rfl ?_
  unfold c_i_BandSizes
  simp (disch := first | assumption | omega | rfl | (refine id ?_; simp only [gxD, ne_eq, reduceCtorEq, not_false_eq_true, Nat.reduceAdd, *]; done) | (refine id ?_; simp only [gxD]; omega)) only [↓gxPre, gxPost, ↓reduceIte, Nat.reduceEqDiff, reduceCtorEq, Nat.reduceAdd]
  refine callR_pure (i_within_ok) (by first | exact Or.inl rfl | (simp (disch := first | assumption | omega | rfl | (refine id ?_; simp only [gxD, ne_eq, reduceCtorEq, not_false_eq_true, Nat.reduceAdd, *]; done) | (refine id ?_; simp only [gxD]; omega)) only [↓gxPre, gxPost, ↓reduceIte, Nat.reduceEqDiff, reduceCtorEq, Nat.reduceAdd, *]; done)) ?_
  simp (disch := first | assumption | omega | rfl | (refine id ?_; simp only [gxD, ne_eq, reduceCtorEq, not_false_eq_true, Nat.reduceAdd, *]; done) | (refine id ?_; simp only [gxD]; omega)) only [↓gxPre, gxPost, ↓reduceIte, Nat.reduceEqDiff, reduceCtorEq, Nat.reduceAdd, *]
  cases h1 : within a0 1 128
  · simp (disch := first | assumption | omega | rfl | (refine id ?_; simp only [gxD, ne_eq, reduceCtorEq, not_false_eq_true, Nat.reduceAdd, *]; done) | (refine id ?_; simp only [gxD]; omega)) only [↓gxPre, gxPost, ↓reduceIte, Nat.reduceEqDiff, reduceCtorEq, Nat.reduceAdd]
    exact .no rfl (.refl _)
  simp (disch := first | assumption | omega | rfl | (refine id ?_; simp only [gxD, ne_eq, reduceCtorEq, not_false_eq_true, Nat.reduceAdd, *]; done) | (refine id ?_; simp only [gxD]; omega)) only [↓gxPre, gxPost, ↓reduceIte, Nat.reduceEqDiff, reduceCtorEq, Nat.reduceAdd]
  refine callR_pure (i_within_ok) (by first | exact Or.inl rfl | (simp (disch := first | assumption | omega | rfl | (refine id ?_; simp only [gxD, ne_eq, reduceCtorEq, not_false_eq_true, Nat.reduceAdd, *]; done) | (refine id ?_; simp only [gxD]; omega)) only [↓gxPre, gxPost, ↓reduceIte, Nat.reduceEqDiff, reduceCtorEq, Nat.reduceAdd, *]; done)) ?_
  simp (disch := first | assumption | omega | rfl | (refine id ?_; simp only [gxD, ne_eq, reduceCtorEq, not_false_eq_true, Nat.reduceAdd, *]; done) | (refine id ?_; simp only [gxD]; omega)) only [↓gxPre, gxPost, ↓reduceIte, Nat.reduceEqDiff, reduceCtorEq, Nat.reduceAdd, *]
  cases h2 : within a1 1 6
  · simp (disch := first | assumption | omega | rfl | (refine id ?_; simp only [gxD, ne_eq, reduceCtorEq, not_false_eq_true, Nat.reduceAdd, *]; done) | (refine id ?_; simp only [gxD]; omega)) only [↓gxPre, gxPost, ↓reduceIte, Nat.reduceEqDiff, reduceCtorEq, Nat.reduceAdd]
    exact .no rfl (.refl _)
  have w1 := within_true.1 h1
  have w2 := within_true.1 h2
  obtain ⟨n, rfl⟩ : ∃ n : Nat, a0 = n := ⟨a0.toNat, by omega⟩
  have hn : 1 ≤ n := by omega
  have hfin : bzL n a1.toNat = bzO n (bzS n a1.toNat) ++ [bzN n (bzS n a1.toNat)] := rfl
  have hsl : bzS n a1.toNat ≤ a1.toNat := stopN_le _ _
  have hle : (castL (bzL n a1.toNat)).length ≤ 2 ^ 40 := by
    rw [castL_length, hfin]
    simp [bzO_length]
    omega
  simp (disch := first | assumption | omega | rfl | (refine id ?_; simp only [gxD, ne_eq, reduceCtorEq, not_false_eq_true, Nat.reduceAdd, *]; done) | (refine id ?_; simp only [gxD]; omega)) only [↓gxPre, gxPost, ↓reduceIte, Nat.reduceEqDiff, reduceCtorEq, Nat.reduceAdd]
  refine loop_st (σ := Nat) (fun t => [.int .i64 (bzN n t), .int .i64 a1, .slice (some ⟨H.n, 0, none⟩) t t, .int .i64 t])
    (fun t G => t ≤ a1.toNat ∧ (∀ k, k < t → bzM n k = true) ∧ H.n + 1 ≤ G.n ∧ Ext H G ∧ G.blk H.n = some ⟨true, t_int64, (castL (bzO n t)).map iv⟩)
    (fun t => a1.toNat - t) 0 rfl ⟨by omega, by intros; omega, by simp only [new_n]; omega, ⟨by first | omega | (simp only [new_n, put_n]; omega) | (simp only [new_n, put_n] at *; omega), fun i hi => by simp (disch := first | assumption | omega | rfl | (refine id ?_; simp only [gxD, ne_eq, reduceCtorEq, not_false_eq_true, Nat.reduceAdd, *]; done) | (refine id ?_; simp only [gxD]; omega)) only [↓gxPre, gxPost, ↓reduceIte, Nat.reduceEqDiff, reduceCtorEq, Nat.reduceAdd, *]⟩, by simp (disch := first | assumption | omega | rfl | (refine id ?_; simp only [gxD, ne_eq, reduceCtorEq, not_false_eq_true, Nat.reduceAdd, *]; done) | (refine id ?_; simp only [gxD]; omega)) only [↓gxPre, gxPost, ↓reduceIte, Nat.reduceEqDiff, reduceCtorEq, Nat.reduceAdd]; rfl⟩ ?_
  rintro t G ⟨g1, g2, g3, g4, g5⟩
  have hb := bzN_bd hn t
  have hlt : ((castL (bzO n t)).map iv).length = t := by rw [lMapI, castL_length, bzO_length]
  by_cases c1 : (t : Int) < a1
  · by_cases c2 : (1 : Int) < bzN n t
    · have hsn : (castL (bzO n t)).map iv ++ [.int .i64 ((bzN n t / 2 : Nat) : Int)] = (castL (bzO n (t + 1))).map iv := by rw [castL_snoc, bzO_succ]
      have hd := tdiv2 (bzN n t)
      obtain ⟨p1, p2', p3, p4⟩ := push_at g4 g5 (Nat.le_refl _) (by omega) hsn
      simp (disch := first | assumption | omega | rfl | (refine id ?_; simp only [gxD, ne_eq, reduceCtorEq, not_false_eq_true, Nat.reduceAdd, *]; done) | (refine id ?_; simp only [gxD]; omega)) only [↓gxPre, gxPost, ↓reduceIte, Nat.reduceEqDiff, reduceCtorEq, Nat.reduceAdd, c1, c2, hd, g5, rd1_at]
      refine ⟨t + 1, by omega, ?_, by omega, ?_, by omega, p1, by rw [hsn]⟩
      · rw [bzN_succ]
        simp
        omega
      · intro k hk
        by_cases hkt : k = t
        · subst hkt; exact decide_eq_true (by omega)
        · exact g2 k (by omega)
    · have hst : bzS n a1.toNat = t := stopN_eq g2 _ g1 fun _ => decide_eq_false (by omega)
      have hsn : (castL (bzO n t)).map iv ++ [.int .i64 ((bzN n t : Nat) : Int)] = (castL (bzL n a1.toNat)).map iv := by rw [castL_snoc, hfin, hst]
      obtain ⟨p1, p2', p3, p4⟩ := push_at g4 g5 (Nat.le_refl _) (by omega) hsn
      simp (disch := first | assumption | omega | rfl | (refine id ?_; simp only [gxD, ne_eq, reduceCtorEq, not_false_eq_true, Nat.reduceAdd, *]; done) | (refine id ?_; simp only [gxD]; omega)) only [↓gxPre, gxPost, ↓reduceIte, Nat.reduceEqDiff, reduceCtorEq, Nat.reduceAdd, c1, c2, g5, rd1_at]
      exact .yes (by simp) p1 (.mk p2' (by rw [lMapI, castL_length, hfin, hst]; simp [bzO_length]) (by omega) (by first | omega | (simp only [new_n, put_n]; omega)) (by first | omega | (simp only [new_n, put_n]; omega))) hle
  · have hst : bzS n a1.toNat = t := stopN_eq g2 _ g1 fun h => by omega
    have hsn : (castL (bzO n t)).map iv ++ [.int .i64 ((bzN n t : Nat) : Int)] = (castL (bzL n a1.toNat)).map iv := by rw [castL_snoc, hfin, hst]
    obtain ⟨p1, p2', p3, p4⟩ := push_at g4 g5 (Nat.le_refl _) (by omega) hsn
    simp (disch := first | assumption | omega | rfl | (refine id ?_; simp only [gxD, ne_eq, reduceCtorEq, not_false_eq_true, Nat.reduceAdd, *]; done) | (refine id ?_; simp only [gxD]; omega)) only [↓gxPre, gxPost, ↓reduceIte, Nat.reduceEqDiff, reduceCtorEq, Nat.reduceAdd, c1, g5, rd1_at]
    exact .yes (by simp) p1 (.mk p2' (by rw [lMapI, castL_length, hfin, hst]; simp [bzO_length]) (by omega) (by first | omega | (simp only [new_n, put_n]; omega)) (by first | omega | (simp only [new_n, put_n]; omega))) hle
end Go.Proofs.Ytddekdgggpifmaa

namespace Go.Proofs.Ytddekdgggpifmaa
open Go.Gx
set_option maxRecDepth 100000
set_option linter.unusedSimpArgs false
set_option linter.unusedVariables false

def quartW (q : Int) : Nat := fbin .quo .f32 (i2f .f32 q) 1082130432
theorem quartW_all : ∀ n : Fin 65, finF (quartW ((n.val : Int) - 32)) = true ∧ quartW ((n.val : Int) - 32) < 2 ^ 32 ∧ fval .f32 (quartW ((n.val : Int) - 32)) = (((n.val : Int) - 32 : Int) : Rat) / 4 := by decide +kernel
/-- A quarter's word. -/
def Qd (w : Nat) : Prop := ∃ q : Int, -32 ≤ q ∧ q ≤ 32 ∧ w = quartW q
theorem Qd.ok {w : Nat} (h : Qd w) : FinW .f32 w ∧ w < 2 ^ 32 ∧ ∃ q : Int, -32 ≤ q ∧ q ≤ 32 ∧ fval .f32 w = (q : Rat) / 4 := by
  obtain ⟨q, h0, h1, rfl⟩ := h
  obtain ⟨a, b, c⟩ := quartW_all ⟨(q + 32).toNat, by omega⟩
  have e : (((q + 32).toNat : Nat) : Int) - 32 = q := by omega
  simp only [e] at a b c
  exact ⟨finW_of a, b, q, h0, h1, c⟩
def QdL (xs : List Nat) : Prop := ∀ j, j < xs.length → Qd (xs.getD j 0)
theorem QdL.w32 {xs : List Nat} (h : QdL xs) : W32 xs := fun j => by
  by_cases hj : j < xs.length
  · exact (h j hj).ok.2.1
  · have : xs.getD j 0 = 0 := by simp [List.getD_eq_getElem?_getD, List.getElem?_eq_none (Nat.le_of_not_lt hj)]
    rw [this]; decide
theorem QdL.snoc {xs : List Nat} {w : Nat} (h : QdL xs) (hw : Qd w) : QdL (xs ++ [w]) := fun j hj => by
  by_cases hlt : j < xs.length
  · rw [getD_app_lt hlt]; exact h j hlt
  · have : j = xs.length := by simp at hj; omega
    subst this
    rw [getD_app_at]; exact hw
theorem s_l00Src_one_ok {H : Heap} {p : Nat} {ty : TypeId} {v : Value} {bs : List Nat} {at0 seed n : Int} (hb : H.blk p = some ⟨true, ty, [v, .int .i64 at0, .int .u64 seed]⟩) (hp : p < H.n) (hv : YB H v bs) (h0 : 0 ≤ at0) (h1 : at0 ≤ 2 ^ 40) (s0 : 0 ≤ seed) (s1 : seed < 2 ^ 64) (hn : 2 ≤ n) (hn' : n ≤ 1000)
    (hvp : ∀ b, YB (H.put p ⟨true, ty, b⟩) v bs) :
    ACalls Try.prog n_s_l00Src_one [.pointer (some ⟨p, 0, some 3⟩), .int .i64 n] H fun r H' => ∃ (x : Bool) (at' seed' : Int), r = .bool x ∧ at0 ≤ at' ∧ at' ≤ at0 + 2 ∧ 0 ≤ seed' ∧ seed' < 2 ^ 64 ∧ H' = H.put p ⟨true, ty, [v, .int .i64 at', .int .u64 seed']⟩ := by
  refine k_s_l00Src_one.run rfl ?_
  unfold c_s_l00Src_one
  simp (disch := first | assumption | omega | rfl | (refine id ?_; simp only [gxD, ne_eq, reduceCtorEq, not_false_eq_true, Nat.reduceAdd, *]; done) | (refine id ?_; simp only [gxD]; omega)) only [↓gxPre, gxPost, ↓reduceIte, Nat.reduceEqDiff, reduceCtorEq, Nat.reduceAdd]
  refine callR_of (s_l00Src_pick_ok hb hp hv h0 h1 s0 s1 hn hn' hvp) ?_
  rintro _ _ ⟨x, at', sd, rfl, x0, x1, a0, a1, t0, t1, rfl⟩
  simp (disch := first | assumption | omega | rfl | (refine id ?_; simp only [gxD, ne_eq, reduceCtorEq, not_false_eq_true, Nat.reduceAdd, *]; done) | (refine id ?_; simp only [gxD]; omega)) only [↓gxPre, gxPost, ↓reduceIte, Nat.reduceEqDiff, reduceCtorEq, Nat.reduceAdd]
  exact ⟨_, _, _, rfl, a0, a1, t0, t1, rfl⟩
end Go.Proofs.Ytddekdgggpifmaa

namespace Go.Proofs.Ytddekdgggpifmaa
open Go.Gx
set_option maxRecDepth 100000
set_option linter.unusedSimpArgs false
set_option linter.unusedVariables false

def psQ : Bool → List Nat
  | true => fourP
  | false => haarP
def loQ : Bool → Rat → Rat → Rat → Rat → Rat
  | true, a, b, c, d => loR a b c d
  | false, a, b, _, _ => loH a b
def hiQ : Bool → Rat → Rat → Rat → Rat → Rat
  | true, a, b, c, d => hiR a b c d
  | false, a, b, _, _ => hiH a b
def jeQ : Bool → Rat → Rat → Rat → Rat → Rat
  | true, l, h, l', h' => 8102773 / 16777216 * l + -4342263 / 33554432 * h + (1880255 / 8388608 * l' + 14034415 / 16777216 * h')
  | false, l, h, _, _ => 11863283 / 16777216 * l + 11863283 / 16777216 * h
def joQ : Bool → Rat → Rat → Rat → Rat → Rat
  | true, l, h, l', h' => 14034415 / 16777216 * l + -1880255 / 8388608 * h + (-4342263 / 33554432 * l' + -8102773 / 16777216 * h')
  | false, l, h, _, _ => 11863283 / 16777216 * l + -11863283 / 16777216 * h
theorem mod_next {m j : Nat} (hj : j < m) : (2 * j + 2) % (2 * m) = 2 * ((j + 1) % m) ∧ (2 * j + 3) % (2 * m) = 2 * ((j + 1) % m) + 1 ∧ (j + 1) % m < m := by
  have h1 : (j + 1) % m < m := Nat.mod_lt _ (by omega)
  have e : (2 * j + 2) % (2 * m) = 2 * ((j + 1) % m) := by
    rw [show 2 * j + 2 = 2 * (j + 1) by omega, Nat.mul_mod_mul_left]
  refine ⟨e, ?_, h1⟩
  by_cases c : j + 1 < m
  · rw [Nat.mod_eq_of_lt (by omega), Nat.mod_eq_of_lt c]; omega
  · have : j + 1 = m := by omega
    rw [this, Nat.mod_self, show 2 * j + 3 = 1 + 2 * m by omega, Nat.add_mod_right]
    by_cases hm : m = 0
    · omega
    · rw [Nat.mod_eq_of_lt (by omega)]
theorem tapL_len (xs ps : List Nat) : (tapL xs ps).length = xs.length / 2 := by simp [tapL, tabL_length]
theorem tapL_at {xs ps : List Nat} {j : Nat} (h : j < xs.length / 2) : (tapL xs ps).getD j 0 = tapF xs ps j ps.length := tabL_getD h
/-- What a split gives. -/
theorem split_near (q : Bool) {xs : List Nat} {m : Nat} {M : Rat} (hM : okR M) (hl : xs.length = 2 * m) (hx : ∀ i, i < 2 * m → FinW .f32 (xs.getD i 0) ∧ Bd (vF xs i) M) {j : Nat} (hj : j < m) :
    Nr ((tapL xs (psQ q)).getD j 0) (loQ q (vF xs (2 * j)) (vF xs (2 * j + 1)) (vF xs (2 * ((j + 1) % m))) (vF xs (2 * ((j + 1) % m) + 1))) (2 * M / 1000000) ∧
      Nr ((tapL xs (highL (psQ q))).getD j 0) (hiQ q (vF xs (2 * j)) (vF xs (2 * j + 1)) (vF xs (2 * ((j + 1) % m))) (vF xs (2 * ((j + 1) % m) + 1))) (2 * M / 1000000) := by
  obtain ⟨n1, n2, n3⟩ := mod_next hj
  have h0 : (2 * j + 0) % (2 * m) = 2 * j := Nat.mod_eq_of_lt (by omega)
  have h1 : (2 * j + 1) % (2 * m) = 2 * j + 1 := Nat.mod_eq_of_lt (by omega)
  rw [tapL_at (by omega), tapL_at (by omega)]
  cases q
  · have e : highL (psQ false) = haarG := haarG_eq
    rw [e]
    have t1 : tapF xs (psQ false) j (psQ false).length = fbin .add .f32 (fbin .add .f32 0 (fbin .mul .f32 1060439283 (xs.getD (2 * j) 0))) (fbin .mul .f32 1060439283 (xs.getD (2 * j + 1) 0)) := by
      show tapF xs haarP j 2 = _
      rw [tapF_succ, tapF_succ, hl, h0, h1]
      rfl
    have t2 : tapF xs haarG j haarG.length = fbin .add .f32 (fbin .add .f32 0 (fbin .mul .f32 1060439283 (xs.getD (2 * j) 0))) (fbin .mul .f32 3207922931 (xs.getD (2 * j + 1) 0)) := by
      show tapF xs haarG j 2 = _
      rw [tapF_succ, tapF_succ, hl, h0, h1]
      rfl
    rw [t1, t2]
    exact ⟨haar_lo hM (hx _ (by omega)) (hx _ (by omega)), haar_hi hM (hx _ (by omega)) (hx _ (by omega))⟩
  · have e : highL (psQ true) = fourG := fourG_eq
    rw [e]
    have t1 : tapF xs (psQ true) j (psQ true).length = fbin .add .f32 (fbin .add .f32 (fbin .add .f32 (fbin .add .f32 0 (fbin .mul .f32 1056392938 (xs.getD (2 * j) 0))) (fbin .mul .f32 1062610415 (xs.getD (2 * j + 1) 0))) (fbin .mul .f32 1046840824 (xs.getD (2 * ((j + 1) % m)) 0))) (fbin .mul .f32 3187966958 (xs.getD (2 * ((j + 1) % m) + 1) 0)) := by
      show tapF xs fourP j 4 = _
      rw [tapF_succ, tapF_succ, tapF_succ, tapF_succ, hl, h0, h1, n1, n2]
      rfl
    have t2 : tapF xs fourG j fourG.length = fbin .add .f32 (fbin .add .f32 (fbin .add .f32 (fbin .add .f32 0 (fbin .mul .f32 3187966958 (xs.getD (2 * j) 0))) (fbin .mul .f32 3194324472 (xs.getD (2 * j + 1) 0))) (fbin .mul .f32 1062610415 (xs.getD (2 * ((j + 1) % m)) 0))) (fbin .mul .f32 3203876586 (xs.getD (2 * ((j + 1) % m) + 1) 0)) := by
      show tapF xs fourG j 4 = _
      rw [tapF_succ, tapF_succ, tapF_succ, tapF_succ, hl, h0, h1, n1, n2]
      rfl
    rw [t1, t2]
    exact ⟨four_lo hM (hx _ (by omega)) (hx _ (by omega)) (hx _ (by omega)) (hx _ (by omega)), four_hi hM (hx _ (by omega)) (hx _ (by omega)) (hx _ (by omega)) (hx _ (by omega))⟩

/-! ### joined rings, number by number -/
def jE (lo hi ps hp : List Nat) (j k w : Nat) : Nat := fbin .add .f32 w (fbin .add .f32 (fbin .mul .f32 (ps.getD k 0) (lo.getD j 0)) (fbin .mul .f32 (hp.getD k 0) (hi.getD j 0)))
theorem joinK_at {lo hi ps hp out : List Nat} {j k i : Nat} (h : i < out.length) : (joinK lo hi ps hp out j k).getD i 0 = if i = (2 * j + k) % (2 * lo.length) then jE lo hi ps hp j k (out.getD i 0) else out.getD i 0 := by
  unfold joinK
  by_cases c : i = (2 * j + k) % (2 * lo.length)
  · subst c
    rw [Go.Gx.getD_set_self h, if_pos rfl]
    rfl
  · rw [Go.Gx.getD_set_ne (fun e => c e.symm), if_neg c]
theorem joinK_len (lo hi ps hp out : List Nat) (j k : Nat) : (joinK lo hi ps hp out j k).length = out.length := by simp [joinK]
theorem joinJ2_at {lo hi ps hp out : List Nat} {j t b : Nat} (hl : out.length = 2 * lo.length) (hj : j < lo.length) (ht : t < lo.length) (hb : b < 2) :
    (joinJ lo hi ps hp out j 2).getD (2 * t + b) 0 = if t = j then jE lo hi ps hp j b (out.getD (2 * t + b) 0) else out.getD (2 * t + b) 0 := by
  have e : joinJ lo hi ps hp out j 2 = joinK lo hi ps hp (joinK lo hi ps hp out j 0) j 1 := rfl
  have h0 : (2 * j + 0) % (2 * lo.length) = 2 * j := Nat.mod_eq_of_lt (by omega)
  have h1 : (2 * j + 1) % (2 * lo.length) = 2 * j + 1 := Nat.mod_eq_of_lt (by omega)
  rw [e, joinK_at (by rw [joinK_len]; omega), joinK_at (by omega), h0, h1]
  by_cases c : t = j
  · subst c
    rw [if_pos rfl]
    rcases (by omega : b = 0 ∨ b = 1) with rfl | rfl
    · rw [if_neg (by omega), if_pos (by omega)]
    · rw [if_pos (by omega), if_neg (by omega)]
  · rw [if_neg (by omega), if_neg (by omega), if_neg c]
theorem joinJ4_at {lo hi ps hp out : List Nat} {j t b : Nat} (hl : out.length = 2 * lo.length) (hj : j < lo.length) (ht : t < lo.length) (hb : b < 2) :
    (joinJ lo hi ps hp out j 4).getD (2 * t + b) 0 = if t = (j + 1) % lo.length then jE lo hi ps hp j (b + 2) (if t = j then jE lo hi ps hp j b (out.getD (2 * t + b) 0) else out.getD (2 * t + b) 0) else if t = j then jE lo hi ps hp j b (out.getD (2 * t + b) 0) else out.getD (2 * t + b) 0 := by
  have e : joinJ lo hi ps hp out j 4 = joinK lo hi ps hp (joinK lo hi ps hp (joinJ lo hi ps hp out j 2) j 2) j 3 := rfl
  have hlen : (joinJ lo hi ps hp out j 2).length = out.length := joinJ_len _ _ _ _ _ _ _
  obtain ⟨n1, n2, n3⟩ := mod_next hj
  rw [e, joinK_at (by rw [joinK_len]; omega), joinK_at (by omega), n1, n2, joinJ2_at hl hj ht hb]
  by_cases c : t = (j + 1) % lo.length
  · rw [← c, if_pos rfl]
    rcases (by omega : b = 0 ∨ b = 1) with rfl | rfl
    · rw [if_neg (by omega), if_pos (by omega)]
    · rw [if_pos (by omega), if_neg (by omega)]
  · rw [if_neg (by omega), if_neg (by omega), if_neg c]
theorem joinN2_at {lo hi ps hp : List Nat} (hp2 : ps.length = 2) {t b : Nat} (ht : t < lo.length) (hb : b < 2) : ∀ J, J ≤ lo.length → (joinN lo hi ps hp J).getD (2 * t + b) 0 = if t < J then jE lo hi ps hp t b 0 else 0
  | 0, _ => by
    rw [if_neg (by omega)]
    simp [joinN, foldI_zero, List.getD_eq_getElem?_getD, List.getElem?_replicate]
    intros; split <;> rfl
  | J + 1, h => by
    rw [joinN_succ, hp2, joinJ2_at (joinN_len _ _ _ _ _) (by omega) ht hb, joinN2_at hp2 ht hb J (by omega)]
    by_cases c : t = J
    · subst c
      rw [if_pos rfl, if_neg (by omega), if_pos (by omega)]
    · rw [if_neg c]
      by_cases c2 : t < J
      · rw [if_pos c2, if_pos (by omega)]
      · rw [if_neg c2, if_neg (by omega)]
theorem joinN4_at {lo hi ps hp : List Nat} (hp4 : ps.length = 4) {t b : Nat} (ht : t < lo.length) (hb : b < 2) : ∀ J, J ≤ lo.length → (joinN lo hi ps hp J).getD (2 * t + b) 0 =
    if t = 0 then (if lo.length - 1 < J then jE lo hi ps hp (lo.length - 1) (b + 2) (if 0 < J then jE lo hi ps hp 0 b 0 else 0) else if 0 < J then jE lo hi ps hp 0 b 0 else 0)
    else (if t < J then jE lo hi ps hp t b (if t - 1 < J then jE lo hi ps hp (t - 1) (b + 2) 0 else 0) else if t - 1 < J then jE lo hi ps hp (t - 1) (b + 2) 0 else 0)
  | 0, _ => by
    have z : (joinN lo hi ps hp 0).getD (2 * t + b) 0 = 0 := by
      simp [joinN, foldI_zero, List.getD_eq_getElem?_getD, List.getElem?_replicate]
      intros; split <;> rfl
    rw [z]
    by_cases c : t = 0
    · rw [if_pos c, if_neg (by omega), if_neg (by omega)]
    · rw [if_neg c, if_neg (by omega), if_neg (by omega)]
  | J + 1, h => by
    have ih := joinN4_at (hi := hi) (hp := hp) hp4 ht hb J (by omega)
    rw [joinN_succ, hp4, joinJ4_at (joinN_len _ _ _ _ _) (by omega) ht hb, ih]
    have hJ : J < lo.length := by omega
    by_cases c : t = 0
    · subst c
      rw [if_pos rfl, if_pos rfl]
      by_cases c1 : J + 1 = lo.length
      · have e : lo.length - 1 = J := by omega
        rw [c1, Nat.mod_self, if_pos rfl, e, if_neg (show ¬ J < J by omega), if_pos (show J < lo.length by omega), if_pos (show 0 < lo.length by omega)]
        by_cases c2 : J = 0
        · subst c2
          rw [if_pos rfl, if_neg (by omega)]
        · rw [if_neg (by omega), if_pos (by omega)]
      · rw [Nat.mod_eq_of_lt (by omega), if_neg (by omega), if_neg (show ¬ lo.length - 1 < J by omega), if_neg (show ¬ lo.length - 1 < J + 1 by omega), if_pos (show 0 < J + 1 by omega)]
        by_cases c2 : J = 0
        · subst c2
          rw [if_pos rfl, if_neg (by omega)]
        · rw [if_neg (by omega), if_pos (by omega)]
    · rw [if_neg c, if_neg c]
      by_cases c1 : J + 1 = lo.length
      · rw [c1, Nat.mod_self, if_neg c, if_pos (show t < lo.length by omega), if_pos (show t - 1 < lo.length by omega)]
        by_cases c2 : t = J
        · subst c2
          rw [if_pos rfl, if_neg (show ¬ t < t by omega), if_pos (show t - 1 < t by omega)]
        · rw [if_neg c2, if_pos (show t < J by omega), if_pos (show t - 1 < J by omega)]
      · rw [Nat.mod_eq_of_lt (by omega)]
        by_cases c2 : t = J + 1
        · subst c2
          rw [if_pos rfl, if_neg (by omega), if_neg (by omega), if_neg (by omega), if_neg (by omega), if_pos (by omega)]
          simp
        · rw [if_neg c2]
          by_cases c3 : t = J
          · subst c3
            rw [if_pos rfl, if_neg (show ¬ t < t by omega), if_pos (show t - 1 < t by omega), if_pos (by omega), if_pos (by omega)]
          · rw [if_neg c3]
            by_cases c4 : t < J
            · rw [if_pos c4, if_pos (show t < J + 1 by omega), if_pos (show t - 1 < J by omega), if_pos (by omega)]
            · rw [if_neg c4, if_neg (show ¬ t < J + 1 by omega), if_neg (show ¬ t - 1 < J by omega), if_neg (by omega)]
/-- What a join gives. -/
theorem join_near (q : Bool) {lo hi : List Nat} {m : Nat} {M : Rat} (hM : okR M) (hl : lo.length = m) (hx : ∀ i, i < m → FinW .f32 (lo.getD i 0) ∧ Bd (vF lo i) (2 * M)) (hy : ∀ i, i < m → FinW .f32 (hi.getD i 0) ∧ Bd (vF hi i) (2 * M)) {t s : Nat} (ht : t < m) (hs : s = if t = 0 then m - 1 else t - 1) :
    Nr ((joinL lo hi (psQ q)).getD (2 * t) 0) (jeQ q (vF lo t) (vF hi t) (vF lo s) (vF hi s)) (5 * M / 1000000) ∧ Nr ((joinL lo hi (psQ q)).getD (2 * t + 1) 0) (joQ q (vF lo t) (vF hi t) (vF lo s) (vF hi s)) (5 * M / 1000000) := by
  obtain ⟨m0, m1⟩ := id hM
  have hsm : s < m := by rw [hs]; split <;> omega
  obtain ⟨a1, a2, a3⟩ := hx t ht
  obtain ⟨b1, b2, b3⟩ := hy t ht
  obtain ⟨c1, c2, c3⟩ := hx s hsm
  obtain ⟨d1, d2, d3⟩ := hy s hsm
  unfold vF at *
  cases q
  · have w : ∀ b, b < 2 → (joinL lo hi (psQ false)).getD (2 * t + b) 0 = jE lo hi haarP haarG t b 0 := fun b hb => by
      unfold joinL
      have e : highL (psQ false) = haarG := haarG_eq
      rw [e, joinN2_at (ps := psQ false) rfl (by omega) hb _ (Nat.le_refl _), if_pos (by omega)]
      rfl
    have w0 := w 0 (by omega)
    have w1 := w 1 (by omega)
    rw [Nat.add_zero] at w0
    rw [w0, w1]
    have s0 := join_step hM nr_zero h0v h0v a1 b1 ⟨by grind_linarith, by grind_linarith⟩ ⟨by grind_linarith, by grind_linarith⟩ ⟨by grind_linarith, by grind_linarith⟩ (by grind_linarith)
    have s1 := join_step hM nr_zero h0v h1v a1 b1 ⟨by grind_linarith, by grind_linarith⟩ ⟨by grind_linarith, by grind_linarith⟩ ⟨by grind_linarith, by grind_linarith⟩ (by grind_linarith)
    obtain ⟨t1, t2, t3⟩ := s0
    obtain ⟨u1, u2, u3⟩ := s1
    unfold jeQ joQ
    exact ⟨⟨t1, by change _ ≤ fval .f32 (fbin .add .f32 0 (fbin .add .f32 (fbin .mul .f32 1060439283 (lo.getD t 0)) (fbin .mul .f32 1060439283 (hi.getD t 0)))); grind_linarith, by change fval .f32 (fbin .add .f32 0 (fbin .add .f32 (fbin .mul .f32 1060439283 (lo.getD t 0)) (fbin .mul .f32 1060439283 (hi.getD t 0)))) ≤ _; grind_linarith⟩,
      ⟨u1, by change _ ≤ fval .f32 (fbin .add .f32 0 (fbin .add .f32 (fbin .mul .f32 1060439283 (lo.getD t 0)) (fbin .mul .f32 3207922931 (hi.getD t 0)))); grind_linarith, by change fval .f32 (fbin .add .f32 0 (fbin .add .f32 (fbin .mul .f32 1060439283 (lo.getD t 0)) (fbin .mul .f32 3207922931 (hi.getD t 0)))) ≤ _; grind_linarith⟩⟩
  · have w : ∀ b, b < 2 → (joinL lo hi (psQ true)).getD (2 * t + b) 0 = if t = 0 then jE lo hi fourP fourG s (b + 2) (jE lo hi fourP fourG t b 0) else jE lo hi fourP fourG t b (jE lo hi fourP fourG s (b + 2) 0) := fun b hb => by
      unfold joinL
      have e : highL (psQ true) = fourG := fourG_eq
      rw [e, joinN4_at (ps := psQ true) rfl (by omega) hb _ (Nat.le_refl _), if_pos (show lo.length - 1 < lo.length by omega), if_pos (show 0 < lo.length by omega), if_pos (show t < lo.length by omega), if_pos (show t - 1 < lo.length by omega)]
      by_cases c : t = 0
      · subst c
        rw [if_pos rfl, if_pos rfl, hs, if_pos rfl, hl]
        rfl
      · rw [if_neg c, if_neg c, hs, if_neg c]
        rfl
    have w0 := w 0 (by omega)
    have w1 := w 1 (by omega)
    rw [Nat.add_zero] at w0
    rw [w0, w1]
    have E0 : ∀ {w : Nat} {R e : Rat}, Nr w R e → Bd R (4 * M) → e ≤ M / 100 → Nr (jE lo hi fourP fourG t 0 w) (R + (8102773 / 16777216 * fval .f32 (lo.getD t 0) + -4342263 / 33554432 * fval .f32 (hi.getD t 0))) (e + 17 * M / 8000000) := fun {w R e} hw hR he =>
      join_step hM hw f0v f3v a1 b1 ⟨by grind_linarith, by grind_linarith⟩ ⟨by grind_linarith, by grind_linarith⟩ ⟨by have := hR.1; grind_linarith, by have := hR.2; grind_linarith⟩ he
    have E1 : ∀ {w : Nat} {R e : Rat}, Nr w R e → Bd R (4 * M) → e ≤ M / 100 → Nr (jE lo hi fourP fourG t 1 w) (R + (14034415 / 16777216 * fval .f32 (lo.getD t 0) + -1880255 / 8388608 * fval .f32 (hi.getD t 0))) (e + 17 * M / 8000000) := fun {w R e} hw hR he =>
      join_step hM hw f1v g1v a1 b1 ⟨by grind_linarith, by grind_linarith⟩ ⟨by grind_linarith, by grind_linarith⟩ ⟨by have := hR.1; grind_linarith, by have := hR.2; grind_linarith⟩ he
    have E2 : ∀ {w : Nat} {R e : Rat}, Nr w R e → Bd R (4 * M) → e ≤ M / 100 → Nr (jE lo hi fourP fourG s 2 w) (R + (1880255 / 8388608 * fval .f32 (lo.getD s 0) + 14034415 / 16777216 * fval .f32 (hi.getD s 0))) (e + 17 * M / 8000000) := fun {w R e} hw hR he =>
      join_step hM hw f2v f1v c1 d1 ⟨by grind_linarith, by grind_linarith⟩ ⟨by grind_linarith, by grind_linarith⟩ ⟨by have := hR.1; grind_linarith, by have := hR.2; grind_linarith⟩ he
    have E3 : ∀ {w : Nat} {R e : Rat}, Nr w R e → Bd R (4 * M) → e ≤ M / 100 → Nr (jE lo hi fourP fourG s 3 w) (R + (-4342263 / 33554432 * fval .f32 (lo.getD s 0) + -8102773 / 16777216 * fval .f32 (hi.getD s 0))) (e + 17 * M / 8000000) := fun {w R e} hw hR he =>
      join_step hM hw f3v g3v c1 d1 ⟨by grind_linarith, by grind_linarith⟩ ⟨by grind_linarith, by grind_linarith⟩ ⟨by have := hR.1; grind_linarith, by have := hR.2; grind_linarith⟩ he
    have z : Bd 0 (4 * M) := ⟨by grind_linarith, by grind_linarith⟩
    unfold jeQ joQ
    by_cases c : t = 0
    · rw [if_pos c, if_pos c]
      obtain ⟨t1, t2, t3⟩ := E2 (E0 nr_zero z (by grind_linarith)) ⟨by grind_linarith, by grind_linarith⟩ (by grind_linarith)
      obtain ⟨u1, u2, u3⟩ := E3 (E1 nr_zero z (by grind_linarith)) ⟨by grind_linarith, by grind_linarith⟩ (by grind_linarith)
      exact ⟨⟨t1, by grind_linarith, by grind_linarith⟩, ⟨u1, by grind_linarith, by grind_linarith⟩⟩
    · rw [if_neg c, if_neg c]
      obtain ⟨t1, t2, t3⟩ := E0 (E2 nr_zero z (by grind_linarith)) ⟨by grind_linarith, by grind_linarith⟩ (by grind_linarith)
      obtain ⟨u1, u2, u3⟩ := E1 (E3 nr_zero z (by grind_linarith)) ⟨by grind_linarith, by grind_linarith⟩ (by grind_linarith)
      exact ⟨⟨t1, by grind_linarith, by grind_linarith⟩, ⟨u1, by grind_linarith, by grind_linarith⟩⟩
end Go.Proofs.Ytddekdgggpifmaa

namespace Go.Proofs.Ytddekdgggpifmaa
open Go.Gx
set_option maxRecDepth 100000
set_option linter.unusedSimpArgs false
set_option linter.unusedVariables false

theorem lo_bd (q : Bool) {a b c d M : Rat} (h0 : Bd a M) (h1 : Bd b M) (h2 : Bd c M) (h3 : Bd d M) : Bd (loQ q a b c d) (17 / 10 * M) ∧ Bd (hiQ q a b c d) (17 / 10 * M) := by
  obtain ⟨a1, a2⟩ := h0
  obtain ⟨b1, b2⟩ := h1
  obtain ⟨c1, c2⟩ := h2
  obtain ⟨d1, d2⟩ := h3
  cases q <;> simp only [loQ, hiQ, loR, hiR, loH, hiH] <;> exact ⟨⟨by grind_linarith, by grind_linarith⟩, ⟨by grind_linarith, by grind_linarith⟩⟩
/-- What was split is joined again. -/
theorem back_alg (q : Bool) {x0 x1 x2 x3 y0 y1 L H L' H' eL eH M : Rat} (hx0 : Bd x0 M) (hx1 : Bd x1 M) (hx2 : Bd x2 M) (hx3 : Bd x3 M) (hy0 : Bd y0 M) (hy1 : Bd y1 M) (hL0 : 0 ≤ eL) (hH0 : 0 ≤ eH)
    (hL : Bd (L - loQ q x0 x1 x2 x3) eL) (hH : Bd (H - hiQ q x0 x1 x2 x3) eH) (hL' : Bd (L' - loQ q y0 y1 x0 x1) eL) (hH' : Bd (H' - hiQ q y0 y1 x0 x1) eH) :
    Bd (jeQ q L H L' H' - x0) (eL + eH + M / 1000000) ∧ Bd (joQ q L H L' H' - x1) (eL + eH + M / 1000000) := by
  obtain ⟨a1, a2⟩ := hx0
  obtain ⟨b1, b2⟩ := hx1
  obtain ⟨c1, c2⟩ := hx2
  obtain ⟨d1, d2⟩ := hx3
  obtain ⟨e1, e2⟩ := hy0
  obtain ⟨f1, f2⟩ := hy1
  obtain ⟨g1, g2⟩ := hL
  obtain ⟨h1, h2⟩ := hH
  obtain ⟨i1, i2⟩ := hL'
  obtain ⟨j1, j2⟩ := hH'
  cases q <;> simp only [loQ, hiQ, loR, hiR, loH, hiH, jeQ, joQ] at * <;> exact ⟨⟨by grind_linarith, by grind_linarith⟩, ⟨by grind_linarith, by grind_linarith⟩⟩
/-- The energy of a split: a form of two numbers, and one of the next two. -/
def enA : Bool → Rat → Rat → Rat
  | true, x, y => (8102773 / 16777216 * x + 14034415 / 16777216 * y) * (8102773 / 16777216 * x + 14034415 / 16777216 * y) + (-4342263 / 33554432 * x + -1880255 / 8388608 * y) * (-4342263 / 33554432 * x + -1880255 / 8388608 * y)
  | false, x, y => loH x y * loH x y + hiH x y * hiH x y
def enB : Bool → Rat → Rat → Rat
  | true, x, y => (1880255 / 8388608 * x + -4342263 / 33554432 * y) * (1880255 / 8388608 * x + -4342263 / 33554432 * y) + (14034415 / 16777216 * x + -8102773 / 16777216 * y) * (14034415 / 16777216 * x + -8102773 / 16777216 * y)
  | false, _, _ => 0
theorem en_split (q : Bool) {a b c d M : Rat} (h0 : Bd a M) (h1 : Bd b M) (h2 : Bd c M) (h3 : Bd d M) : Bd (loQ q a b c d * loQ q a b c d + hiQ q a b c d * hiQ q a b c d - (enA q a b + enB q c d)) (M * M / 1000000) := by
  obtain ⟨p1, p2⟩ := bd_mul h0 h2
  obtain ⟨p3, p4⟩ := bd_mul h0 h3
  obtain ⟨p5, p6⟩ := bd_mul h1 h2
  obtain ⟨p7, p8⟩ := bd_mul h1 h3
  have hm := sq_nonneg M
  cases q <;> simp only [loQ, hiQ, loR, hiR, loH, hiH, enA, enB] <;> exact ⟨by grind_linarith, by grind_linarith⟩
theorem en_both (q : Bool) {a b M : Rat} (h0 : Bd a M) (h1 : Bd b M) : Bd (enA q a b + enB q a b - (a * a + b * b)) (M * M / 1000000) := by
  obtain ⟨p1, p2⟩ := bd_mul h0 h0
  obtain ⟨p3, p4⟩ := bd_mul h0 h1
  obtain ⟨p5, p6⟩ := bd_mul h1 h1
  have hm := sq_nonneg M
  cases q <;> simp only [loH, hiH, enA, enB] <;> exact ⟨by grind_linarith, by grind_linarith⟩
theorem sq_diff {a b e M : Rat} (h : Bd (a - b) e) (hb : Bd b (17 / 10 * M)) (he : e ≤ M / 10) (h0 : 0 ≤ e) : Bd (a * a - b * b) (4 * (M * e)) := by
  obtain ⟨h1, h2⟩ := h
  have hs : Bd (a + b) (4 * M) := ⟨by have := hb.1; grind_linarith, by have := hb.2; grind_linarith⟩
  obtain ⟨p1, p2⟩ := bd_mul (x := a - b) (y := a + b) ⟨h1, h2⟩ hs
  exact ⟨by grind_linarith, by grind_linarith⟩
/-- The energy of what is split is that of the list. -/
theorem split_energy (q : Bool) {xs : List Nat} {m : Nat} {M : Rat} (hM : okR M) (hl : xs.length = 2 * m) (hx : ∀ i, i < 2 * m → FinW .f32 (xs.getD i 0) ∧ Bd (vF xs i) M) :
    Bd (sqR (tapL xs (psQ q)) m + sqR (tapL xs (highL (psQ q))) m - sqR xs (2 * m)) ((m : Rat) * (M * M / 30000)) := by
  have hm0 := sq_nonneg M
  obtain ⟨m0, m1⟩ := id hM
  obtain ⟨u, hu⟩ : ∃ u : Nat → Rat, u = fun j => enA q (vF xs (2 * j)) (vF xs (2 * j + 1)) := ⟨_, rfl⟩
  obtain ⟨w, hw⟩ : ∃ w : Nat → Rat, w = fun j => enB q (vF xs (2 * j)) (vF xs (2 * j + 1)) := ⟨_, rfl⟩
  have e1 : sqR (tapL xs (psQ q)) m + sqR (tapL xs (highL (psQ q))) m = sumR (fun j => vF (tapL xs (psQ q)) j * vF (tapL xs (psQ q)) j + vF (tapL xs (highL (psQ q))) j * vF (tapL xs (highL (psQ q))) j) m := (sumR_add _ _ _).symm
  have e2 : sumR (fun j => u j + w ((j + 1) % m)) m = sumR (fun j => u j + w j) m := by rw [sumR_add, sumR_add, sumR_ring]
  have e3 : sqR xs (2 * m) = sumR (fun j => vF xs (2 * j) * vF xs (2 * j) + vF xs (2 * j + 1) * vF xs (2 * j + 1)) m := sumR_two _ _
  obtain ⟨a1, a2⟩ := sumR_near (n := m) (f := fun j => vF (tapL xs (psQ q)) j * vF (tapL xs (psQ q)) j + vF (tapL xs (highL (psQ q))) j * vF (tapL xs (highL (psQ q))) j) (g := fun j => u j + w ((j + 1) % m)) (c := M * M / 50000) fun j hj => by
    obtain ⟨n1, n2, n3⟩ := mod_next hj
    obtain ⟨⟨_, s1, s2⟩, ⟨_, s3, s4⟩⟩ := split_near q hM hl hx hj
    obtain ⟨b1, b2⟩ := lo_bd q (hx (2 * j) (by omega)).2 (hx (2 * j + 1) (by omega)).2 (hx (2 * ((j + 1) % m)) (by omega)).2 (hx (2 * ((j + 1) % m) + 1) (by omega)).2
    have c0 := en_split q (hx (2 * j) (by omega)).2 (hx (2 * j + 1) (by omega)).2 (hx (2 * ((j + 1) % m)) (by omega)).2 (hx (2 * ((j + 1) % m) + 1) (by omega)).2
    rw [hu, hw]
    simp only
    change loQ q _ _ _ _ - _ ≤ vF (tapL xs (psQ q)) j at s1
    change vF (tapL xs (psQ q)) j ≤ _ at s2
    change hiQ q _ _ _ _ - _ ≤ vF (tapL xs (highL (psQ q))) j at s3
    change vF (tapL xs (highL (psQ q))) j ≤ _ at s4
    generalize loQ q (vF xs (2 * j)) (vF xs (2 * j + 1)) (vF xs (2 * ((j + 1) % m))) (vF xs (2 * ((j + 1) % m) + 1)) = lo at *
    generalize hiQ q (vF xs (2 * j)) (vF xs (2 * j + 1)) (vF xs (2 * ((j + 1) % m))) (vF xs (2 * ((j + 1) % m) + 1)) = hi at *
    generalize vF (tapL xs (psQ q)) j = L at *
    generalize vF (tapL xs (highL (psQ q))) j = G at *
    obtain ⟨d1, d2⟩ := sq_diff (a := L) (b := lo) (e := 2 * M / 1000000) (M := M) ⟨by grind_linarith, by grind_linarith⟩ b1 (by grind_linarith) (by grind_linarith)
    obtain ⟨d3, d4⟩ := sq_diff (a := G) (b := hi) (e := 2 * M / 1000000) (M := M) ⟨by grind_linarith, by grind_linarith⟩ b2 (by grind_linarith) (by grind_linarith)
    obtain ⟨c1, c2⟩ := c0
    generalize enA q (vF xs (2 * j)) (vF xs (2 * j + 1)) = A at *
    generalize enB q (vF xs (2 * ((j + 1) % m))) (vF xs (2 * ((j + 1) % m) + 1)) = B at *
    constructor <;> grind_linarith
  obtain ⟨a3, a4⟩ := sumR_near (n := m) (f := fun j => u j + w j) (g := fun j => vF xs (2 * j) * vF xs (2 * j) + vF xs (2 * j + 1) * vF xs (2 * j + 1)) (c := M * M / 100000) fun j hj => by
    obtain ⟨d1, d2⟩ := en_both q (hx (2 * j) (by omega)).2 (hx (2 * j + 1) (by omega)).2
    rw [hu, hw]
    simp only
    generalize enA q (vF xs (2 * j)) (vF xs (2 * j + 1)) = A at *
    generalize enB q (vF xs (2 * j)) (vF xs (2 * j + 1)) = B at *
    constructor <;> grind_linarith
  rw [e1, e3]
  rw [e2] at a1 a2
  have em : (m : Rat) * (M * M / 50000) + (m : Rat) * (M * M / 100000) = (m : Rat) * (M * M / 30000) - (m : Rat) * (M * M / 300000) := by grind_linarith
  have ep : 0 ≤ (m : Rat) * (M * M / 300000) := Rat.mul_nonneg Rat.natCast_nonneg (by grind_linarith)
  constructor <;> grind_linarith
end Go.Proofs.Ytddekdgggpifmaa
