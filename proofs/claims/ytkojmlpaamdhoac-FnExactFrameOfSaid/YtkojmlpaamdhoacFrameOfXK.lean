/- Small values put out. -/
import Derived.Test.YtkojmlpaamdhoacFrameOfXJ
namespace Go.Proofs.Ytkojmlpaamdhoac
open Go.Gx
set_option maxRecDepth 100000
set_option linter.unusedSimpArgs false
set_option linter.unusedVariables false

def outQ (b : Bool) (t x : Nat) : Bool := b && fcB .leq .f32 (sizeF x) t
def outX (b : Bool) (t x : Nat) : Nat := if outQ b t x = true then 0 else x
def cntK (b : Bool) (t : Nat) (xs : List Nat) : Nat → Nat := foldI (fun k c => if outQ b t (xs.getD k 0) = true then c + 1 else c) 0
theorem cntK_succ (b : Bool) (t : Nat) (xs : List Nat) (i : Nat) : cntK b t xs (i + 1) = if outQ b t (xs.getD i 0) = true then cntK b t xs i + 1 else cntK b t xs i := rfl
theorem cntK_le (b : Bool) (t : Nat) (xs : List Nat) : ∀ i, cntK b t xs i ≤ i
  | 0 => Nat.le_refl _
  | i + 1 => by
    have := cntK_le b t xs i
    rw [cntK_succ]
    split <;> omega
theorem cntK_no (t : Nat) (xs : List Nat) : ∀ i, cntK false t xs i = 0
  | 0 => rfl
  | i + 1 => by rw [cntK_succ, cntK_no t xs i]; rfl
def bandS (t : Nat) (xss : List (List Nat)) (k : Nat) : List Nat := (xss.getD k []).map (outX (decide (k + 1 < xss.length)) t)
def outS (t : Nat) (xss : List (List Nat)) (j : Nat) : List (List Nat) := (List.range j).map (bandS t xss)
def cntS (t : Nat) (xss : List (List Nat)) : Nat → Nat := foldI (fun k c => c + cntK (decide (k + 1 < xss.length)) t (xss.getD k []) (xss.getD k []).length) 0
theorem cntS_succ (t : Nat) (xss : List (List Nat)) (j : Nat) : cntS t xss (j + 1) = cntS t xss j + cntK (decide (j + 1 < xss.length)) t (xss.getD j []) (xss.getD j []).length := rfl
theorem outS_succ (t : Nat) (xss : List (List Nat)) (j : Nat) : outS t xss (j + 1) = outS t xss j ++ [bandS t xss j] := by simp [outS, List.range_succ]
theorem outS_len (t : Nat) (xss : List (List Nat)) (j : Nat) : (outS t xss j).length = j := by simp [outS]
theorem bandS_len (t : Nat) (xss : List (List Nat)) (k : Nat) : (bandS t xss k).length = (xss.getD k []).length := by simp [bandS]
theorem cntS_le (t : Nat) (xss : List (List Nat)) : ∀ j, j ≤ xss.length → cntS t xss j ≤ offN xss j
  | 0, _ => Nat.zero_le _
  | j + 1, h => by
    have h1 := cntS_le t xss j (by omega)
    have h2 := cntK_le (decide (j + 1 < xss.length)) t (xss.getD j []) (xss.getD j []).length
    rw [cntS_succ, offN_succ (by omega)]
    omega
theorem outS_tot (t : Nat) (xss : List (List Nat)) : totL (outS t xss xss.length) = totL xss := by
  have h : (outS t xss xss.length).map List.length = xss.map List.length := by
    refine list_ext_getD 0 (by simp [outS_len]) fun j hj => ?_
    have hj' : j < xss.length := by simpa [outS_len] using hj
    simp [outS, bandS, List.getD_eq_getElem?_getD, hj']
  unfold totL offN
  rw [outS_len, List.take_of_length_le (by rw [outS_len]; exact Nat.le_refl _), List.take_of_length_le (Nat.le_refl _), h]
theorem set_getD_self {xs : List Nat} {i : Nat} (h : i < xs.length) : xs.set i (xs.getD i 0) = xs := by
  have e : xs.getD i 0 = xs[i] := by simp [List.getD_eq_getElem?_getD, h]
  rw [e, List.set_getElem_self]
def SmallR (H : Heap) (ok : Bool) (c : Nat) (xss : List (List Nat)) (sty ty : TypeId) (r : Value) (H' : Heap) : Prop :=
  Ext H H' ∧ ∃ v, r = .tuple #[v, .int .i64 (selI ok c), .bool ok] ∧ OwS H.n H'.n H' sty ty v ((selL ok xss).map (List.map fv)) ∧ totL (selL ok xss) ≤ 2 ^ 40
theorem SmallR.no {H H' : Heap} {ok : Bool} {c : Nat} {xss : List (List Nat)} {sty ty : TypeId} (hk : ok = false) (e : Ext H H') : SmallR H ok c xss sty ty (.tuple #[.slice none 0 0, .int .i64 0, .bool false]) H' := by
  subst hk; exact ⟨e, _, rfl, .nil, by simp [selL, totL, offN]⟩
theorem SmallR.yes {H H' : Heap} {ok : Bool} {c : Nat} {xss : List (List Nat)} {sty ty : TypeId} {v : Value} (hk : ok = true) (e : Ext H H') (o : OwS H.n H'.n H' sty ty v (xss.map (List.map fv))) (hl : totL xss ≤ 2 ^ 40) : SmallR H ok c xss sty ty (.tuple #[v, .int .i64 c, .bool true]) H' := by
  subst hk; exact ⟨e, v, rfl, o, hl⟩
end Go.Proofs.Ytkojmlpaamdhoac
