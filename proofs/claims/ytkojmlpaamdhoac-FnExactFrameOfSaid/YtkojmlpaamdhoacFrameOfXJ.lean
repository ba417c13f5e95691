/- The roughest place of a picture. -/
import Derived.Test.YtkojmlpaamdhoacFrameOfXI
namespace Go.Proofs.Ytkojmlpaamdhoac
open Go.Gx
set_option maxRecDepth 100000
set_option linter.unusedSimpArgs false
set_option linter.unusedVariables false

theorem coarse_eq (m n i : Nat) (l : Int) : coarseF m n l i = (decide (((i % m : Nat) : Int) < halfN m l.toNat) && decide (((i / m : Nat) : Int) < halfN n l.toNat)) := by
  unfold coarseF
  push_cast
  rfl
def sizeX (xs : List Nat) (b : Int) : Nat := sizeF (xs.getD b.toNat 0)
def bestI (m n : Nat) (l : Int) (xs : List Nat) : Nat → Int := foldI (fun i b => if (!coarseF m n l i && (decide (b < 0) || fcB .gtr .f32 (sizeF (xs.getD i 0)) (sizeX xs b))) = true then (i : Int) else b) (-1)
theorem bestI_zero (m n : Nat) (l : Int) (xs : List Nat) : bestI m n l xs 0 = -1 := rfl
theorem bestI_succ (m n : Nat) (l : Int) (xs : List Nat) (i : Nat) : bestI m n l xs (i + 1) = if (!coarseF m n l i && (decide (bestI m n l xs i < 0) || fcB .gtr .f32 (sizeF (xs.getD i 0)) (sizeX xs (bestI m n l xs i)))) = true then (i : Int) else bestI m n l xs i := rfl
theorem bestI_lt (m n : Nat) (l : Int) (xs : List Nat) : ∀ i, -1 ≤ bestI m n l xs i ∧ bestI m n l xs i < i
  | 0 => by rw [bestI_zero]; omega
  | i + 1 => by
    have := bestI_lt m n l xs i
    rw [bestI_succ]
    split <;> omega
def roughV (a c : Int) (xs : List Nat) (l : Int) : Value :=
  if (validPicF a c xs && within l 1 4 && decide (0 ≤ bestI a.toNat c.toNat l xs xs.length)) = true then
    .tuple #[.int .i64 (((bestI a.toNat c.toNat l xs xs.length).toNat % a.toNat : Nat) : Int), .int .i64 (((bestI a.toNat c.toNat l xs xs.length).toNat / a.toNat : Nat) : Int), .float .f32 (sizeX xs (bestI a.toNat c.toNat l xs xs.length)), .bool true]
  else .tuple #[.int .i64 0, .int .i64 0, .float .f32 0, .bool false]
theorem roughV_no {a c : Int} {xs : List Nat} {l : Int} (h : (validPicF a c xs && within l 1 4 && decide (0 ≤ bestI a.toNat c.toNat l xs xs.length)) = false) : roughV a c xs l = .tuple #[.int .i64 0, .int .i64 0, .float .f32 0, .bool false] := by
  unfold roughV
  rw [h]; rfl
theorem roughV_yes {m n : Nat} {xs : List Nat} {l : Int} {k : Nat} (h1 : validPicF m n xs = true) (h2 : within l 1 4 = true) (hk : bestI m n l xs xs.length = k) : roughV m n xs l = .tuple #[.int .i64 ((k % m : Nat) : Int), .int .i64 ((k / m : Nat) : Int), .float .f32 (sizeF (xs.getD k 0)), .bool true] := by
  unfold roughV
  simp only [Int.toNat_natCast]
  rw [if_pos (by rw [h1, h2, Bool.and_self, Bool.true_and]; exact decide_eq_true (by omega)), hk]
  rfl
def roughO (a c : Int) (xs : List Nat) (l : Int) : Bool := validPicF a c xs && within l 1 4 && decide (0 ≤ bestI a.toNat c.toNat l xs xs.length)
def roughX (a c : Int) (xs : List Nat) (l : Int) : Int := if roughO a c xs l = true then (((bestI a.toNat c.toNat l xs xs.length).toNat % a.toNat : Nat) : Int) else 0
def roughY (a c : Int) (xs : List Nat) (l : Int) : Int := if roughO a c xs l = true then (((bestI a.toNat c.toNat l xs xs.length).toNat / a.toNat : Nat) : Int) else 0
def roughS (a c : Int) (xs : List Nat) (l : Int) : Nat := if roughO a c xs l = true then sizeX xs (bestI a.toNat c.toNat l xs xs.length) else 0
theorem roughV_eq (a c : Int) (xs : List Nat) (l : Int) : roughV a c xs l = .tuple #[.int .i64 (roughX a c xs l), .int .i64 (roughY a c xs l), .float .f32 (roughS a c xs l), .bool (roughO a c xs l)] := by
  unfold roughX roughY roughS
  cases h : roughO a c xs l
  · exact (roughV_no h).trans rfl
  · exact (if_pos h).trans rfl
end Go.Proofs.Ytkojmlpaamdhoac
