/-
  Lists of bytes, and numbers below a bound.
-/
import Derived.Test.YtddekdgggpifmaaGxOwn
namespace Go.Gx
set_option linter.unusedSimpArgs false
set_option linter.unusedVariables false

def yv (n : Nat) : Value := .int .u8 (n : Int)
/-- A list of bytes, of any length. -/
structure YA (H : Heap) (v : Value) (bs : List Nat) : Prop where
  rd : Sl H v (bs.map yv)
  w : ∀ j, bs.getD j 0 < 256
structure YB (H : Heap) (v : Value) (bs : List Nat) : Prop where
  rd : Sl H v (bs.map yv)
  le : bs.length ≤ 2 ^ 40
  w : ∀ j, bs.getD j 0 < 256
theorem YA.ext {H H' : Heap} {v : Value} {bs : List Nat} (a : YA H v bs) (e : Ext H H') : YA H' v bs := ⟨Sl.ext a.rd e, a.w⟩
theorem YA.len {H : Heap} {v : Value} {bs : List Nat} (a : YA H v bs) : aLen v = some (.int .i64 bs.length) := by simpa using Sl.len a.rd
theorem YA.yb {H : Heap} {v : Value} {bs : List Nat} (a : YA H v bs) (h : bs.length ≤ 2 ^ 40) : YB H v bs := ⟨a.rd, h, a.w⟩
theorem YB.ya {H : Heap} {v : Value} {bs : List Nat} (a : YB H v bs) : YA H v bs := ⟨a.rd, a.w⟩
theorem YB.ext {H H' : Heap} {v : Value} {bs : List Nat} (a : YB H v bs) (e : Ext H H') : YB H' v bs := ⟨Sl.ext a.rd e, a.le, a.w⟩
theorem YB.len {H : Heap} {v : Value} {bs : List Nat} (a : YB H v bs) : aLen v = some (.int .i64 bs.length) := by simpa using Sl.len a.rd
theorem YB.ia {H : Heap} {v : Value} {bs : List Nat} (a : YB H v bs) (k : IntKind) (j : Int) (h0 : 0 ≤ j) (h1 : j < bs.length) : aIa v (.int k j) H = some (elp v j.toNat) := Sl.ia a.rd k j h0 (by simpa using h1)
theorem YB.ld {H : Heap} {v : Value} {bs : List Nat} (a : YB H v bs) (j : Nat) (h1 : j < bs.length) : aLd (elp v j) H = some (.int .u8 ((bs.getD j 0 : Nat) : Int)) := by
  rw [Sl.ld a.rd j (by simpa using h1)]
  simp [List.getD_eq_getElem?_getD, h1, yv]
end Go.Gx
