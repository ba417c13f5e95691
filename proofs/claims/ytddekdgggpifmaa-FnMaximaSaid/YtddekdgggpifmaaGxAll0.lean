/-
  Rules of lists, for the kinds of lists that the simulation meets.
-/
import Derived.Test.YtddekdgggpifmaaGxF32
namespace Go.Gx
theorem lMapN (f : Nat → Value) (l : List Nat) : (l.map f).length = l.length := by simp
theorem lMapI (f : Int → Value) (l : List Int) : (l.map f).length = l.length := by simp
theorem lCons (a : Value) (l : List Value) : (a :: l).length = l.length + 1 := by simp
theorem lNil : ([] : List Value).length = 0 := by simp
theorem lConsN (a : Nat) (l : List Nat) : (a :: l).length = l.length + 1 := by simp
theorem lNilN : ([] : List Nat).length = 0 := by simp
theorem lApp (a b : List Value) : (a ++ b).length = a.length + b.length := by simp
theorem lAppN (a b : List Nat) : (a ++ b).length = a.length + b.length := by simp
theorem lSet (l : List Value) (i : Nat) (a : Value) : (l.set i a).length = l.length := by simp
theorem lRepl (n : Nat) (a : Value) : (List.replicate n a).length = n := by simp
theorem lReplN (n : Nat) (a : Nat) : (List.replicate n a).length = n := by simp
theorem lRange (n : Nat) : (List.range n).length = n := by simp
theorem mConsN (f : Nat → Value) (a : Nat) (l : List Nat) : (a :: l).map f = f a :: l.map f := by simp
theorem mNilN (f : Nat → Value) : ([] : List Nat).map f = [] := by simp
theorem mConsO (f : Operand → Value) (a : Operand) (l : List Operand) : (a :: l).map f = f a :: l.map f := by simp
theorem mNilO (f : Operand → Value) : ([] : List Operand).map f = [] := by simp
theorem mConsP (f : Nat × Operand → Nat × Value) (a : Nat × Operand) (l : List (Nat × Operand)) : (a :: l).map f = f a :: l.map f := by simp
theorem mNilP (f : Nat × Operand → Nat × Value) : ([] : List (Nat × Operand)).map f = [] := by simp
theorem mConsQ (f : Nat × Nat × Operand → Nat × Nat × Value) (a : Nat × Nat × Operand) (l : List (Nat × Nat × Operand)) : (a :: l).map f = f a :: l.map f := by simp
theorem mNilQ (f : Nat × Nat × Operand → Nat × Nat × Value) : ([] : List (Nat × Nat × Operand)).map f = [] := by simp
theorem sZero (a b : Value) (l : List Value) : (a :: l).set 0 b = b :: l := by simp
theorem sSucc (a b : Value) (l : List Value) (n : Nat) : (a :: l).set (n + 1) b = a :: l.set n b := by simp
theorem tSucc (a : Value) (l : List Value) (n : Nat) : (a :: l).take (n + 1) = a :: l.take n := by simp
theorem tZero (l : List Value) : l.take 0 = [] := by simp
theorem dSucc (a : Value) (l : List Value) (n : Nat) : (a :: l).drop (n + 1) = l.drop n := by simp
theorem dZero (l : List Value) : l.drop 0 = l := by simp
theorem gZero (a : Value) (l : List Value) : (a :: l)[0]? = some a := by simp
theorem gSucc (a : Value) (l : List Value) (n : Nat) : (a :: l)[n + 1]? = l[n]? := by simp
theorem bSelf (a : Bool) : (a == a) = true := by simp
theorem allCons (f : Value → Bool) (a : Value) (l : List Value) : (a :: l).all f = (f a && l.all f) := by simp
theorem allNil (f : Value → Bool) : ([] : List Value).all f = true := by simp
theorem lMapB (f : Bool → Value) (l : List Bool) : (l.map f).length = l.length := by simp
end Go.Gx
