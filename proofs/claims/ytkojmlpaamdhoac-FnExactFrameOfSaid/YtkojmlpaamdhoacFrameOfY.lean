/- Rings joined; parts of pictures. -/
import Derived.Test.YtkojmlpaamdhoacFrameOfX
namespace Go.Proofs.Ytkojmlpaamdhoac
open Go.Gx
set_option maxRecDepth 100000
set_option linter.unusedSimpArgs false
set_option linter.unusedVariables false

structure AG (H : Heap) (v : Value) (xs : List Nat) : Prop where
  rd : FS H v xs
  le : xs.length ≤ 2 ^ 40
theorem AF_g {H : Heap} {v : Value} {xs : List Nat} (a : AF H v xs) : AG H v xs := ⟨a.rd, a.le⟩
end Go.Proofs.Ytkojmlpaamdhoac
