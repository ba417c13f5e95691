/-
  No cell of these rows narrows 'for every input' (looked for: loops, veiled, ifaces, maps, wideKeys, modest, calm, conditions, laid).
  DERIVED. THE GIVEN ROWS OF THIS SEAT. 6 by the template 'for every input the law returns true; each argument reads behind the call as it read before'; 0 by the template 'total and deterministic' (their statements: YtddekdgggpifmaaTotals.lean).
  GIVEN WITH THE SEED: the statements are not yours to turn. If you find one false, say at which input.
  Laid BY PROGRAM, IN A SANDBOX (cutbox-rows.mjs): the forced cells as the released guide's own fill.sh prints them over the translation 6df6ff1774ec2cfb… (all of the seat's roots in one cut). By AI agents, Wed Nov 11 2026. No macro, syntax, notation, axiom, sorry.
-/
import Derived.Test.YtddekdgggpifmaaChecked
import GoSem.Claim
import GoSem.ClaimJoined
import GoSem.ClaimMapViews
import Derived.JoinedTies
import Derived.KernelRfl
namespace Go.Proofs.Ytddekdgggpifmaa
/- THE CELL 'sum', in the pinned program and in every row, IS THE sha256 OF THE DUMP (.gsa) THAT YtddekdgggpifmaaProg.lean LOADS. Nothing in Lean hashes anything: it is a label: what it is worth is what the hold of that sum in a sandbox is worth. -/
noncomputable def Try.pinned : Pinned := { name := "ytddekdgggpifmaa", sum := "6df6ff1774ec2cfbba8f9300a58e74ef2747ab80cc5493e8450d531e992e82d4", checked := Try.checked }
namespace Rows
def none {H : Type} : Left H := { results := [], args := [] }

/-- 'laws.FnBandTrees': WHATEVER THE INPUT: true; the input reads as it did. -/
def fnBandTreesSpec : ChangeSpec := { name := "fnBandTrees", fn := fun _ => fun
  | [d1, d2] => { results := [.lit (.bool true)], args := [d1, d2] }
  | _ => none }
def fnBandTreesRow : OpenClaim := { program := "ytddekdgggpifmaa", sum := "6df6ff1774ec2cfbba8f9300a58e74ef2747ab80cc5493e8450d531e992e82d4", func := "loop.example/g01317/laws.FnBandTrees", spec := "fnBandTrees", inPlace := ["math.Float64bits"], apart := false }
def FnBandTreesSaid : Prop := fnBandTreesRow.holds Try.pinned (OpenSpec.ofChange fnBandTreesSpec)

/-- ITS FALSE NEIGHBOUR: 'it returns false'. Refute it at one input. -/
def fnBandTreesWrong : ChangeSpec := { name := "fnBandTrees", fn := fun _ => fun
  | [d1, d2] => { results := [.lit (.bool false)], args := [d1, d2] }
  | _ => none }
def FnBandTreesWrongFalsely : Prop := fnBandTreesRow.holds Try.pinned (OpenSpec.ofChange fnBandTreesWrong)

/-- 'laws.FnRings': WHATEVER THE INPUT: true; the input reads as it did. -/
def fnRingsSpec : ChangeSpec := { name := "fnRings", fn := fun _ => fun
  | [d1, d2] => { results := [.lit (.bool true)], args := [d1, d2] }
  | _ => none }
def fnRingsRow : OpenClaim := { program := "ytddekdgggpifmaa", sum := "6df6ff1774ec2cfbba8f9300a58e74ef2747ab80cc5493e8450d531e992e82d4", func := "loop.example/g01317/laws.FnRings", spec := "fnRings", inPlace := ["math.Float64bits", "math.Float32bits"], apart := false }
def FnRingsSaid : Prop := fnRingsRow.holds Try.pinned (OpenSpec.ofChange fnRingsSpec)

/-- ITS FALSE NEIGHBOUR: 'it returns false'. Refute it at one input. -/
def fnRingsWrong : ChangeSpec := { name := "fnRings", fn := fun _ => fun
  | [d1, d2] => { results := [.lit (.bool false)], args := [d1, d2] }
  | _ => none }
def FnRingsWrongFalsely : Prop := fnRingsRow.holds Try.pinned (OpenSpec.ofChange fnRingsWrong)

/-- 'laws.FnWholes': WHATEVER THE INPUT: true; the input reads as it did. -/
def fnWholesSpec : ChangeSpec := { name := "fnWholes", fn := fun _ => fun
  | [d1, d2] => { results := [.lit (.bool true)], args := [d1, d2] }
  | _ => none }
def fnWholesRow : OpenClaim := { program := "ytddekdgggpifmaa", sum := "6df6ff1774ec2cfbba8f9300a58e74ef2747ab80cc5493e8450d531e992e82d4", func := "loop.example/g01317/laws.FnWholes", spec := "fnWholes", unfollowed := true, recurses := true, apart := false }
def FnWholesSaid : Prop := fnWholesRow.holds Try.pinned (OpenSpec.ofChange fnWholesSpec)

/-- ITS FALSE NEIGHBOUR: 'it returns false'. Refute it at one input. -/
def fnWholesWrong : ChangeSpec := { name := "fnWholes", fn := fun _ => fun
  | [d1, d2] => { results := [.lit (.bool false)], args := [d1, d2] }
  | _ => none }
def FnWholesWrongFalsely : Prop := fnWholesRow.holds Try.pinned (OpenSpec.ofChange fnWholesWrong)

/-- 'laws.FnCoarse': WHATEVER THE INPUT: true; the input reads as it did. -/
def fnCoarseSpec : ChangeSpec := { name := "fnCoarse", fn := fun _ => fun
  | [d1, d2] => { results := [.lit (.bool true)], args := [d1, d2] }
  | _ => none }
def fnCoarseRow : OpenClaim := { program := "ytddekdgggpifmaa", sum := "6df6ff1774ec2cfbba8f9300a58e74ef2747ab80cc5493e8450d531e992e82d4", func := "loop.example/g01317/laws.FnCoarse", spec := "fnCoarse", unfollowed := true, recurses := true, apart := false }
def FnCoarseSaid : Prop := fnCoarseRow.holds Try.pinned (OpenSpec.ofChange fnCoarseSpec)

/-- ITS FALSE NEIGHBOUR: 'it returns false'. Refute it at one input. -/
def fnCoarseWrong : ChangeSpec := { name := "fnCoarse", fn := fun _ => fun
  | [d1, d2] => { results := [.lit (.bool false)], args := [d1, d2] }
  | _ => none }
def FnCoarseWrongFalsely : Prop := fnCoarseRow.holds Try.pinned (OpenSpec.ofChange fnCoarseWrong)

/-- 'laws.FnLifts': WHATEVER THE INPUT: true; the input reads as it did. -/
def fnLiftsSpec : ChangeSpec := { name := "fnLifts", fn := fun _ => fun
  | [d1, d2] => { results := [.lit (.bool true)], args := [d1, d2] }
  | _ => none }
def fnLiftsRow : OpenClaim := { program := "ytddekdgggpifmaa", sum := "6df6ff1774ec2cfbba8f9300a58e74ef2747ab80cc5493e8450d531e992e82d4", func := "loop.example/g01317/laws.FnLifts", spec := "fnLifts", unfollowed := true, recurses := true, apart := false }
def FnLiftsSaid : Prop := fnLiftsRow.holds Try.pinned (OpenSpec.ofChange fnLiftsSpec)

/-- ITS FALSE NEIGHBOUR: 'it returns false'. Refute it at one input. -/
def fnLiftsWrong : ChangeSpec := { name := "fnLifts", fn := fun _ => fun
  | [d1, d2] => { results := [.lit (.bool false)], args := [d1, d2] }
  | _ => none }
def FnLiftsWrongFalsely : Prop := fnLiftsRow.holds Try.pinned (OpenSpec.ofChange fnLiftsWrong)

/-- 'laws.FnMaxima': WHATEVER THE INPUT: true; the input reads as it did. -/
def fnMaximaSpec : ChangeSpec := { name := "fnMaxima", fn := fun _ => fun
  | [d1, d2] => { results := [.lit (.bool true)], args := [d1, d2] }
  | _ => none }
def fnMaximaRow : OpenClaim := { program := "ytddekdgggpifmaa", sum := "6df6ff1774ec2cfbba8f9300a58e74ef2747ab80cc5493e8450d531e992e82d4", func := "loop.example/g01317/laws.FnMaxima", spec := "fnMaxima", inPlace := ["math.Float64frombits", "math.Float64bits"], apart := false }
def FnMaximaSaid : Prop := fnMaximaRow.holds Try.pinned (OpenSpec.ofChange fnMaximaSpec)

/-- ITS FALSE NEIGHBOUR: 'it returns false'. Refute it at one input. -/
def fnMaximaWrong : ChangeSpec := { name := "fnMaxima", fn := fun _ => fun
  | [d1, d2] => { results := [.lit (.bool false)], args := [d1, d2] }
  | _ => none }
def FnMaximaWrongFalsely : Prop := fnMaximaRow.holds Try.pinned (OpenSpec.ofChange fnMaximaWrong)

/- THE SECOND FORM. 'bulk': how many values and letters a reading holds, each counted each time it is reached (what is shared counts as often as it is met; a slice's spare places count too). A statement '..UptoSaid' is the law's where the arguments, and the package variables that the reading takes, are together of bulk at most 1048576: NARROWER than '..Said'. Prove '..Said' where nothing that the law and all that it calls make is longer than what came in: it says more and counts as full. Else prove '..UptoSaid'. A law counts once. -/
mutual
def uptoBulk {H : Type} : DataW H → Nat
  | .lit (.string bytes) => bytes.length + 1
  | .lit _ => 1
  | .nil => 1
  | .ptr d => uptoBulk d + 1
  | .slice elems spare => uptoBulkAll elems + uptoBulkAll spare + 1
  | .agg parts => uptoBulkAll parts + 1
  | .iface _ d => uptoBulk d + 1
  | .map entries => uptoBulkEntries entries + 1
  | .held _ => 1
def uptoBulkAll {H : Type} : List (DataW H) → Nat
  | [] => 0
  | d :: r => uptoBulk d + uptoBulkAll r
def uptoBulkEntries {H : Type} : List (Lit × DataW H) → Nat
  | [] => 0
  | x :: r => uptoBulkEntry x + uptoBulkEntries r
def uptoBulkEntry {H : Type} : Lit × DataW H → Nat
  | (.string bytes, d) => bytes.length + uptoBulk d + 1
  | (_, d) => uptoBulk d + 1
 end
def uptoSmall : (H : Type) → List (DataW H) → Bool := fun _ ds => decide (uptoBulkAll ds ≤ 1048576)
def OpenSpec.upto (s : _root_.Go.ChangeSpec) : _root_.Go.OpenSpec := { _root_.Go.OpenSpec.ofChange s with cond := some uptoSmall }

/-- 'laws.FnBandTrees', WHERE WHAT IT READS IS OF BULK AT MOST 1048576: true; the input reads as it did. -/
def fnBandTreesUptoRow : OpenClaim := { program := "ytddekdgggpifmaa", sum := "6df6ff1774ec2cfbba8f9300a58e74ef2747ab80cc5493e8450d531e992e82d4", func := "loop.example/g01317/laws.FnBandTrees", spec := "fnBandTrees", inPlace := ["math.Float64bits"], apart := false, narrowed := true }
def FnBandTreesUptoSaid : Prop := fnBandTreesUptoRow.holds Try.pinned (OpenSpec.upto fnBandTreesSpec)

/-- 'laws.FnRings', WHERE WHAT IT READS IS OF BULK AT MOST 1048576: true; the input reads as it did. -/
def fnRingsUptoRow : OpenClaim := { program := "ytddekdgggpifmaa", sum := "6df6ff1774ec2cfbba8f9300a58e74ef2747ab80cc5493e8450d531e992e82d4", func := "loop.example/g01317/laws.FnRings", spec := "fnRings", inPlace := ["math.Float64bits", "math.Float32bits"], apart := false, narrowed := true }
def FnRingsUptoSaid : Prop := fnRingsUptoRow.holds Try.pinned (OpenSpec.upto fnRingsSpec)

/-- 'laws.FnWholes', WHERE WHAT IT READS IS OF BULK AT MOST 1048576: true; the input reads as it did. -/
def fnWholesUptoRow : OpenClaim := { program := "ytddekdgggpifmaa", sum := "6df6ff1774ec2cfbba8f9300a58e74ef2747ab80cc5493e8450d531e992e82d4", func := "loop.example/g01317/laws.FnWholes", spec := "fnWholes", unfollowed := true, recurses := true, apart := false, narrowed := true }
def FnWholesUptoSaid : Prop := fnWholesUptoRow.holds Try.pinned (OpenSpec.upto fnWholesSpec)

/-- 'laws.FnCoarse', WHERE WHAT IT READS IS OF BULK AT MOST 1048576: true; the input reads as it did. -/
def fnCoarseUptoRow : OpenClaim := { program := "ytddekdgggpifmaa", sum := "6df6ff1774ec2cfbba8f9300a58e74ef2747ab80cc5493e8450d531e992e82d4", func := "loop.example/g01317/laws.FnCoarse", spec := "fnCoarse", unfollowed := true, recurses := true, apart := false, narrowed := true }
def FnCoarseUptoSaid : Prop := fnCoarseUptoRow.holds Try.pinned (OpenSpec.upto fnCoarseSpec)

/-- 'laws.FnLifts', WHERE WHAT IT READS IS OF BULK AT MOST 1048576: true; the input reads as it did. -/
def fnLiftsUptoRow : OpenClaim := { program := "ytddekdgggpifmaa", sum := "6df6ff1774ec2cfbba8f9300a58e74ef2747ab80cc5493e8450d531e992e82d4", func := "loop.example/g01317/laws.FnLifts", spec := "fnLifts", unfollowed := true, recurses := true, apart := false, narrowed := true }
def FnLiftsUptoSaid : Prop := fnLiftsUptoRow.holds Try.pinned (OpenSpec.upto fnLiftsSpec)

/-- 'laws.FnMaxima', WHERE WHAT IT READS IS OF BULK AT MOST 1048576: true; the input reads as it did. -/
def fnMaximaUptoRow : OpenClaim := { program := "ytddekdgggpifmaa", sum := "6df6ff1774ec2cfbba8f9300a58e74ef2747ab80cc5493e8450d531e992e82d4", func := "loop.example/g01317/laws.FnMaxima", spec := "fnMaxima", inPlace := ["math.Float64frombits", "math.Float64bits"], apart := false, narrowed := true }
def FnMaximaUptoSaid : Prop := fnMaximaUptoRow.holds Try.pinned (OpenSpec.upto fnMaximaSpec)

end Rows
end Go.Proofs.Ytddekdgggpifmaa
