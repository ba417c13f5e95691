/-
  No cell of these rows narrows 'for every input' (looked for: loops, veiled, ifaces, maps, wideKeys, modest, calm, conditions, laid).
  DERIVED. THE GIVEN ROWS OF THIS SEAT. 12 by the template 'for every input the law returns true; each argument reads behind the call as it read before'; 0 by the template 'total and deterministic' (their statements: YtkojmlpaamdhoadTotals.lean).
  GIVEN WITH THE SEED: the statements are not yours to turn. If you find one false, say at which input.
  Laid BY PROGRAM, IN A SANDBOX (cutbox-rows.mjs): the forced cells as the released guide's own fill.sh prints them over the translation 20ae6b30ab96c31e… (all of the seat's roots in one cut). By AI agents, Wed Nov 11 2026. No macro, syntax, notation, axiom, sorry.
-/
import Derived.Test.YtkojmlpaamdhoadChecked
import GoSem.Claim
import GoSem.ClaimJoined
import GoSem.ClaimMapViews
import Derived.JoinedTies
import Derived.KernelRfl
namespace Go.Proofs.Ytkojmlpaamdhoad
/- THE CELL 'sum', in the pinned program and in every row, IS THE sha256 OF THE DUMP (.gsa) THAT YtkojmlpaamdhoadProg.lean LOADS. Nothing in Lean hashes anything: it is a label: what it is worth is what the hold of that sum in a sandbox is worth. -/
noncomputable def Try.pinned : Pinned := { name := "ytkojmlpaamdhoad", sum := "20ae6b30ab96c31e71b020f37d3e4762166125ae12a12b4397f984744f8ea786", checked := Try.checked }
namespace Rows
def none {H : Type} : Left H := { results := [], args := [] }

/-- 'laws.FnExactBandOf': WHATEVER THE INPUT: true; the input reads as it did. -/
def fnExactBandOfSpec : ChangeSpec := { name := "fnExactBandOf", fn := fun _ => fun
  | [d1, d2, d3] => { results := [.lit (.bool true)], args := [d1, d2, d3] }
  | _ => none }
def fnExactBandOfRow : OpenClaim := { program := "ytkojmlpaamdhoad", sum := "20ae6b30ab96c31e71b020f37d3e4762166125ae12a12b4397f984744f8ea786", func := "loop.example/g01317/laws.FnExactBandOf", spec := "fnExactBandOf", unfollowed := true, recurses := true, apart := false }
def FnExactBandOfSaid : Prop := fnExactBandOfRow.holds Try.pinned (OpenSpec.ofChange fnExactBandOfSpec)

/-- ITS FALSE NEIGHBOUR: 'it returns false'. Refute it at one input. -/
def fnExactBandOfWrong : ChangeSpec := { name := "fnExactBandOf", fn := fun _ => fun
  | [d1, d2, d3] => { results := [.lit (.bool false)], args := [d1, d2, d3] }
  | _ => none }
def FnExactBandOfWrongFalsely : Prop := fnExactBandOfRow.holds Try.pinned (OpenSpec.ofChange fnExactBandOfWrong)

/-- 'laws.FnExactSmallOut': WHATEVER THE INPUT: true; the input reads as it did. -/
def fnExactSmallOutSpec : ChangeSpec := { name := "fnExactSmallOut", fn := fun _ => fun
  | [d1, d2] => { results := [.lit (.bool true)], args := [d1, d2] }
  | _ => none }
def fnExactSmallOutRow : OpenClaim := { program := "ytkojmlpaamdhoad", sum := "20ae6b30ab96c31e71b020f37d3e4762166125ae12a12b4397f984744f8ea786", func := "loop.example/g01317/laws.FnExactSmallOut", spec := "fnExactSmallOut", apart := false }
def FnExactSmallOutSaid : Prop := fnExactSmallOutRow.holds Try.pinned (OpenSpec.ofChange fnExactSmallOutSpec)

/-- ITS FALSE NEIGHBOUR: 'it returns false'. Refute it at one input. -/
def fnExactSmallOutWrong : ChangeSpec := { name := "fnExactSmallOut", fn := fun _ => fun
  | [d1, d2] => { results := [.lit (.bool false)], args := [d1, d2] }
  | _ => none }
def FnExactSmallOutWrongFalsely : Prop := fnExactSmallOutRow.holds Try.pinned (OpenSpec.ofChange fnExactSmallOutWrong)

/-- 'laws.FnRings': WHATEVER THE INPUT: true; the input reads as it did. -/
def fnRingsSpec : ChangeSpec := { name := "fnRings", fn := fun _ => fun
  | [d1, d2] => { results := [.lit (.bool true)], args := [d1, d2] }
  | _ => none }
def fnRingsRow : OpenClaim := { program := "ytkojmlpaamdhoad", sum := "20ae6b30ab96c31e71b020f37d3e4762166125ae12a12b4397f984744f8ea786", func := "loop.example/g01317/laws.FnRings", spec := "fnRings", inPlace := ["math.Float64bits", "math.Float32bits"], apart := false }
def FnRingsSaid : Prop := fnRingsRow.holds Try.pinned (OpenSpec.ofChange fnRingsSpec)

/-- ITS FALSE NEIGHBOUR: 'it returns false'. Refute it at one input. -/
def fnRingsWrong : ChangeSpec := { name := "fnRings", fn := fun _ => fun
  | [d1, d2] => { results := [.lit (.bool false)], args := [d1, d2] }
  | _ => none }
def FnRingsWrongFalsely : Prop := fnRingsRow.holds Try.pinned (OpenSpec.ofChange fnRingsWrong)

/-- 'laws.FnExactGrowList': WHATEVER THE INPUT: true; the input reads as it did. -/
def fnExactGrowListSpec : ChangeSpec := { name := "fnExactGrowList", fn := fun _ => fun
  | [d1, d2] => { results := [.lit (.bool true)], args := [d1, d2] }
  | _ => none }
def fnExactGrowListRow : OpenClaim := { program := "ytkojmlpaamdhoad", sum := "20ae6b30ab96c31e71b020f37d3e4762166125ae12a12b4397f984744f8ea786", func := "loop.example/g01317/laws.FnExactGrowList", spec := "fnExactGrowList", unfollowed := true, recurses := true, apart := false }
def FnExactGrowListSaid : Prop := fnExactGrowListRow.holds Try.pinned (OpenSpec.ofChange fnExactGrowListSpec)

/-- ITS FALSE NEIGHBOUR: 'it returns false'. Refute it at one input. -/
def fnExactGrowListWrong : ChangeSpec := { name := "fnExactGrowList", fn := fun _ => fun
  | [d1, d2] => { results := [.lit (.bool false)], args := [d1, d2] }
  | _ => none }
def FnExactGrowListWrongFalsely : Prop := fnExactGrowListRow.holds Try.pinned (OpenSpec.ofChange fnExactGrowListWrong)

/-- 'laws.FnWholes': WHATEVER THE INPUT: true; the input reads as it did. -/
def fnWholesSpec : ChangeSpec := { name := "fnWholes", fn := fun _ => fun
  | [d1, d2] => { results := [.lit (.bool true)], args := [d1, d2] }
  | _ => none }
def fnWholesRow : OpenClaim := { program := "ytkojmlpaamdhoad", sum := "20ae6b30ab96c31e71b020f37d3e4762166125ae12a12b4397f984744f8ea786", func := "loop.example/g01317/laws.FnWholes", spec := "fnWholes", unfollowed := true, recurses := true, apart := false }
def FnWholesSaid : Prop := fnWholesRow.holds Try.pinned (OpenSpec.ofChange fnWholesSpec)

/-- ITS FALSE NEIGHBOUR: 'it returns false'. Refute it at one input. -/
def fnWholesWrong : ChangeSpec := { name := "fnWholes", fn := fun _ => fun
  | [d1, d2] => { results := [.lit (.bool false)], args := [d1, d2] }
  | _ => none }
def FnWholesWrongFalsely : Prop := fnWholesRow.holds Try.pinned (OpenSpec.ofChange fnWholesWrong)

/-- 'laws.FnExactLiftLevels': WHATEVER THE INPUT: true; the input reads as it did. -/
def fnExactLiftLevelsSpec : ChangeSpec := { name := "fnExactLiftLevels", fn := fun _ => fun
  | [d1, d2, d3] => { results := [.lit (.bool true)], args := [d1, d2, d3] }
  | _ => none }
def fnExactLiftLevelsRow : OpenClaim := { program := "ytkojmlpaamdhoad", sum := "20ae6b30ab96c31e71b020f37d3e4762166125ae12a12b4397f984744f8ea786", func := "loop.example/g01317/laws.FnExactLiftLevels", spec := "fnExactLiftLevels", unfollowed := true, recurses := true, apart := false }
def FnExactLiftLevelsSaid : Prop := fnExactLiftLevelsRow.holds Try.pinned (OpenSpec.ofChange fnExactLiftLevelsSpec)

/-- ITS FALSE NEIGHBOUR: 'it returns false'. Refute it at one input. -/
def fnExactLiftLevelsWrong : ChangeSpec := { name := "fnExactLiftLevels", fn := fun _ => fun
  | [d1, d2, d3] => { results := [.lit (.bool false)], args := [d1, d2, d3] }
  | _ => none }
def FnExactLiftLevelsWrongFalsely : Prop := fnExactLiftLevelsRow.holds Try.pinned (OpenSpec.ofChange fnExactLiftLevelsWrong)

/-- 'laws.FnExactLinkMaxima': WHATEVER THE INPUT: true; the input reads as it did. -/
def fnExactLinkMaximaSpec : ChangeSpec := { name := "fnExactLinkMaxima", fn := fun _ => fun
  | [d1, d2] => { results := [.lit (.bool true)], args := [d1, d2] }
  | _ => none }
def fnExactLinkMaximaRow : OpenClaim := { program := "ytkojmlpaamdhoad", sum := "20ae6b30ab96c31e71b020f37d3e4762166125ae12a12b4397f984744f8ea786", func := "loop.example/g01317/laws.FnExactLinkMaxima", spec := "fnExactLinkMaxima", apart := false }
def FnExactLinkMaximaSaid : Prop := fnExactLinkMaximaRow.holds Try.pinned (OpenSpec.ofChange fnExactLinkMaximaSpec)

/-- ITS FALSE NEIGHBOUR: 'it returns false'. Refute it at one input. -/
def fnExactLinkMaximaWrong : ChangeSpec := { name := "fnExactLinkMaxima", fn := fun _ => fun
  | [d1, d2] => { results := [.lit (.bool false)], args := [d1, d2] }
  | _ => none }
def FnExactLinkMaximaWrongFalsely : Prop := fnExactLinkMaximaRow.holds Try.pinned (OpenSpec.ofChange fnExactLinkMaximaWrong)

/-- 'laws.FnExactKeepBands': WHATEVER THE INPUT: true; the input reads as it did. -/
def fnExactKeepBandsSpec : ChangeSpec := { name := "fnExactKeepBands", fn := fun _ => fun
  | [d1, d2, d3] => { results := [.lit (.bool true)], args := [d1, d2, d3] }
  | _ => none }
def fnExactKeepBandsRow : OpenClaim := { program := "ytkojmlpaamdhoad", sum := "20ae6b30ab96c31e71b020f37d3e4762166125ae12a12b4397f984744f8ea786", func := "loop.example/g01317/laws.FnExactKeepBands", spec := "fnExactKeepBands", apart := false }
def FnExactKeepBandsSaid : Prop := fnExactKeepBandsRow.holds Try.pinned (OpenSpec.ofChange fnExactKeepBandsSpec)

/-- ITS FALSE NEIGHBOUR: 'it returns false'. Refute it at one input. -/
def fnExactKeepBandsWrong : ChangeSpec := { name := "fnExactKeepBands", fn := fun _ => fun
  | [d1, d2, d3] => { results := [.lit (.bool false)], args := [d1, d2, d3] }
  | _ => none }
def FnExactKeepBandsWrongFalsely : Prop := fnExactKeepBandsRow.holds Try.pinned (OpenSpec.ofChange fnExactKeepBandsWrong)

/-- 'laws.FnExactLiftDeep': WHATEVER THE INPUT: true; the input reads as it did. -/
def fnExactLiftDeepSpec : ChangeSpec := { name := "fnExactLiftDeep", fn := fun _ => fun
  | [d1, d2, d3] => { results := [.lit (.bool true)], args := [d1, d2, d3] }
  | _ => none }
def fnExactLiftDeepRow : OpenClaim := { program := "ytkojmlpaamdhoad", sum := "20ae6b30ab96c31e71b020f37d3e4762166125ae12a12b4397f984744f8ea786", func := "loop.example/g01317/laws.FnExactLiftDeep", spec := "fnExactLiftDeep", unfollowed := true, recurses := true, apart := false }
def FnExactLiftDeepSaid : Prop := fnExactLiftDeepRow.holds Try.pinned (OpenSpec.ofChange fnExactLiftDeepSpec)

/-- ITS FALSE NEIGHBOUR: 'it returns false'. Refute it at one input. -/
def fnExactLiftDeepWrong : ChangeSpec := { name := "fnExactLiftDeep", fn := fun _ => fun
  | [d1, d2, d3] => { results := [.lit (.bool false)], args := [d1, d2, d3] }
  | _ => none }
def FnExactLiftDeepWrongFalsely : Prop := fnExactLiftDeepRow.holds Try.pinned (OpenSpec.ofChange fnExactLiftDeepWrong)

/-- 'laws.FnCoarse': WHATEVER THE INPUT: true; the input reads as it did. -/
def fnCoarseSpec : ChangeSpec := { name := "fnCoarse", fn := fun _ => fun
  | [d1, d2] => { results := [.lit (.bool true)], args := [d1, d2] }
  | _ => none }
def fnCoarseRow : OpenClaim := { program := "ytkojmlpaamdhoad", sum := "20ae6b30ab96c31e71b020f37d3e4762166125ae12a12b4397f984744f8ea786", func := "loop.example/g01317/laws.FnCoarse", spec := "fnCoarse", unfollowed := true, recurses := true, apart := false }
def FnCoarseSaid : Prop := fnCoarseRow.holds Try.pinned (OpenSpec.ofChange fnCoarseSpec)

/-- ITS FALSE NEIGHBOUR: 'it returns false'. Refute it at one input. -/
def fnCoarseWrong : ChangeSpec := { name := "fnCoarse", fn := fun _ => fun
  | [d1, d2] => { results := [.lit (.bool false)], args := [d1, d2] }
  | _ => none }
def FnCoarseWrongFalsely : Prop := fnCoarseRow.holds Try.pinned (OpenSpec.ofChange fnCoarseWrong)

/-- 'laws.FnLifts': WHATEVER THE INPUT: true; the input reads as it did. -/
def fnLiftsSpec : ChangeSpec := { name := "fnLifts", fn := fun _ => fun
  | [d1, d2] => { results := [.lit (.bool true)], args := [d1, d2] }
  | _ => none }
def fnLiftsRow : OpenClaim := { program := "ytkojmlpaamdhoad", sum := "20ae6b30ab96c31e71b020f37d3e4762166125ae12a12b4397f984744f8ea786", func := "loop.example/g01317/laws.FnLifts", spec := "fnLifts", unfollowed := true, recurses := true, apart := false }
def FnLiftsSaid : Prop := fnLiftsRow.holds Try.pinned (OpenSpec.ofChange fnLiftsSpec)

/-- ITS FALSE NEIGHBOUR: 'it returns false'. Refute it at one input. -/
def fnLiftsWrong : ChangeSpec := { name := "fnLifts", fn := fun _ => fun
  | [d1, d2] => { results := [.lit (.bool false)], args := [d1, d2] }
  | _ => none }
def FnLiftsWrongFalsely : Prop := fnLiftsRow.holds Try.pinned (OpenSpec.ofChange fnLiftsWrong)

/-- 'laws.FnExactSplitLevels': WHATEVER THE INPUT: true; the input reads as it did. -/
def fnExactSplitLevelsSpec : ChangeSpec := { name := "fnExactSplitLevels", fn := fun _ => fun
  | [d1, d2, d3] => { results := [.lit (.bool true)], args := [d1, d2, d3] }
  | _ => none }
def fnExactSplitLevelsRow : OpenClaim := { program := "ytkojmlpaamdhoad", sum := "20ae6b30ab96c31e71b020f37d3e4762166125ae12a12b4397f984744f8ea786", func := "loop.example/g01317/laws.FnExactSplitLevels", spec := "fnExactSplitLevels", apart := false }
def FnExactSplitLevelsSaid : Prop := fnExactSplitLevelsRow.holds Try.pinned (OpenSpec.ofChange fnExactSplitLevelsSpec)

/-- ITS FALSE NEIGHBOUR: 'it returns false'. Refute it at one input. -/
def fnExactSplitLevelsWrong : ChangeSpec := { name := "fnExactSplitLevels", fn := fun _ => fun
  | [d1, d2, d3] => { results := [.lit (.bool false)], args := [d1, d2, d3] }
  | _ => none }
def FnExactSplitLevelsWrongFalsely : Prop := fnExactSplitLevelsRow.holds Try.pinned (OpenSpec.ofChange fnExactSplitLevelsWrong)

/- THE SECOND FORM. 'bulk': how many values and letters a reading holds, each counted each time it is reached (what is shared counts as often as it is met; a slice's spare places count too). A statement '..UptoSaid' is the law's where the arguments, and the package variables that the reading takes, are together of bulk at most 1048576: NARROWER than '..Said'. Prove '..Said' where nothing that the law and all that it calls make is longer than what came in: it says more and counts as full. Else prove '..UptoSaid'. A law counts once. -/
mutual
def uptoBulk {H : Type} : DataW H → Nat
  | .lit (.string bytes) => bytes.length + 1
  | .lit _ => 1
  | .nil => 1
  | .ptr d => uptoBulk d + 1
  | .slice elems spare => uptoBulkAll elems + uptoBulkAll spare + 1
  | .agg parts => uptoBulkAll parts + 1
  | .iface _ d => uptoBulk d + 1
  | .map entries => uptoBulkEntries entries + 1
  | .held _ => 1
def uptoBulkAll {H : Type} : List (DataW H) → Nat
  | [] => 0
  | d :: r => uptoBulk d + uptoBulkAll r
def uptoBulkEntries {H : Type} : List (Lit × DataW H) → Nat
  | [] => 0
  | x :: r => uptoBulkEntry x + uptoBulkEntries r
def uptoBulkEntry {H : Type} : Lit × DataW H → Nat
  | (.string bytes, d) => bytes.length + uptoBulk d + 1
  | (_, d) => uptoBulk d + 1
 end
def uptoSmall : (H : Type) → List (DataW H) → Bool := fun _ ds => decide (uptoBulkAll ds ≤ 1048576)
def OpenSpec.upto (s : _root_.Go.ChangeSpec) : _root_.Go.OpenSpec := { _root_.Go.OpenSpec.ofChange s with cond := some uptoSmall }

/-- 'laws.FnExactBandOf', WHERE WHAT IT READS IS OF BULK AT MOST 1048576: true; the input reads as it did. -/
def fnExactBandOfUptoRow : OpenClaim := { program := "ytkojmlpaamdhoad", sum := "20ae6b30ab96c31e71b020f37d3e4762166125ae12a12b4397f984744f8ea786", func := "loop.example/g01317/laws.FnExactBandOf", spec := "fnExactBandOf", unfollowed := true, recurses := true, apart := false, narrowed := true }
def FnExactBandOfUptoSaid : Prop := fnExactBandOfUptoRow.holds Try.pinned (OpenSpec.upto fnExactBandOfSpec)

/-- 'laws.FnExactSmallOut', WHERE WHAT IT READS IS OF BULK AT MOST 1048576: true; the input reads as it did. -/
def fnExactSmallOutUptoRow : OpenClaim := { program := "ytkojmlpaamdhoad", sum := "20ae6b30ab96c31e71b020f37d3e4762166125ae12a12b4397f984744f8ea786", func := "loop.example/g01317/laws.FnExactSmallOut", spec := "fnExactSmallOut", apart := false, narrowed := true }
def FnExactSmallOutUptoSaid : Prop := fnExactSmallOutUptoRow.holds Try.pinned (OpenSpec.upto fnExactSmallOutSpec)

/-- 'laws.FnRings', WHERE WHAT IT READS IS OF BULK AT MOST 1048576: true; the input reads as it did. -/
def fnRingsUptoRow : OpenClaim := { program := "ytkojmlpaamdhoad", sum := "20ae6b30ab96c31e71b020f37d3e4762166125ae12a12b4397f984744f8ea786", func := "loop.example/g01317/laws.FnRings", spec := "fnRings", inPlace := ["math.Float64bits", "math.Float32bits"], apart := false, narrowed := true }
def FnRingsUptoSaid : Prop := fnRingsUptoRow.holds Try.pinned (OpenSpec.upto fnRingsSpec)

/-- 'laws.FnExactGrowList', WHERE WHAT IT READS IS OF BULK AT MOST 1048576: true; the input reads as it did. -/
def fnExactGrowListUptoRow : OpenClaim := { program := "ytkojmlpaamdhoad", sum := "20ae6b30ab96c31e71b020f37d3e4762166125ae12a12b4397f984744f8ea786", func := "loop.example/g01317/laws.FnExactGrowList", spec := "fnExactGrowList", unfollowed := true, recurses := true, apart := false, narrowed := true }
def FnExactGrowListUptoSaid : Prop := fnExactGrowListUptoRow.holds Try.pinned (OpenSpec.upto fnExactGrowListSpec)

/-- 'laws.FnWholes', WHERE WHAT IT READS IS OF BULK AT MOST 1048576: true; the input reads as it did. -/
def fnWholesUptoRow : OpenClaim := { program := "ytkojmlpaamdhoad", sum := "20ae6b30ab96c31e71b020f37d3e4762166125ae12a12b4397f984744f8ea786", func := "loop.example/g01317/laws.FnWholes", spec := "fnWholes", unfollowed := true, recurses := true, apart := false, narrowed := true }
def FnWholesUptoSaid : Prop := fnWholesUptoRow.holds Try.pinned (OpenSpec.upto fnWholesSpec)

/-- 'laws.FnExactLiftLevels', WHERE WHAT IT READS IS OF BULK AT MOST 1048576: true; the input reads as it did. -/
def fnExactLiftLevelsUptoRow : OpenClaim := { program := "ytkojmlpaamdhoad", sum := "20ae6b30ab96c31e71b020f37d3e4762166125ae12a12b4397f984744f8ea786", func := "loop.example/g01317/laws.FnExactLiftLevels", spec := "fnExactLiftLevels", unfollowed := true, recurses := true, apart := false, narrowed := true }
def FnExactLiftLevelsUptoSaid : Prop := fnExactLiftLevelsUptoRow.holds Try.pinned (OpenSpec.upto fnExactLiftLevelsSpec)

/-- 'laws.FnExactLinkMaxima', WHERE WHAT IT READS IS OF BULK AT MOST 1048576: true; the input reads as it did. -/
def fnExactLinkMaximaUptoRow : OpenClaim := { program := "ytkojmlpaamdhoad", sum := "20ae6b30ab96c31e71b020f37d3e4762166125ae12a12b4397f984744f8ea786", func := "loop.example/g01317/laws.FnExactLinkMaxima", spec := "fnExactLinkMaxima", apart := false, narrowed := true }
def FnExactLinkMaximaUptoSaid : Prop := fnExactLinkMaximaUptoRow.holds Try.pinned (OpenSpec.upto fnExactLinkMaximaSpec)

/-- 'laws.FnExactKeepBands', WHERE WHAT IT READS IS OF BULK AT MOST 1048576: true; the input reads as it did. -/
def fnExactKeepBandsUptoRow : OpenClaim := { program := "ytkojmlpaamdhoad", sum := "20ae6b30ab96c31e71b020f37d3e4762166125ae12a12b4397f984744f8ea786", func := "loop.example/g01317/laws.FnExactKeepBands", spec := "fnExactKeepBands", apart := false, narrowed := true }
def FnExactKeepBandsUptoSaid : Prop := fnExactKeepBandsUptoRow.holds Try.pinned (OpenSpec.upto fnExactKeepBandsSpec)

/-- 'laws.FnExactLiftDeep', WHERE WHAT IT READS IS OF BULK AT MOST 1048576: true; the input reads as it did. -/
def fnExactLiftDeepUptoRow : OpenClaim := { program := "ytkojmlpaamdhoad", sum := "20ae6b30ab96c31e71b020f37d3e4762166125ae12a12b4397f984744f8ea786", func := "loop.example/g01317/laws.FnExactLiftDeep", spec := "fnExactLiftDeep", unfollowed := true, recurses := true, apart := false, narrowed := true }
def FnExactLiftDeepUptoSaid : Prop := fnExactLiftDeepUptoRow.holds Try.pinned (OpenSpec.upto fnExactLiftDeepSpec)

/-- 'laws.FnCoarse', WHERE WHAT IT READS IS OF BULK AT MOST 1048576: true; the input reads as it did. -/
def fnCoarseUptoRow : OpenClaim := { program := "ytkojmlpaamdhoad", sum := "20ae6b30ab96c31e71b020f37d3e4762166125ae12a12b4397f984744f8ea786", func := "loop.example/g01317/laws.FnCoarse", spec := "fnCoarse", unfollowed := true, recurses := true, apart := false, narrowed := true }
def FnCoarseUptoSaid : Prop := fnCoarseUptoRow.holds Try.pinned (OpenSpec.upto fnCoarseSpec)

/-- 'laws.FnLifts', WHERE WHAT IT READS IS OF BULK AT MOST 1048576: true; the input reads as it did. -/
def fnLiftsUptoRow : OpenClaim := { program := "ytkojmlpaamdhoad", sum := "20ae6b30ab96c31e71b020f37d3e4762166125ae12a12b4397f984744f8ea786", func := "loop.example/g01317/laws.FnLifts", spec := "fnLifts", unfollowed := true, recurses := true, apart := false, narrowed := true }
def FnLiftsUptoSaid : Prop := fnLiftsUptoRow.holds Try.pinned (OpenSpec.upto fnLiftsSpec)

/-- 'laws.FnExactSplitLevels', WHERE WHAT IT READS IS OF BULK AT MOST 1048576: true; the input reads as it did. -/
def fnExactSplitLevelsUptoRow : OpenClaim := { program := "ytkojmlpaamdhoad", sum := "20ae6b30ab96c31e71b020f37d3e4762166125ae12a12b4397f984744f8ea786", func := "loop.example/g01317/laws.FnExactSplitLevels", spec := "fnExactSplitLevels", apart := false, narrowed := true }
def FnExactSplitLevelsUptoSaid : Prop := fnExactSplitLevelsUptoRow.holds Try.pinned (OpenSpec.upto fnExactSplitLevelsSpec)

end Rows
end Go.Proofs.Ytkojmlpaamdhoad
