/-
  No cell of these rows narrows 'for every input' (looked for: loops, veiled, ifaces, maps, wideKeys, modest, calm, conditions, laid).
  DERIVED. THE GIVEN ROWS OF THIS SEAT. 9 by the template 'for every input the law returns true; each argument reads behind the call as it read before'; 0 by the template 'total and deterministic' (their statements: YtkojmlpaamdhoaeTotals.lean).
  GIVEN WITH THE SEED: the statements are not yours to turn. If you find one false, say at which input.
  Laid BY PROGRAM, IN A SANDBOX (cutbox-rows.mjs): the forced cells as the released guide's own fill.sh prints them over the translation 63d584c1f8ed3477… (all of the seat's roots in one cut). By AI agents, Wed Nov 11 2026. No macro, syntax, notation, axiom, sorry.
-/
import Derived.Test.YtkojmlpaamdhoaeChecked
import GoSem.Claim
import GoSem.ClaimJoined
import GoSem.ClaimMapViews
import Derived.JoinedTies
import Derived.KernelRfl
namespace Go.Proofs.Ytkojmlpaamdhoae
/- THE CELL 'sum', in the pinned program and in every row, IS THE sha256 OF THE DUMP (.gsa) THAT YtkojmlpaamdhoaeProg.lean LOADS. Nothing in Lean hashes anything: it is a label: what it is worth is what the hold of that sum in a sandbox is worth. -/
noncomputable def Try.pinned : Pinned := { name := "ytkojmlpaamdhoae", sum := "63d584c1f8ed34773faf69880f75fa5bfc01627b009fe87dfaea6a6987362d37", checked := Try.checked }
namespace Rows
def none {H : Type} : Left H := { results := [], args := [] }

/-- 'laws.FnExactDropLevels': WHATEVER THE INPUT: true; the input reads as it did. -/
def fnExactDropLevelsSpec : ChangeSpec := { name := "fnExactDropLevels", fn := fun _ => fun
  | [d1, d2] => { results := [.lit (.bool true)], args := [d1, d2] }
  | _ => none }
def fnExactDropLevelsRow : OpenClaim := { program := "ytkojmlpaamdhoae", sum := "63d584c1f8ed34773faf69880f75fa5bfc01627b009fe87dfaea6a6987362d37", func := "loop.example/g01317/laws.FnExactDropLevels", spec := "fnExactDropLevels", unfollowed := true, recurses := true, apart := false }
def FnExactDropLevelsSaid : Prop := fnExactDropLevelsRow.holds Try.pinned (OpenSpec.ofChange fnExactDropLevelsSpec)

/-- ITS FALSE NEIGHBOUR: 'it returns false'. Refute it at one input. -/
def fnExactDropLevelsWrong : ChangeSpec := { name := "fnExactDropLevels", fn := fun _ => fun
  | [d1, d2] => { results := [.lit (.bool false)], args := [d1, d2] }
  | _ => none }
def FnExactDropLevelsWrongFalsely : Prop := fnExactDropLevelsRow.holds Try.pinned (OpenSpec.ofChange fnExactDropLevelsWrong)

/-- 'laws.FnExactRoughnessOf': WHATEVER THE INPUT: true; the input reads as it did. -/
def fnExactRoughnessOfSpec : ChangeSpec := { name := "fnExactRoughnessOf", fn := fun _ => fun
  | [d] => { results := [.lit (.bool true)], args := [d] }
  | _ => none }
def fnExactRoughnessOfRow : OpenClaim := { program := "ytkojmlpaamdhoae", sum := "63d584c1f8ed34773faf69880f75fa5bfc01627b009fe87dfaea6a6987362d37", func := "loop.example/g01317/laws.FnExactRoughnessOf", spec := "fnExactRoughnessOf", inPlace := ["math.Float64frombits", "math.Float64bits"], apart := false }
def FnExactRoughnessOfSaid : Prop := fnExactRoughnessOfRow.holds Try.pinned (OpenSpec.ofChange fnExactRoughnessOfSpec)

/-- ITS FALSE NEIGHBOUR: 'it returns false'. Refute it at one input. -/
def fnExactRoughnessOfWrong : ChangeSpec := { name := "fnExactRoughnessOf", fn := fun _ => fun
  | [d] => { results := [.lit (.bool false)], args := [d] }
  | _ => none }
def FnExactRoughnessOfWrongFalsely : Prop := fnExactRoughnessOfRow.holds Try.pinned (OpenSpec.ofChange fnExactRoughnessOfWrong)

/-- 'laws.FnExactJoinLevels': WHATEVER THE INPUT: true; the input reads as it did. -/
def fnExactJoinLevelsSpec : ChangeSpec := { name := "fnExactJoinLevels", fn := fun _ => fun
  | [d1, d2] => { results := [.lit (.bool true)], args := [d1, d2] }
  | _ => none }
def fnExactJoinLevelsRow : OpenClaim := { program := "ytkojmlpaamdhoae", sum := "63d584c1f8ed34773faf69880f75fa5bfc01627b009fe87dfaea6a6987362d37", func := "loop.example/g01317/laws.FnExactJoinLevels", spec := "fnExactJoinLevels", apart := false }
def FnExactJoinLevelsSaid : Prop := fnExactJoinLevelsRow.holds Try.pinned (OpenSpec.ofChange fnExactJoinLevelsSpec)

/-- ITS FALSE NEIGHBOUR: 'it returns false'. Refute it at one input. -/
def fnExactJoinLevelsWrong : ChangeSpec := { name := "fnExactJoinLevels", fn := fun _ => fun
  | [d1, d2] => { results := [.lit (.bool false)], args := [d1, d2] }
  | _ => none }
def FnExactJoinLevelsWrongFalsely : Prop := fnExactJoinLevelsRow.holds Try.pinned (OpenSpec.ofChange fnExactJoinLevelsWrong)

/-- 'laws.FnExactDropDeep': WHATEVER THE INPUT: true; the input reads as it did. -/
def fnExactDropDeepSpec : ChangeSpec := { name := "fnExactDropDeep", fn := fun _ => fun
  | [d1, d2] => { results := [.lit (.bool true)], args := [d1, d2] }
  | _ => none }
def fnExactDropDeepRow : OpenClaim := { program := "ytkojmlpaamdhoae", sum := "63d584c1f8ed34773faf69880f75fa5bfc01627b009fe87dfaea6a6987362d37", func := "loop.example/g01317/laws.FnExactDropDeep", spec := "fnExactDropDeep", unfollowed := true, recurses := true, apart := false }
def FnExactDropDeepSaid : Prop := fnExactDropDeepRow.holds Try.pinned (OpenSpec.ofChange fnExactDropDeepSpec)

/-- ITS FALSE NEIGHBOUR: 'it returns false'. Refute it at one input. -/
def fnExactDropDeepWrong : ChangeSpec := { name := "fnExactDropDeep", fn := fun _ => fun
  | [d1, d2] => { results := [.lit (.bool false)], args := [d1, d2] }
  | _ => none }
def FnExactDropDeepWrongFalsely : Prop := fnExactDropDeepRow.holds Try.pinned (OpenSpec.ofChange fnExactDropDeepWrong)

/-- 'laws.FnExactRippleKernel': WHATEVER THE INPUT: true; the input reads as it did. -/
def fnExactRippleKernelSpec : ChangeSpec := { name := "fnExactRippleKernel", fn := fun _ => fun
  | [d] => { results := [.lit (.bool true)], args := [d] }
  | _ => none }
def fnExactRippleKernelRow : OpenClaim := { program := "ytkojmlpaamdhoae", sum := "63d584c1f8ed34773faf69880f75fa5bfc01627b009fe87dfaea6a6987362d37", func := "loop.example/g01317/laws.FnExactRippleKernel", spec := "fnExactRippleKernel", inPlace := ["math.archCeil", "math.archFloor", "math.Float64bits", "math.Float64frombits", "math.archTrunc", "math.Float32frombits"], apart := false }
def FnExactRippleKernelSaid : Prop := fnExactRippleKernelRow.holds Try.pinned (OpenSpec.ofChange fnExactRippleKernelSpec)

/-- ITS FALSE NEIGHBOUR: 'it returns false'. Refute it at one input. -/
def fnExactRippleKernelWrong : ChangeSpec := { name := "fnExactRippleKernel", fn := fun _ => fun
  | [d] => { results := [.lit (.bool false)], args := [d] }
  | _ => none }
def FnExactRippleKernelWrongFalsely : Prop := fnExactRippleKernelRow.holds Try.pinned (OpenSpec.ofChange fnExactRippleKernelWrong)

/-- 'laws.FnExactBandAlone': WHATEVER THE INPUT: true; the input reads as it did. -/
def fnExactBandAloneSpec : ChangeSpec := { name := "fnExactBandAlone", fn := fun _ => fun
  | [d1, d2, d3] => { results := [.lit (.bool true)], args := [d1, d2, d3] }
  | _ => none }
def fnExactBandAloneRow : OpenClaim := { program := "ytkojmlpaamdhoae", sum := "63d584c1f8ed34773faf69880f75fa5bfc01627b009fe87dfaea6a6987362d37", func := "loop.example/g01317/laws.FnExactBandAlone", spec := "fnExactBandAlone", apart := false }
def FnExactBandAloneSaid : Prop := fnExactBandAloneRow.holds Try.pinned (OpenSpec.ofChange fnExactBandAloneSpec)

/-- ITS FALSE NEIGHBOUR: 'it returns false'. Refute it at one input. -/
def fnExactBandAloneWrong : ChangeSpec := { name := "fnExactBandAlone", fn := fun _ => fun
  | [d1, d2, d3] => { results := [.lit (.bool false)], args := [d1, d2, d3] }
  | _ => none }
def FnExactBandAloneWrongFalsely : Prop := fnExactBandAloneRow.holds Try.pinned (OpenSpec.ofChange fnExactBandAloneWrong)

/-- 'laws.FnExactCoarseOf': WHATEVER THE INPUT: true; the input reads as it did. -/
def fnExactCoarseOfSpec : ChangeSpec := { name := "fnExactCoarseOf", fn := fun _ => fun
  | [d1, d2, d3, d4] => { results := [.lit (.bool true)], args := [d1, d2, d3, d4] }
  | _ => none }
def fnExactCoarseOfRow : OpenClaim := { program := "ytkojmlpaamdhoae", sum := "63d584c1f8ed34773faf69880f75fa5bfc01627b009fe87dfaea6a6987362d37", func := "loop.example/g01317/laws.FnExactCoarseOf", spec := "fnExactCoarseOf", unfollowed := true, recurses := true, apart := false }
def FnExactCoarseOfSaid : Prop := fnExactCoarseOfRow.holds Try.pinned (OpenSpec.ofChange fnExactCoarseOfSpec)

/-- ITS FALSE NEIGHBOUR: 'it returns false'. Refute it at one input. -/
def fnExactCoarseOfWrong : ChangeSpec := { name := "fnExactCoarseOf", fn := fun _ => fun
  | [d1, d2, d3, d4] => { results := [.lit (.bool false)], args := [d1, d2, d3, d4] }
  | _ => none }
def FnExactCoarseOfWrongFalsely : Prop := fnExactCoarseOfRow.holds Try.pinned (OpenSpec.ofChange fnExactCoarseOfWrong)

/-- 'laws.FnExactRipplesOf': WHATEVER THE INPUT: true; the input reads as it did. -/
def fnExactRipplesOfSpec : ChangeSpec := { name := "fnExactRipplesOf", fn := fun _ => fun
  | [d1, d2] => { results := [.lit (.bool true)], args := [d1, d2] }
  | _ => none }
def fnExactRipplesOfRow : OpenClaim := { program := "ytkojmlpaamdhoae", sum := "63d584c1f8ed34773faf69880f75fa5bfc01627b009fe87dfaea6a6987362d37", func := "loop.example/g01317/laws.FnExactRipplesOf", spec := "fnExactRipplesOf", inPlace := ["math.archCeil", "math.archFloor", "math.Float64bits", "math.Float64frombits", "math.archTrunc", "math.Float32frombits"], apart := false }
def FnExactRipplesOfSaid : Prop := fnExactRipplesOfRow.holds Try.pinned (OpenSpec.ofChange fnExactRipplesOfSpec)

/-- ITS FALSE NEIGHBOUR: 'it returns false'. Refute it at one input. -/
def fnExactRipplesOfWrong : ChangeSpec := { name := "fnExactRipplesOf", fn := fun _ => fun
  | [d1, d2] => { results := [.lit (.bool false)], args := [d1, d2] }
  | _ => none }
def FnExactRipplesOfWrongFalsely : Prop := fnExactRipplesOfRow.holds Try.pinned (OpenSpec.ofChange fnExactRipplesOfWrong)

/-- 'laws.FnMaxima': WHATEVER THE INPUT: true; the input reads as it did. -/
def fnMaximaSpec : ChangeSpec := { name := "fnMaxima", fn := fun _ => fun
  | [d1, d2] => { results := [.lit (.bool true)], args := [d1, d2] }
  | _ => none }
def fnMaximaRow : OpenClaim := { program := "ytkojmlpaamdhoae", sum := "63d584c1f8ed34773faf69880f75fa5bfc01627b009fe87dfaea6a6987362d37", func := "loop.example/g01317/laws.FnMaxima", spec := "fnMaxima", inPlace := ["math.Float64frombits", "math.Float64bits"], apart := false }
def FnMaximaSaid : Prop := fnMaximaRow.holds Try.pinned (OpenSpec.ofChange fnMaximaSpec)

/-- ITS FALSE NEIGHBOUR: 'it returns false'. Refute it at one input. -/
def fnMaximaWrong : ChangeSpec := { name := "fnMaxima", fn := fun _ => fun
  | [d1, d2] => { results := [.lit (.bool false)], args := [d1, d2] }
  | _ => none }
def FnMaximaWrongFalsely : Prop := fnMaximaRow.holds Try.pinned (OpenSpec.ofChange fnMaximaWrong)

/- THE SECOND FORM. 'bulk': how many values and letters a reading holds, each counted each time it is reached (what is shared counts as often as it is met; a slice's spare places count too). A statement '..UptoSaid' is the law's where the arguments, and the package variables that the reading takes, are together of bulk at most 1048576: NARROWER than '..Said'. Prove '..Said' where nothing that the law and all that it calls make is longer than what came in: it says more and counts as full. Else prove '..UptoSaid'. A law counts once. -/
mutual
def uptoBulk {H : Type} : DataW H → Nat
  | .lit (.string bytes) => bytes.length + 1
  | .lit _ => 1
  | .nil => 1
  | .ptr d => uptoBulk d + 1
  | .slice elems spare => uptoBulkAll elems + uptoBulkAll spare + 1
  | .agg parts => uptoBulkAll parts + 1
  | .iface _ d => uptoBulk d + 1
  | .map entries => uptoBulkEntries entries + 1
  | .held _ => 1
def uptoBulkAll {H : Type} : List (DataW H) → Nat
  | [] => 0
  | d :: r => uptoBulk d + uptoBulkAll r
def uptoBulkEntries {H : Type} : List (Lit × DataW H) → Nat
  | [] => 0
  | x :: r => uptoBulkEntry x + uptoBulkEntries r
def uptoBulkEntry {H : Type} : Lit × DataW H → Nat
  | (.string bytes, d) => bytes.length + uptoBulk d + 1
  | (_, d) => uptoBulk d + 1
 end
def uptoSmall : (H : Type) → List (DataW H) → Bool := fun _ ds => decide (uptoBulkAll ds ≤ 1048576)
def OpenSpec.upto (s : _root_.Go.ChangeSpec) : _root_.Go.OpenSpec := { _root_.Go.OpenSpec.ofChange s with cond := some uptoSmall }

/-- 'laws.FnExactDropLevels', WHERE WHAT IT READS IS OF BULK AT MOST 1048576: true; the input reads as it did. -/
def fnExactDropLevelsUptoRow : OpenClaim := { program := "ytkojmlpaamdhoae", sum := "63d584c1f8ed34773faf69880f75fa5bfc01627b009fe87dfaea6a6987362d37", func := "loop.example/g01317/laws.FnExactDropLevels", spec := "fnExactDropLevels", unfollowed := true, recurses := true, apart := false, narrowed := true }
def FnExactDropLevelsUptoSaid : Prop := fnExactDropLevelsUptoRow.holds Try.pinned (OpenSpec.upto fnExactDropLevelsSpec)

/-- 'laws.FnExactRoughnessOf', WHERE WHAT IT READS IS OF BULK AT MOST 1048576: true; the input reads as it did. -/
def fnExactRoughnessOfUptoRow : OpenClaim := { program := "ytkojmlpaamdhoae", sum := "63d584c1f8ed34773faf69880f75fa5bfc01627b009fe87dfaea6a6987362d37", func := "loop.example/g01317/laws.FnExactRoughnessOf", spec := "fnExactRoughnessOf", inPlace := ["math.Float64frombits", "math.Float64bits"], apart := false, narrowed := true }
def FnExactRoughnessOfUptoSaid : Prop := fnExactRoughnessOfUptoRow.holds Try.pinned (OpenSpec.upto fnExactRoughnessOfSpec)

/-- 'laws.FnExactJoinLevels', WHERE WHAT IT READS IS OF BULK AT MOST 1048576: true; the input reads as it did. -/
def fnExactJoinLevelsUptoRow : OpenClaim := { program := "ytkojmlpaamdhoae", sum := "63d584c1f8ed34773faf69880f75fa5bfc01627b009fe87dfaea6a6987362d37", func := "loop.example/g01317/laws.FnExactJoinLevels", spec := "fnExactJoinLevels", apart := false, narrowed := true }
def FnExactJoinLevelsUptoSaid : Prop := fnExactJoinLevelsUptoRow.holds Try.pinned (OpenSpec.upto fnExactJoinLevelsSpec)

/-- 'laws.FnExactDropDeep', WHERE WHAT IT READS IS OF BULK AT MOST 1048576: true; the input reads as it did. -/
def fnExactDropDeepUptoRow : OpenClaim := { program := "ytkojmlpaamdhoae", sum := "63d584c1f8ed34773faf69880f75fa5bfc01627b009fe87dfaea6a6987362d37", func := "loop.example/g01317/laws.FnExactDropDeep", spec := "fnExactDropDeep", unfollowed := true, recurses := true, apart := false, narrowed := true }
def FnExactDropDeepUptoSaid : Prop := fnExactDropDeepUptoRow.holds Try.pinned (OpenSpec.upto fnExactDropDeepSpec)

/-- 'laws.FnExactRippleKernel', WHERE WHAT IT READS IS OF BULK AT MOST 1048576: true; the input reads as it did. -/
def fnExactRippleKernelUptoRow : OpenClaim := { program := "ytkojmlpaamdhoae", sum := "63d584c1f8ed34773faf69880f75fa5bfc01627b009fe87dfaea6a6987362d37", func := "loop.example/g01317/laws.FnExactRippleKernel", spec := "fnExactRippleKernel", inPlace := ["math.archCeil", "math.archFloor", "math.Float64bits", "math.Float64frombits", "math.archTrunc", "math.Float32frombits"], apart := false, narrowed := true }
def FnExactRippleKernelUptoSaid : Prop := fnExactRippleKernelUptoRow.holds Try.pinned (OpenSpec.upto fnExactRippleKernelSpec)

/-- 'laws.FnExactBandAlone', WHERE WHAT IT READS IS OF BULK AT MOST 1048576: true; the input reads as it did. -/
def fnExactBandAloneUptoRow : OpenClaim := { program := "ytkojmlpaamdhoae", sum := "63d584c1f8ed34773faf69880f75fa5bfc01627b009fe87dfaea6a6987362d37", func := "loop.example/g01317/laws.FnExactBandAlone", spec := "fnExactBandAlone", apart := false, narrowed := true }
def FnExactBandAloneUptoSaid : Prop := fnExactBandAloneUptoRow.holds Try.pinned (OpenSpec.upto fnExactBandAloneSpec)

/-- 'laws.FnExactCoarseOf', WHERE WHAT IT READS IS OF BULK AT MOST 1048576: true; the input reads as it did. -/
def fnExactCoarseOfUptoRow : OpenClaim := { program := "ytkojmlpaamdhoae", sum := "63d584c1f8ed34773faf69880f75fa5bfc01627b009fe87dfaea6a6987362d37", func := "loop.example/g01317/laws.FnExactCoarseOf", spec := "fnExactCoarseOf", unfollowed := true, recurses := true, apart := false, narrowed := true }
def FnExactCoarseOfUptoSaid : Prop := fnExactCoarseOfUptoRow.holds Try.pinned (OpenSpec.upto fnExactCoarseOfSpec)

/-- 'laws.FnExactRipplesOf', WHERE WHAT IT READS IS OF BULK AT MOST 1048576: true; the input reads as it did. -/
def fnExactRipplesOfUptoRow : OpenClaim := { program := "ytkojmlpaamdhoae", sum := "63d584c1f8ed34773faf69880f75fa5bfc01627b009fe87dfaea6a6987362d37", func := "loop.example/g01317/laws.FnExactRipplesOf", spec := "fnExactRipplesOf", inPlace := ["math.archCeil", "math.archFloor", "math.Float64bits", "math.Float64frombits", "math.archTrunc", "math.Float32frombits"], apart := false, narrowed := true }
def FnExactRipplesOfUptoSaid : Prop := fnExactRipplesOfUptoRow.holds Try.pinned (OpenSpec.upto fnExactRipplesOfSpec)

/-- 'laws.FnMaxima', WHERE WHAT IT READS IS OF BULK AT MOST 1048576: true; the input reads as it did. -/
def fnMaximaUptoRow : OpenClaim := { program := "ytkojmlpaamdhoae", sum := "63d584c1f8ed34773faf69880f75fa5bfc01627b009fe87dfaea6a6987362d37", func := "loop.example/g01317/laws.FnMaxima", spec := "fnMaxima", inPlace := ["math.Float64frombits", "math.Float64bits"], apart := false, narrowed := true }
def FnMaximaUptoSaid : Prop := fnMaximaUptoRow.holds Try.pinned (OpenSpec.upto fnMaximaSpec)

end Rows
end Go.Proofs.Ytkojmlpaamdhoae
