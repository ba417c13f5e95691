/-
  No cell of these rows narrows 'for every input' (looked for: loops, veiled, ifaces, maps, wideKeys, modest, calm, conditions, laid).
  DERIVED. THE GIVEN ROWS OF THIS SEAT. 12 by the template 'for every input the law returns true; each argument reads behind the call as it read before'; 0 by the template 'total and deterministic' (their statements: YtkojmlpaamdhoaaTotals.lean).
  GIVEN WITH THE SEED: the statements are not yours to turn. If you find one false, say at which input.
  Laid BY PROGRAM, IN A SANDBOX (cutbox-rows.mjs): the forced cells as the released guide's own fill.sh prints them over the translation b6d2c0df867433cb… (all of the seat's roots in one cut). By AI agents, Wed Nov 11 2026. No macro, syntax, notation, axiom, sorry.
-/
import Derived.Test.YtkojmlpaamdhoaaChecked
import GoSem.Claim
import GoSem.ClaimJoined
import GoSem.ClaimMapViews
import Derived.JoinedTies
import Derived.KernelRfl
namespace Go.Proofs.Ytkojmlpaamdhoaa
/- THE CELL 'sum', in the pinned program and in every row, IS THE sha256 OF THE DUMP (.gsa) THAT YtkojmlpaamdhoaaProg.lean LOADS. Nothing in Lean hashes anything: it is a label: what it is worth is what the hold of that sum in a sandbox is worth. -/
noncomputable def Try.pinned : Pinned := { name := "ytkojmlpaamdhoaa", sum := "b6d2c0df867433cb0183b40c880a7c67b7310f58917322fe53af97314857a683", checked := Try.checked }
namespace Rows
def none {H : Type} : Left H := { results := [], args := [] }

/-- 'laws.FnExactHaarPair': WHATEVER THE INPUT: true; the input reads as it did. -/
def fnExactHaarPairSpec : ChangeSpec := { name := "fnExactHaarPair", fn := fun _ => fun
  | [] => { results := [.lit (.bool true)], args := [] }
  | _ => none }
def fnExactHaarPairRow : OpenClaim := { program := "ytkojmlpaamdhoaa", sum := "b6d2c0df867433cb0183b40c880a7c67b7310f58917322fe53af97314857a683", func := "loop.example/g01317/laws.FnExactHaarPair", spec := "fnExactHaarPair", apart := false }
def FnExactHaarPairSaid : Prop := fnExactHaarPairRow.holds Try.pinned (OpenSpec.ofChange fnExactHaarPairSpec)

/-- ITS FALSE NEIGHBOUR: 'it returns false'. Refute it at one input. -/
def fnExactHaarPairWrong : ChangeSpec := { name := "fnExactHaarPair", fn := fun _ => fun
  | [] => { results := [.lit (.bool false)], args := [] }
  | _ => none }
def FnExactHaarPairWrongFalsely : Prop := fnExactHaarPairRow.holds Try.pinned (OpenSpec.ofChange fnExactHaarPairWrong)

/-- 'laws.FnExactRegionOf': WHATEVER THE INPUT: true; the input reads as it did. -/
def fnExactRegionOfSpec : ChangeSpec := { name := "fnExactRegionOf", fn := fun _ => fun
  | [d1, d2, d3, d4] => { results := [.lit (.bool true)], args := [d1, d2, d3, d4] }
  | _ => none }
def fnExactRegionOfRow : OpenClaim := { program := "ytkojmlpaamdhoaa", sum := "b6d2c0df867433cb0183b40c880a7c67b7310f58917322fe53af97314857a683", func := "loop.example/g01317/laws.FnExactRegionOf", spec := "fnExactRegionOf", apart := false }
def FnExactRegionOfSaid : Prop := fnExactRegionOfRow.holds Try.pinned (OpenSpec.ofChange fnExactRegionOfSpec)

/-- ITS FALSE NEIGHBOUR: 'it returns false'. Refute it at one input. -/
def fnExactRegionOfWrong : ChangeSpec := { name := "fnExactRegionOf", fn := fun _ => fun
  | [d1, d2, d3, d4] => { results := [.lit (.bool false)], args := [d1, d2, d3, d4] }
  | _ => none }
def FnExactRegionOfWrongFalsely : Prop := fnExactRegionOfRow.holds Try.pinned (OpenSpec.ofChange fnExactRegionOfWrong)

/-- 'laws.FnExactFourPair': WHATEVER THE INPUT: true; the input reads as it did. -/
def fnExactFourPairSpec : ChangeSpec := { name := "fnExactFourPair", fn := fun _ => fun
  | [] => { results := [.lit (.bool true)], args := [] }
  | _ => none }
def fnExactFourPairRow : OpenClaim := { program := "ytkojmlpaamdhoaa", sum := "b6d2c0df867433cb0183b40c880a7c67b7310f58917322fe53af97314857a683", func := "loop.example/g01317/laws.FnExactFourPair", spec := "fnExactFourPair", apart := false }
def FnExactFourPairSaid : Prop := fnExactFourPairRow.holds Try.pinned (OpenSpec.ofChange fnExactFourPairSpec)

/-- ITS FALSE NEIGHBOUR: 'it returns false'. Refute it at one input. -/
def fnExactFourPairWrong : ChangeSpec := { name := "fnExactFourPair", fn := fun _ => fun
  | [] => { results := [.lit (.bool false)], args := [] }
  | _ => none }
def FnExactFourPairWrongFalsely : Prop := fnExactFourPairRow.holds Try.pinned (OpenSpec.ofChange fnExactFourPairWrong)

/-- 'laws.FnExactValidPicture': WHATEVER THE INPUT: true; the input reads as it did. -/
def fnExactValidPictureSpec : ChangeSpec := { name := "fnExactValidPicture", fn := fun _ => fun
  | [d] => { results := [.lit (.bool true)], args := [d] }
  | _ => none }
def fnExactValidPictureRow : OpenClaim := { program := "ytkojmlpaamdhoaa", sum := "b6d2c0df867433cb0183b40c880a7c67b7310f58917322fe53af97314857a683", func := "loop.example/g01317/laws.FnExactValidPicture", spec := "fnExactValidPicture", apart := false }
def FnExactValidPictureSaid : Prop := fnExactValidPictureRow.holds Try.pinned (OpenSpec.ofChange fnExactValidPictureSpec)

/-- ITS FALSE NEIGHBOUR: 'it returns false'. Refute it at one input. -/
def fnExactValidPictureWrong : ChangeSpec := { name := "fnExactValidPicture", fn := fun _ => fun
  | [d] => { results := [.lit (.bool false)], args := [d] }
  | _ => none }
def FnExactValidPictureWrongFalsely : Prop := fnExactValidPictureRow.holds Try.pinned (OpenSpec.ofChange fnExactValidPictureWrong)

/-- 'laws.FnExactSamePair': WHATEVER THE INPUT: true; the input reads as it did. -/
def fnExactSamePairSpec : ChangeSpec := { name := "fnExactSamePair", fn := fun _ => fun
  | [d1, d2] => { results := [.lit (.bool true)], args := [d1, d2] }
  | _ => none }
def fnExactSamePairRow : OpenClaim := { program := "ytkojmlpaamdhoaa", sum := "b6d2c0df867433cb0183b40c880a7c67b7310f58917322fe53af97314857a683", func := "loop.example/g01317/laws.FnExactSamePair", spec := "fnExactSamePair", inPlace := ["math.Float32bits", "math.Float64bits"], apart := false }
def FnExactSamePairSaid : Prop := fnExactSamePairRow.holds Try.pinned (OpenSpec.ofChange fnExactSamePairSpec)

/-- ITS FALSE NEIGHBOUR: 'it returns false'. Refute it at one input. -/
def fnExactSamePairWrong : ChangeSpec := { name := "fnExactSamePair", fn := fun _ => fun
  | [d1, d2] => { results := [.lit (.bool false)], args := [d1, d2] }
  | _ => none }
def FnExactSamePairWrongFalsely : Prop := fnExactSamePairRow.holds Try.pinned (OpenSpec.ofChange fnExactSamePairWrong)

/-- 'laws.FnExactSamePicture': WHATEVER THE INPUT: true; the input reads as it did. -/
def fnExactSamePictureSpec : ChangeSpec := { name := "fnExactSamePicture", fn := fun _ => fun
  | [d1, d2] => { results := [.lit (.bool true)], args := [d1, d2] }
  | _ => none }
def fnExactSamePictureRow : OpenClaim := { program := "ytkojmlpaamdhoaa", sum := "b6d2c0df867433cb0183b40c880a7c67b7310f58917322fe53af97314857a683", func := "loop.example/g01317/laws.FnExactSamePicture", spec := "fnExactSamePicture", inPlace := ["math.Float32bits", "math.Float64bits"], apart := false }
def FnExactSamePictureSaid : Prop := fnExactSamePictureRow.holds Try.pinned (OpenSpec.ofChange fnExactSamePictureSpec)

/-- ITS FALSE NEIGHBOUR: 'it returns false'. Refute it at one input. -/
def fnExactSamePictureWrong : ChangeSpec := { name := "fnExactSamePicture", fn := fun _ => fun
  | [d1, d2] => { results := [.lit (.bool false)], args := [d1, d2] }
  | _ => none }
def FnExactSamePictureWrongFalsely : Prop := fnExactSamePictureRow.holds Try.pinned (OpenSpec.ofChange fnExactSamePictureWrong)

/-- 'laws.FnExactValidPair': WHATEVER THE INPUT: true; the input reads as it did. -/
def fnExactValidPairSpec : ChangeSpec := { name := "fnExactValidPair", fn := fun _ => fun
  | [d] => { results := [.lit (.bool true)], args := [d] }
  | _ => none }
def fnExactValidPairRow : OpenClaim := { program := "ytkojmlpaamdhoaa", sum := "b6d2c0df867433cb0183b40c880a7c67b7310f58917322fe53af97314857a683", func := "loop.example/g01317/laws.FnExactValidPair", spec := "fnExactValidPair", apart := false }
def FnExactValidPairSaid : Prop := fnExactValidPairRow.holds Try.pinned (OpenSpec.ofChange fnExactValidPairSpec)

/-- ITS FALSE NEIGHBOUR: 'it returns false'. Refute it at one input. -/
def fnExactValidPairWrong : ChangeSpec := { name := "fnExactValidPair", fn := fun _ => fun
  | [d] => { results := [.lit (.bool false)], args := [d] }
  | _ => none }
def FnExactValidPairWrongFalsely : Prop := fnExactValidPairRow.holds Try.pinned (OpenSpec.ofChange fnExactValidPairWrong)

/-- 'laws.FnBandTrees': WHATEVER THE INPUT: true; the input reads as it did. -/
def fnBandTreesSpec : ChangeSpec := { name := "fnBandTrees", fn := fun _ => fun
  | [d1, d2] => { results := [.lit (.bool true)], args := [d1, d2] }
  | _ => none }
def fnBandTreesRow : OpenClaim := { program := "ytkojmlpaamdhoaa", sum := "b6d2c0df867433cb0183b40c880a7c67b7310f58917322fe53af97314857a683", func := "loop.example/g01317/laws.FnBandTrees", spec := "fnBandTrees", inPlace := ["math.Float64bits"], apart := false }
def FnBandTreesSaid : Prop := fnBandTreesRow.holds Try.pinned (OpenSpec.ofChange fnBandTreesSpec)

/-- ITS FALSE NEIGHBOUR: 'it returns false'. Refute it at one input. -/
def fnBandTreesWrong : ChangeSpec := { name := "fnBandTrees", fn := fun _ => fun
  | [d1, d2] => { results := [.lit (.bool false)], args := [d1, d2] }
  | _ => none }
def FnBandTreesWrongFalsely : Prop := fnBandTreesRow.holds Try.pinned (OpenSpec.ofChange fnBandTreesWrong)

/-- 'laws.FnExactStepPicture': WHATEVER THE INPUT: true; the input reads as it did. -/
def fnExactStepPictureSpec : ChangeSpec := { name := "fnExactStepPicture", fn := fun _ => fun
  | [d1, d2, d3, d4, d5] => { results := [.lit (.bool true)], args := [d1, d2, d3, d4, d5] }
  | _ => none }
def fnExactStepPictureRow : OpenClaim := { program := "ytkojmlpaamdhoaa", sum := "b6d2c0df867433cb0183b40c880a7c67b7310f58917322fe53af97314857a683", func := "loop.example/g01317/laws.FnExactStepPicture", spec := "fnExactStepPicture", unfollowed := true, recurses := true, apart := false }
def FnExactStepPictureSaid : Prop := fnExactStepPictureRow.holds Try.pinned (OpenSpec.ofChange fnExactStepPictureSpec)

/-- ITS FALSE NEIGHBOUR: 'it returns false'. Refute it at one input. -/
def fnExactStepPictureWrong : ChangeSpec := { name := "fnExactStepPicture", fn := fun _ => fun
  | [d1, d2, d3, d4, d5] => { results := [.lit (.bool false)], args := [d1, d2, d3, d4, d5] }
  | _ => none }
def FnExactStepPictureWrongFalsely : Prop := fnExactStepPictureRow.holds Try.pinned (OpenSpec.ofChange fnExactStepPictureWrong)

/-- 'laws.FnExactEnergyOfPicture': WHATEVER THE INPUT: true; the input reads as it did. -/
def fnExactEnergyOfPictureSpec : ChangeSpec := { name := "fnExactEnergyOfPicture", fn := fun _ => fun
  | [d] => { results := [.lit (.bool true)], args := [d] }
  | _ => none }
def fnExactEnergyOfPictureRow : OpenClaim := { program := "ytkojmlpaamdhoaa", sum := "b6d2c0df867433cb0183b40c880a7c67b7310f58917322fe53af97314857a683", func := "loop.example/g01317/laws.FnExactEnergyOfPicture", spec := "fnExactEnergyOfPicture", apart := false }
def FnExactEnergyOfPictureSaid : Prop := fnExactEnergyOfPictureRow.holds Try.pinned (OpenSpec.ofChange fnExactEnergyOfPictureSpec)

/-- ITS FALSE NEIGHBOUR: 'it returns false'. Refute it at one input. -/
def fnExactEnergyOfPictureWrong : ChangeSpec := { name := "fnExactEnergyOfPicture", fn := fun _ => fun
  | [d] => { results := [.lit (.bool false)], args := [d] }
  | _ => none }
def FnExactEnergyOfPictureWrongFalsely : Prop := fnExactEnergyOfPictureRow.holds Try.pinned (OpenSpec.ofChange fnExactEnergyOfPictureWrong)

/-- 'laws.FnExactMaximaOf': WHATEVER THE INPUT: true; the input reads as it did. -/
def fnExactMaximaOfSpec : ChangeSpec := { name := "fnExactMaximaOf", fn := fun _ => fun
  | [d] => { results := [.lit (.bool true)], args := [d] }
  | _ => none }
def fnExactMaximaOfRow : OpenClaim := { program := "ytkojmlpaamdhoaa", sum := "b6d2c0df867433cb0183b40c880a7c67b7310f58917322fe53af97314857a683", func := "loop.example/g01317/laws.FnExactMaximaOf", spec := "fnExactMaximaOf", apart := false }
def FnExactMaximaOfSaid : Prop := fnExactMaximaOfRow.holds Try.pinned (OpenSpec.ofChange fnExactMaximaOfSpec)

/-- ITS FALSE NEIGHBOUR: 'it returns false'. Refute it at one input. -/
def fnExactMaximaOfWrong : ChangeSpec := { name := "fnExactMaximaOf", fn := fun _ => fun
  | [d] => { results := [.lit (.bool false)], args := [d] }
  | _ => none }
def FnExactMaximaOfWrongFalsely : Prop := fnExactMaximaOfRow.holds Try.pinned (OpenSpec.ofChange fnExactMaximaOfWrong)

/-- 'laws.FnExactPlainPicture': WHATEVER THE INPUT: true; the input reads as it did. -/
def fnExactPlainPictureSpec : ChangeSpec := { name := "fnExactPlainPicture", fn := fun _ => fun
  | [d1, d2, d3] => { results := [.lit (.bool true)], args := [d1, d2, d3] }
  | _ => none }
def fnExactPlainPictureRow : OpenClaim := { program := "ytkojmlpaamdhoaa", sum := "b6d2c0df867433cb0183b40c880a7c67b7310f58917322fe53af97314857a683", func := "loop.example/g01317/laws.FnExactPlainPicture", spec := "fnExactPlainPicture", unfollowed := true, recurses := true, apart := false }
def FnExactPlainPictureSaid : Prop := fnExactPlainPictureRow.holds Try.pinned (OpenSpec.ofChange fnExactPlainPictureSpec)

/-- ITS FALSE NEIGHBOUR: 'it returns false'. Refute it at one input. -/
def fnExactPlainPictureWrong : ChangeSpec := { name := "fnExactPlainPicture", fn := fun _ => fun
  | [d1, d2, d3] => { results := [.lit (.bool false)], args := [d1, d2, d3] }
  | _ => none }
def FnExactPlainPictureWrongFalsely : Prop := fnExactPlainPictureRow.holds Try.pinned (OpenSpec.ofChange fnExactPlainPictureWrong)

/- THE SECOND FORM. 'bulk': how many values and letters a reading holds, each counted each time it is reached (what is shared counts as often as it is met; a slice's spare places count too). A statement '..UptoSaid' is the law's where the arguments, and the package variables that the reading takes, are together of bulk at most 1048576: NARROWER than '..Said'. Prove '..Said' where nothing that the law and all that it calls make is longer than what came in: it says more and counts as full. Else prove '..UptoSaid'. A law counts once. -/
mutual
def uptoBulk {H : Type} : DataW H → Nat
  | .lit (.string bytes) => bytes.length + 1
  | .lit _ => 1
  | .nil => 1
  | .ptr d => uptoBulk d + 1
  | .slice elems spare => uptoBulkAll elems + uptoBulkAll spare + 1
  | .agg parts => uptoBulkAll parts + 1
  | .iface _ d => uptoBulk d + 1
  | .map entries => uptoBulkEntries entries + 1
  | .held _ => 1
def uptoBulkAll {H : Type} : List (DataW H) → Nat
  | [] => 0
  | d :: r => uptoBulk d + uptoBulkAll r
def uptoBulkEntries {H : Type} : List (Lit × DataW H) → Nat
  | [] => 0
  | x :: r => uptoBulkEntry x + uptoBulkEntries r
def uptoBulkEntry {H : Type} : Lit × DataW H → Nat
  | (.string bytes, d) => bytes.length + uptoBulk d + 1
  | (_, d) => uptoBulk d + 1
 end
def uptoSmall : (H : Type) → List (DataW H) → Bool := fun _ ds => decide (uptoBulkAll ds ≤ 1048576)
def OpenSpec.upto (s : _root_.Go.ChangeSpec) : _root_.Go.OpenSpec := { _root_.Go.OpenSpec.ofChange s with cond := some uptoSmall }

/-- 'laws.FnExactHaarPair', WHERE WHAT IT READS IS OF BULK AT MOST 1048576: true; the input reads as it did. -/
def fnExactHaarPairUptoRow : OpenClaim := { program := "ytkojmlpaamdhoaa", sum := "b6d2c0df867433cb0183b40c880a7c67b7310f58917322fe53af97314857a683", func := "loop.example/g01317/laws.FnExactHaarPair", spec := "fnExactHaarPair", apart := false, narrowed := true }
def FnExactHaarPairUptoSaid : Prop := fnExactHaarPairUptoRow.holds Try.pinned (OpenSpec.upto fnExactHaarPairSpec)

/-- 'laws.FnExactRegionOf', WHERE WHAT IT READS IS OF BULK AT MOST 1048576: true; the input reads as it did. -/
def fnExactRegionOfUptoRow : OpenClaim := { program := "ytkojmlpaamdhoaa", sum := "b6d2c0df867433cb0183b40c880a7c67b7310f58917322fe53af97314857a683", func := "loop.example/g01317/laws.FnExactRegionOf", spec := "fnExactRegionOf", apart := false, narrowed := true }
def FnExactRegionOfUptoSaid : Prop := fnExactRegionOfUptoRow.holds Try.pinned (OpenSpec.upto fnExactRegionOfSpec)

/-- 'laws.FnExactFourPair', WHERE WHAT IT READS IS OF BULK AT MOST 1048576: true; the input reads as it did. -/
def fnExactFourPairUptoRow : OpenClaim := { program := "ytkojmlpaamdhoaa", sum := "b6d2c0df867433cb0183b40c880a7c67b7310f58917322fe53af97314857a683", func := "loop.example/g01317/laws.FnExactFourPair", spec := "fnExactFourPair", apart := false, narrowed := true }
def FnExactFourPairUptoSaid : Prop := fnExactFourPairUptoRow.holds Try.pinned (OpenSpec.upto fnExactFourPairSpec)

/-- 'laws.FnExactValidPicture', WHERE WHAT IT READS IS OF BULK AT MOST 1048576: true; the input reads as it did. -/
def fnExactValidPictureUptoRow : OpenClaim := { program := "ytkojmlpaamdhoaa", sum := "b6d2c0df867433cb0183b40c880a7c67b7310f58917322fe53af97314857a683", func := "loop.example/g01317/laws.FnExactValidPicture", spec := "fnExactValidPicture", apart := false, narrowed := true }
def FnExactValidPictureUptoSaid : Prop := fnExactValidPictureUptoRow.holds Try.pinned (OpenSpec.upto fnExactValidPictureSpec)

/-- 'laws.FnExactSamePair', WHERE WHAT IT READS IS OF BULK AT MOST 1048576: true; the input reads as it did. -/
def fnExactSamePairUptoRow : OpenClaim := { program := "ytkojmlpaamdhoaa", sum := "b6d2c0df867433cb0183b40c880a7c67b7310f58917322fe53af97314857a683", func := "loop.example/g01317/laws.FnExactSamePair", spec := "fnExactSamePair", inPlace := ["math.Float32bits", "math.Float64bits"], apart := false, narrowed := true }
def FnExactSamePairUptoSaid : Prop := fnExactSamePairUptoRow.holds Try.pinned (OpenSpec.upto fnExactSamePairSpec)

/-- 'laws.FnExactSamePicture', WHERE WHAT IT READS IS OF BULK AT MOST 1048576: true; the input reads as it did. -/
def fnExactSamePictureUptoRow : OpenClaim := { program := "ytkojmlpaamdhoaa", sum := "b6d2c0df867433cb0183b40c880a7c67b7310f58917322fe53af97314857a683", func := "loop.example/g01317/laws.FnExactSamePicture", spec := "fnExactSamePicture", inPlace := ["math.Float32bits", "math.Float64bits"], apart := false, narrowed := true }
def FnExactSamePictureUptoSaid : Prop := fnExactSamePictureUptoRow.holds Try.pinned (OpenSpec.upto fnExactSamePictureSpec)

/-- 'laws.FnExactValidPair', WHERE WHAT IT READS IS OF BULK AT MOST 1048576: true; the input reads as it did. -/
def fnExactValidPairUptoRow : OpenClaim := { program := "ytkojmlpaamdhoaa", sum := "b6d2c0df867433cb0183b40c880a7c67b7310f58917322fe53af97314857a683", func := "loop.example/g01317/laws.FnExactValidPair", spec := "fnExactValidPair", apart := false, narrowed := true }
def FnExactValidPairUptoSaid : Prop := fnExactValidPairUptoRow.holds Try.pinned (OpenSpec.upto fnExactValidPairSpec)

/-- 'laws.FnBandTrees', WHERE WHAT IT READS IS OF BULK AT MOST 1048576: true; the input reads as it did. -/
def fnBandTreesUptoRow : OpenClaim := { program := "ytkojmlpaamdhoaa", sum := "b6d2c0df867433cb0183b40c880a7c67b7310f58917322fe53af97314857a683", func := "loop.example/g01317/laws.FnBandTrees", spec := "fnBandTrees", inPlace := ["math.Float64bits"], apart := false, narrowed := true }
def FnBandTreesUptoSaid : Prop := fnBandTreesUptoRow.holds Try.pinned (OpenSpec.upto fnBandTreesSpec)

/-- 'laws.FnExactStepPicture', WHERE WHAT IT READS IS OF BULK AT MOST 1048576: true; the input reads as it did. -/
def fnExactStepPictureUptoRow : OpenClaim := { program := "ytkojmlpaamdhoaa", sum := "b6d2c0df867433cb0183b40c880a7c67b7310f58917322fe53af97314857a683", func := "loop.example/g01317/laws.FnExactStepPicture", spec := "fnExactStepPicture", unfollowed := true, recurses := true, apart := false, narrowed := true }
def FnExactStepPictureUptoSaid : Prop := fnExactStepPictureUptoRow.holds Try.pinned (OpenSpec.upto fnExactStepPictureSpec)

/-- 'laws.FnExactEnergyOfPicture', WHERE WHAT IT READS IS OF BULK AT MOST 1048576: true; the input reads as it did. -/
def fnExactEnergyOfPictureUptoRow : OpenClaim := { program := "ytkojmlpaamdhoaa", sum := "b6d2c0df867433cb0183b40c880a7c67b7310f58917322fe53af97314857a683", func := "loop.example/g01317/laws.FnExactEnergyOfPicture", spec := "fnExactEnergyOfPicture", apart := false, narrowed := true }
def FnExactEnergyOfPictureUptoSaid : Prop := fnExactEnergyOfPictureUptoRow.holds Try.pinned (OpenSpec.upto fnExactEnergyOfPictureSpec)

/-- 'laws.FnExactMaximaOf', WHERE WHAT IT READS IS OF BULK AT MOST 1048576: true; the input reads as it did. -/
def fnExactMaximaOfUptoRow : OpenClaim := { program := "ytkojmlpaamdhoaa", sum := "b6d2c0df867433cb0183b40c880a7c67b7310f58917322fe53af97314857a683", func := "loop.example/g01317/laws.FnExactMaximaOf", spec := "fnExactMaximaOf", apart := false, narrowed := true }
def FnExactMaximaOfUptoSaid : Prop := fnExactMaximaOfUptoRow.holds Try.pinned (OpenSpec.upto fnExactMaximaOfSpec)

/-- 'laws.FnExactPlainPicture', WHERE WHAT IT READS IS OF BULK AT MOST 1048576: true; the input reads as it did. -/
def fnExactPlainPictureUptoRow : OpenClaim := { program := "ytkojmlpaamdhoaa", sum := "b6d2c0df867433cb0183b40c880a7c67b7310f58917322fe53af97314857a683", func := "loop.example/g01317/laws.FnExactPlainPicture", spec := "fnExactPlainPicture", unfollowed := true, recurses := true, apart := false, narrowed := true }
def FnExactPlainPictureUptoSaid : Prop := fnExactPlainPictureUptoRow.holds Try.pinned (OpenSpec.upto fnExactPlainPictureSpec)

end Rows
end Go.Proofs.Ytkojmlpaamdhoaa
