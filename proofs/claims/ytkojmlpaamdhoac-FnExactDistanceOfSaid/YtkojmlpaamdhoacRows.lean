/-
  No cell of these rows narrows 'for every input' (looked for: loops, veiled, ifaces, maps, wideKeys, modest, calm, conditions, laid).
  DERIVED. THE GIVEN ROWS OF THIS SEAT. 12 by the template 'for every input the law returns true; each argument reads behind the call as it read before'; 0 by the template 'total and deterministic' (their statements: YtkojmlpaamdhoacTotals.lean).
  GIVEN WITH THE SEED: the statements are not yours to turn. If you find one false, say at which input.
  Laid BY PROGRAM, IN A SANDBOX (cutbox-rows.mjs): the forced cells as the released guide's own fill.sh prints them over the translation b6c15aefcea809fc… (all of the seat's roots in one cut). By AI agents, Wed Nov 11 2026. No macro, syntax, notation, axiom, sorry.
-/
import Derived.Test.YtkojmlpaamdhoacChecked
import GoSem.Claim
import GoSem.ClaimJoined
import GoSem.ClaimMapViews
import Derived.JoinedTies
import Derived.KernelRfl
namespace Go.Proofs.Ytkojmlpaamdhoac
/- THE CELL 'sum', in the pinned program and in every row, IS THE sha256 OF THE DUMP (.gsa) THAT YtkojmlpaamdhoacProg.lean LOADS. Nothing in Lean hashes anything: it is a label: what it is worth is what the hold of that sum in a sandbox is worth. -/
noncomputable def Try.pinned : Pinned := { name := "ytkojmlpaamdhoac", sum := "b6c15aefcea809fcc7c01973f5a5523d1869811cace96c71169c8e28fa54df84", checked := Try.checked }
namespace Rows
def none {H : Type} : Left H := { results := [], args := [] }

/-- 'laws.FnExactFrameOf': WHATEVER THE INPUT: true; the input reads as it did. -/
def fnExactFrameOfSpec : ChangeSpec := { name := "fnExactFrameOf", fn := fun _ => fun
  | [d1, d2] => { results := [.lit (.bool true)], args := [d1, d2] }
  | _ => none }
def fnExactFrameOfRow : OpenClaim := { program := "ytkojmlpaamdhoac", sum := "b6c15aefcea809fcc7c01973f5a5523d1869811cace96c71169c8e28fa54df84", func := "loop.example/g01317/laws.FnExactFrameOf", spec := "fnExactFrameOf", unfollowed := true, recurses := true, apart := false }
def FnExactFrameOfSaid : Prop := fnExactFrameOfRow.holds Try.pinned (OpenSpec.ofChange fnExactFrameOfSpec)

/-- ITS FALSE NEIGHBOUR: 'it returns false'. Refute it at one input. -/
def fnExactFrameOfWrong : ChangeSpec := { name := "fnExactFrameOf", fn := fun _ => fun
  | [d1, d2] => { results := [.lit (.bool false)], args := [d1, d2] }
  | _ => none }
def FnExactFrameOfWrongFalsely : Prop := fnExactFrameOfRow.holds Try.pinned (OpenSpec.ofChange fnExactFrameOfWrong)

/-- 'laws.FnExactSoftPicture': WHATEVER THE INPUT: true; the input reads as it did. -/
def fnExactSoftPictureSpec : ChangeSpec := { name := "fnExactSoftPicture", fn := fun _ => fun
  | [d1, d2, d3] => { results := [.lit (.bool true)], args := [d1, d2, d3] }
  | _ => none }
def fnExactSoftPictureRow : OpenClaim := { program := "ytkojmlpaamdhoac", sum := "b6c15aefcea809fcc7c01973f5a5523d1869811cace96c71169c8e28fa54df84", func := "loop.example/g01317/laws.FnExactSoftPicture", spec := "fnExactSoftPicture", unfollowed := true, recurses := true, apart := false }
def FnExactSoftPictureSaid : Prop := fnExactSoftPictureRow.holds Try.pinned (OpenSpec.ofChange fnExactSoftPictureSpec)

/-- ITS FALSE NEIGHBOUR: 'it returns false'. Refute it at one input. -/
def fnExactSoftPictureWrong : ChangeSpec := { name := "fnExactSoftPicture", fn := fun _ => fun
  | [d1, d2, d3] => { results := [.lit (.bool false)], args := [d1, d2, d3] }
  | _ => none }
def FnExactSoftPictureWrongFalsely : Prop := fnExactSoftPictureRow.holds Try.pinned (OpenSpec.ofChange fnExactSoftPictureWrong)

/-- 'laws.FnExactDropIntegers': WHATEVER THE INPUT: true; the input reads as it did. -/
def fnExactDropIntegersSpec : ChangeSpec := { name := "fnExactDropIntegers", fn := fun _ => fun
  | [d1, d2, d3] => { results := [.lit (.bool true)], args := [d1, d2, d3] }
  | _ => none }
def fnExactDropIntegersRow : OpenClaim := { program := "ytkojmlpaamdhoac", sum := "b6c15aefcea809fcc7c01973f5a5523d1869811cace96c71169c8e28fa54df84", func := "loop.example/g01317/laws.FnExactDropIntegers", spec := "fnExactDropIntegers", unfollowed := true, recurses := true, apart := false }
def FnExactDropIntegersSaid : Prop := fnExactDropIntegersRow.holds Try.pinned (OpenSpec.ofChange fnExactDropIntegersSpec)

/-- ITS FALSE NEIGHBOUR: 'it returns false'. Refute it at one input. -/
def fnExactDropIntegersWrong : ChangeSpec := { name := "fnExactDropIntegers", fn := fun _ => fun
  | [d1, d2, d3] => { results := [.lit (.bool false)], args := [d1, d2, d3] }
  | _ => none }
def FnExactDropIntegersWrongFalsely : Prop := fnExactDropIntegersRow.holds Try.pinned (OpenSpec.ofChange fnExactDropIntegersWrong)

/-- 'laws.FnExactLiftIntegers': WHATEVER THE INPUT: true; the input reads as it did. -/
def fnExactLiftIntegersSpec : ChangeSpec := { name := "fnExactLiftIntegers", fn := fun _ => fun
  | [d1, d2] => { results := [.lit (.bool true)], args := [d1, d2] }
  | _ => none }
def fnExactLiftIntegersRow : OpenClaim := { program := "ytkojmlpaamdhoac", sum := "b6c15aefcea809fcc7c01973f5a5523d1869811cace96c71169c8e28fa54df84", func := "loop.example/g01317/laws.FnExactLiftIntegers", spec := "fnExactLiftIntegers", unfollowed := true, recurses := true, apart := false }
def FnExactLiftIntegersSaid : Prop := fnExactLiftIntegersRow.holds Try.pinned (OpenSpec.ofChange fnExactLiftIntegersSpec)

/-- ITS FALSE NEIGHBOUR: 'it returns false'. Refute it at one input. -/
def fnExactLiftIntegersWrong : ChangeSpec := { name := "fnExactLiftIntegers", fn := fun _ => fun
  | [d1, d2] => { results := [.lit (.bool false)], args := [d1, d2] }
  | _ => none }
def FnExactLiftIntegersWrongFalsely : Prop := fnExactLiftIntegersRow.holds Try.pinned (OpenSpec.ofChange fnExactLiftIntegersWrong)

/-- 'laws.FnExactPowersOfBands': WHATEVER THE INPUT: true; the input reads as it did. -/
def fnExactPowersOfBandsSpec : ChangeSpec := { name := "fnExactPowersOfBands", fn := fun _ => fun
  | [d] => { results := [.lit (.bool true)], args := [d] }
  | _ => none }
def fnExactPowersOfBandsRow : OpenClaim := { program := "ytkojmlpaamdhoac", sum := "b6c15aefcea809fcc7c01973f5a5523d1869811cace96c71169c8e28fa54df84", func := "loop.example/g01317/laws.FnExactPowersOfBands", spec := "fnExactPowersOfBands", apart := false }
def FnExactPowersOfBandsSaid : Prop := fnExactPowersOfBandsRow.holds Try.pinned (OpenSpec.ofChange fnExactPowersOfBandsSpec)

/-- ITS FALSE NEIGHBOUR: 'it returns false'. Refute it at one input. -/
def fnExactPowersOfBandsWrong : ChangeSpec := { name := "fnExactPowersOfBands", fn := fun _ => fun
  | [d] => { results := [.lit (.bool false)], args := [d] }
  | _ => none }
def FnExactPowersOfBandsWrongFalsely : Prop := fnExactPowersOfBandsRow.holds Try.pinned (OpenSpec.ofChange fnExactPowersOfBandsWrong)

/-- 'laws.FnExactListEnergies': WHATEVER THE INPUT: true; the input reads as it did. -/
def fnExactListEnergiesSpec : ChangeSpec := { name := "fnExactListEnergies", fn := fun _ => fun
  | [d] => { results := [.lit (.bool true)], args := [d] }
  | _ => none }
def fnExactListEnergiesRow : OpenClaim := { program := "ytkojmlpaamdhoac", sum := "b6c15aefcea809fcc7c01973f5a5523d1869811cace96c71169c8e28fa54df84", func := "loop.example/g01317/laws.FnExactListEnergies", spec := "fnExactListEnergies", apart := false }
def FnExactListEnergiesSaid : Prop := fnExactListEnergiesRow.holds Try.pinned (OpenSpec.ofChange fnExactListEnergiesSpec)

/-- ITS FALSE NEIGHBOUR: 'it returns false'. Refute it at one input. -/
def fnExactListEnergiesWrong : ChangeSpec := { name := "fnExactListEnergies", fn := fun _ => fun
  | [d] => { results := [.lit (.bool false)], args := [d] }
  | _ => none }
def FnExactListEnergiesWrongFalsely : Prop := fnExactListEnergiesRow.holds Try.pinned (OpenSpec.ofChange fnExactListEnergiesWrong)

/-- 'laws.FnExactJoinRing': WHATEVER THE INPUT: true; the input reads as it did. -/
def fnExactJoinRingSpec : ChangeSpec := { name := "fnExactJoinRing", fn := fun _ => fun
  | [d1, d2, d3] => { results := [.lit (.bool true)], args := [d1, d2, d3] }
  | _ => none }
def fnExactJoinRingRow : OpenClaim := { program := "ytkojmlpaamdhoac", sum := "b6c15aefcea809fcc7c01973f5a5523d1869811cace96c71169c8e28fa54df84", func := "loop.example/g01317/laws.FnExactJoinRing", spec := "fnExactJoinRing", apart := false }
def FnExactJoinRingSaid : Prop := fnExactJoinRingRow.holds Try.pinned (OpenSpec.ofChange fnExactJoinRingSpec)

/-- ITS FALSE NEIGHBOUR: 'it returns false'. Refute it at one input. -/
def fnExactJoinRingWrong : ChangeSpec := { name := "fnExactJoinRing", fn := fun _ => fun
  | [d1, d2, d3] => { results := [.lit (.bool false)], args := [d1, d2, d3] }
  | _ => none }
def FnExactJoinRingWrongFalsely : Prop := fnExactJoinRingRow.holds Try.pinned (OpenSpec.ofChange fnExactJoinRingWrong)

/-- 'laws.FnExactQuietPicture': WHATEVER THE INPUT: true; the input reads as it did. -/
def fnExactQuietPictureSpec : ChangeSpec := { name := "fnExactQuietPicture", fn := fun _ => fun
  | [d1, d2, d3] => { results := [.lit (.bool true)], args := [d1, d2, d3] }
  | _ => none }
def fnExactQuietPictureRow : OpenClaim := { program := "ytkojmlpaamdhoac", sum := "b6c15aefcea809fcc7c01973f5a5523d1869811cace96c71169c8e28fa54df84", func := "loop.example/g01317/laws.FnExactQuietPicture", spec := "fnExactQuietPicture", unfollowed := true, recurses := true, apart := false }
def FnExactQuietPictureSaid : Prop := fnExactQuietPictureRow.holds Try.pinned (OpenSpec.ofChange fnExactQuietPictureSpec)

/-- ITS FALSE NEIGHBOUR: 'it returns false'. Refute it at one input. -/
def fnExactQuietPictureWrong : ChangeSpec := { name := "fnExactQuietPicture", fn := fun _ => fun
  | [d1, d2, d3] => { results := [.lit (.bool false)], args := [d1, d2, d3] }
  | _ => none }
def FnExactQuietPictureWrongFalsely : Prop := fnExactQuietPictureRow.holds Try.pinned (OpenSpec.ofChange fnExactQuietPictureWrong)

/-- 'laws.FnExactSplitRing': WHATEVER THE INPUT: true; the input reads as it did. -/
def fnExactSplitRingSpec : ChangeSpec := { name := "fnExactSplitRing", fn := fun _ => fun
  | [d1, d2] => { results := [.lit (.bool true)], args := [d1, d2] }
  | _ => none }
def fnExactSplitRingRow : OpenClaim := { program := "ytkojmlpaamdhoac", sum := "b6c15aefcea809fcc7c01973f5a5523d1869811cace96c71169c8e28fa54df84", func := "loop.example/g01317/laws.FnExactSplitRing", spec := "fnExactSplitRing", apart := false }
def FnExactSplitRingSaid : Prop := fnExactSplitRingRow.holds Try.pinned (OpenSpec.ofChange fnExactSplitRingSpec)

/-- ITS FALSE NEIGHBOUR: 'it returns false'. Refute it at one input. -/
def fnExactSplitRingWrong : ChangeSpec := { name := "fnExactSplitRing", fn := fun _ => fun
  | [d1, d2] => { results := [.lit (.bool false)], args := [d1, d2] }
  | _ => none }
def FnExactSplitRingWrongFalsely : Prop := fnExactSplitRingRow.holds Try.pinned (OpenSpec.ofChange fnExactSplitRingWrong)

/-- 'laws.FnExactLiftOnce': WHATEVER THE INPUT: true; the input reads as it did. -/
def fnExactLiftOnceSpec : ChangeSpec := { name := "fnExactLiftOnce", fn := fun _ => fun
  | [d1, d2] => { results := [.lit (.bool true)], args := [d1, d2] }
  | _ => none }
def fnExactLiftOnceRow : OpenClaim := { program := "ytkojmlpaamdhoac", sum := "b6c15aefcea809fcc7c01973f5a5523d1869811cace96c71169c8e28fa54df84", func := "loop.example/g01317/laws.FnExactLiftOnce", spec := "fnExactLiftOnce", unfollowed := true, recurses := true, apart := false }
def FnExactLiftOnceSaid : Prop := fnExactLiftOnceRow.holds Try.pinned (OpenSpec.ofChange fnExactLiftOnceSpec)

/-- ITS FALSE NEIGHBOUR: 'it returns false'. Refute it at one input. -/
def fnExactLiftOnceWrong : ChangeSpec := { name := "fnExactLiftOnce", fn := fun _ => fun
  | [d1, d2] => { results := [.lit (.bool false)], args := [d1, d2] }
  | _ => none }
def FnExactLiftOnceWrongFalsely : Prop := fnExactLiftOnceRow.holds Try.pinned (OpenSpec.ofChange fnExactLiftOnceWrong)

/-- 'laws.FnExactDropOnce': WHATEVER THE INPUT: true; the input reads as it did. -/
def fnExactDropOnceSpec : ChangeSpec := { name := "fnExactDropOnce", fn := fun _ => fun
  | [d1, d2, d3] => { results := [.lit (.bool true)], args := [d1, d2, d3] }
  | _ => none }
def fnExactDropOnceRow : OpenClaim := { program := "ytkojmlpaamdhoac", sum := "b6c15aefcea809fcc7c01973f5a5523d1869811cace96c71169c8e28fa54df84", func := "loop.example/g01317/laws.FnExactDropOnce", spec := "fnExactDropOnce", unfollowed := true, recurses := true, apart := false }
def FnExactDropOnceSaid : Prop := fnExactDropOnceRow.holds Try.pinned (OpenSpec.ofChange fnExactDropOnceSpec)

/-- ITS FALSE NEIGHBOUR: 'it returns false'. Refute it at one input. -/
def fnExactDropOnceWrong : ChangeSpec := { name := "fnExactDropOnce", fn := fun _ => fun
  | [d1, d2, d3] => { results := [.lit (.bool false)], args := [d1, d2, d3] }
  | _ => none }
def FnExactDropOnceWrongFalsely : Prop := fnExactDropOnceRow.holds Try.pinned (OpenSpec.ofChange fnExactDropOnceWrong)

/-- 'laws.FnExactDistanceOf': WHATEVER THE INPUT: true; the input reads as it did. -/
def fnExactDistanceOfSpec : ChangeSpec := { name := "fnExactDistanceOf", fn := fun _ => fun
  | [d1, d2] => { results := [.lit (.bool true)], args := [d1, d2] }
  | _ => none }
def fnExactDistanceOfRow : OpenClaim := { program := "ytkojmlpaamdhoac", sum := "b6c15aefcea809fcc7c01973f5a5523d1869811cace96c71169c8e28fa54df84", func := "loop.example/g01317/laws.FnExactDistanceOf", spec := "fnExactDistanceOf", inPlace := ["math.sqrt"], apart := false }
def FnExactDistanceOfSaid : Prop := fnExactDistanceOfRow.holds Try.pinned (OpenSpec.ofChange fnExactDistanceOfSpec)

/-- ITS FALSE NEIGHBOUR: 'it returns false'. Refute it at one input. -/
def fnExactDistanceOfWrong : ChangeSpec := { name := "fnExactDistanceOf", fn := fun _ => fun
  | [d1, d2] => { results := [.lit (.bool false)], args := [d1, d2] }
  | _ => none }
def FnExactDistanceOfWrongFalsely : Prop := fnExactDistanceOfRow.holds Try.pinned (OpenSpec.ofChange fnExactDistanceOfWrong)

/- THE SECOND FORM. 'bulk': how many values and letters a reading holds, each counted each time it is reached (what is shared counts as often as it is met; a slice's spare places count too). A statement '..UptoSaid' is the law's where the arguments, and the package variables that the reading takes, are together of bulk at most 1048576: NARROWER than '..Said'. Prove '..Said' where nothing that the law and all that it calls make is longer than what came in: it says more and counts as full. Else prove '..UptoSaid'. A law counts once. -/
mutual
def uptoBulk {H : Type} : DataW H → Nat
  | .lit (.string bytes) => bytes.length + 1
  | .lit _ => 1
  | .nil => 1
  | .ptr d => uptoBulk d + 1
  | .slice elems spare => uptoBulkAll elems + uptoBulkAll spare + 1
  | .agg parts => uptoBulkAll parts + 1
  | .iface _ d => uptoBulk d + 1
  | .map entries => uptoBulkEntries entries + 1
  | .held _ => 1
def uptoBulkAll {H : Type} : List (DataW H) → Nat
  | [] => 0
  | d :: r => uptoBulk d + uptoBulkAll r
def uptoBulkEntries {H : Type} : List (Lit × DataW H) → Nat
  | [] => 0
  | x :: r => uptoBulkEntry x + uptoBulkEntries r
def uptoBulkEntry {H : Type} : Lit × DataW H → Nat
  | (.string bytes, d) => bytes.length + uptoBulk d + 1
  | (_, d) => uptoBulk d + 1
 end
def uptoSmall : (H : Type) → List (DataW H) → Bool := fun _ ds => decide (uptoBulkAll ds ≤ 1048576)
def OpenSpec.upto (s : _root_.Go.ChangeSpec) : _root_.Go.OpenSpec := { _root_.Go.OpenSpec.ofChange s with cond := some uptoSmall }

/-- 'laws.FnExactFrameOf', WHERE WHAT IT READS IS OF BULK AT MOST 1048576: true; the input reads as it did. -/
def fnExactFrameOfUptoRow : OpenClaim := { program := "ytkojmlpaamdhoac", sum := "b6c15aefcea809fcc7c01973f5a5523d1869811cace96c71169c8e28fa54df84", func := "loop.example/g01317/laws.FnExactFrameOf", spec := "fnExactFrameOf", unfollowed := true, recurses := true, apart := false, narrowed := true }
def FnExactFrameOfUptoSaid : Prop := fnExactFrameOfUptoRow.holds Try.pinned (OpenSpec.upto fnExactFrameOfSpec)

/-- 'laws.FnExactSoftPicture', WHERE WHAT IT READS IS OF BULK AT MOST 1048576: true; the input reads as it did. -/
def fnExactSoftPictureUptoRow : OpenClaim := { program := "ytkojmlpaamdhoac", sum := "b6c15aefcea809fcc7c01973f5a5523d1869811cace96c71169c8e28fa54df84", func := "loop.example/g01317/laws.FnExactSoftPicture", spec := "fnExactSoftPicture", unfollowed := true, recurses := true, apart := false, narrowed := true }
def FnExactSoftPictureUptoSaid : Prop := fnExactSoftPictureUptoRow.holds Try.pinned (OpenSpec.upto fnExactSoftPictureSpec)

/-- 'laws.FnExactDropIntegers', WHERE WHAT IT READS IS OF BULK AT MOST 1048576: true; the input reads as it did. -/
def fnExactDropIntegersUptoRow : OpenClaim := { program := "ytkojmlpaamdhoac", sum := "b6c15aefcea809fcc7c01973f5a5523d1869811cace96c71169c8e28fa54df84", func := "loop.example/g01317/laws.FnExactDropIntegers", spec := "fnExactDropIntegers", unfollowed := true, recurses := true, apart := false, narrowed := true }
def FnExactDropIntegersUptoSaid : Prop := fnExactDropIntegersUptoRow.holds Try.pinned (OpenSpec.upto fnExactDropIntegersSpec)

/-- 'laws.FnExactLiftIntegers', WHERE WHAT IT READS IS OF BULK AT MOST 1048576: true; the input reads as it did. -/
def fnExactLiftIntegersUptoRow : OpenClaim := { program := "ytkojmlpaamdhoac", sum := "b6c15aefcea809fcc7c01973f5a5523d1869811cace96c71169c8e28fa54df84", func := "loop.example/g01317/laws.FnExactLiftIntegers", spec := "fnExactLiftIntegers", unfollowed := true, recurses := true, apart := false, narrowed := true }
def FnExactLiftIntegersUptoSaid : Prop := fnExactLiftIntegersUptoRow.holds Try.pinned (OpenSpec.upto fnExactLiftIntegersSpec)

/-- 'laws.FnExactPowersOfBands', WHERE WHAT IT READS IS OF BULK AT MOST 1048576: true; the input reads as it did. -/
def fnExactPowersOfBandsUptoRow : OpenClaim := { program := "ytkojmlpaamdhoac", sum := "b6c15aefcea809fcc7c01973f5a5523d1869811cace96c71169c8e28fa54df84", func := "loop.example/g01317/laws.FnExactPowersOfBands", spec := "fnExactPowersOfBands", apart := false, narrowed := true }
def FnExactPowersOfBandsUptoSaid : Prop := fnExactPowersOfBandsUptoRow.holds Try.pinned (OpenSpec.upto fnExactPowersOfBandsSpec)

/-- 'laws.FnExactListEnergies', WHERE WHAT IT READS IS OF BULK AT MOST 1048576: true; the input reads as it did. -/
def fnExactListEnergiesUptoRow : OpenClaim := { program := "ytkojmlpaamdhoac", sum := "b6c15aefcea809fcc7c01973f5a5523d1869811cace96c71169c8e28fa54df84", func := "loop.example/g01317/laws.FnExactListEnergies", spec := "fnExactListEnergies", apart := false, narrowed := true }
def FnExactListEnergiesUptoSaid : Prop := fnExactListEnergiesUptoRow.holds Try.pinned (OpenSpec.upto fnExactListEnergiesSpec)

/-- 'laws.FnExactJoinRing', WHERE WHAT IT READS IS OF BULK AT MOST 1048576: true; the input reads as it did. -/
def fnExactJoinRingUptoRow : OpenClaim := { program := "ytkojmlpaamdhoac", sum := "b6c15aefcea809fcc7c01973f5a5523d1869811cace96c71169c8e28fa54df84", func := "loop.example/g01317/laws.FnExactJoinRing", spec := "fnExactJoinRing", apart := false, narrowed := true }
def FnExactJoinRingUptoSaid : Prop := fnExactJoinRingUptoRow.holds Try.pinned (OpenSpec.upto fnExactJoinRingSpec)

/-- 'laws.FnExactQuietPicture', WHERE WHAT IT READS IS OF BULK AT MOST 1048576: true; the input reads as it did. -/
def fnExactQuietPictureUptoRow : OpenClaim := { program := "ytkojmlpaamdhoac", sum := "b6c15aefcea809fcc7c01973f5a5523d1869811cace96c71169c8e28fa54df84", func := "loop.example/g01317/laws.FnExactQuietPicture", spec := "fnExactQuietPicture", unfollowed := true, recurses := true, apart := false, narrowed := true }
def FnExactQuietPictureUptoSaid : Prop := fnExactQuietPictureUptoRow.holds Try.pinned (OpenSpec.upto fnExactQuietPictureSpec)

/-- 'laws.FnExactSplitRing', WHERE WHAT IT READS IS OF BULK AT MOST 1048576: true; the input reads as it did. -/
def fnExactSplitRingUptoRow : OpenClaim := { program := "ytkojmlpaamdhoac", sum := "b6c15aefcea809fcc7c01973f5a5523d1869811cace96c71169c8e28fa54df84", func := "loop.example/g01317/laws.FnExactSplitRing", spec := "fnExactSplitRing", apart := false, narrowed := true }
def FnExactSplitRingUptoSaid : Prop := fnExactSplitRingUptoRow.holds Try.pinned (OpenSpec.upto fnExactSplitRingSpec)

/-- 'laws.FnExactLiftOnce', WHERE WHAT IT READS IS OF BULK AT MOST 1048576: true; the input reads as it did. -/
def fnExactLiftOnceUptoRow : OpenClaim := { program := "ytkojmlpaamdhoac", sum := "b6c15aefcea809fcc7c01973f5a5523d1869811cace96c71169c8e28fa54df84", func := "loop.example/g01317/laws.FnExactLiftOnce", spec := "fnExactLiftOnce", unfollowed := true, recurses := true, apart := false, narrowed := true }
def FnExactLiftOnceUptoSaid : Prop := fnExactLiftOnceUptoRow.holds Try.pinned (OpenSpec.upto fnExactLiftOnceSpec)

/-- 'laws.FnExactDropOnce', WHERE WHAT IT READS IS OF BULK AT MOST 1048576: true; the input reads as it did. -/
def fnExactDropOnceUptoRow : OpenClaim := { program := "ytkojmlpaamdhoac", sum := "b6c15aefcea809fcc7c01973f5a5523d1869811cace96c71169c8e28fa54df84", func := "loop.example/g01317/laws.FnExactDropOnce", spec := "fnExactDropOnce", unfollowed := true, recurses := true, apart := false, narrowed := true }
def FnExactDropOnceUptoSaid : Prop := fnExactDropOnceUptoRow.holds Try.pinned (OpenSpec.upto fnExactDropOnceSpec)

/-- 'laws.FnExactDistanceOf', WHERE WHAT IT READS IS OF BULK AT MOST 1048576: true; the input reads as it did. -/
def fnExactDistanceOfUptoRow : OpenClaim := { program := "ytkojmlpaamdhoac", sum := "b6c15aefcea809fcc7c01973f5a5523d1869811cace96c71169c8e28fa54df84", func := "loop.example/g01317/laws.FnExactDistanceOf", spec := "fnExactDistanceOf", inPlace := ["math.sqrt"], apart := false, narrowed := true }
def FnExactDistanceOfUptoSaid : Prop := fnExactDistanceOfUptoRow.holds Try.pinned (OpenSpec.upto fnExactDistanceOfSpec)

end Rows
end Go.Proofs.Ytkojmlpaamdhoac
