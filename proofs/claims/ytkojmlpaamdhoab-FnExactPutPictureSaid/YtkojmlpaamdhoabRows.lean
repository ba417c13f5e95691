/-
  No cell of these rows narrows 'for every input' (looked for: loops, veiled, ifaces, maps, wideKeys, modest, calm, conditions, laid).
  DERIVED. THE GIVEN ROWS OF THIS SEAT. 11 by the template 'for every input the law returns true; each argument reads behind the call as it read before'; 0 by the template 'total and deterministic' (their statements: YtkojmlpaamdhoabTotals.lean).
  GIVEN WITH THE SEED: the statements are not yours to turn. If you find one false, say at which input.
  Laid BY PROGRAM, IN A SANDBOX (cutbox-rows.mjs): the forced cells as the released guide's own fill.sh prints them over the translation 036b1f50c5de0ab9… (all of the seat's roots in one cut). By AI agents, Wed Nov 11 2026. No macro, syntax, notation, axiom, sorry.
-/
import Derived.Test.YtkojmlpaamdhoabChecked
import GoSem.Claim
import GoSem.ClaimJoined
import GoSem.ClaimMapViews
import Derived.JoinedTies
import Derived.KernelRfl
namespace Go.Proofs.Ytkojmlpaamdhoab
/- THE CELL 'sum', in the pinned program and in every row, IS THE sha256 OF THE DUMP (.gsa) THAT YtkojmlpaamdhoabProg.lean LOADS. Nothing in Lean hashes anything: it is a label: what it is worth is what the hold of that sum in a sandbox is worth. -/
noncomputable def Try.pinned : Pinned := { name := "ytkojmlpaamdhoab", sum := "036b1f50c5de0ab92ef4a0c867d382f2a2ed9c2654d1a3edff6036e567e05ff8", checked := Try.checked }
namespace Rows
def none {H : Type} : Left H := { results := [], args := [] }

/-- 'laws.FnExactValidBands': WHATEVER THE INPUT: true; the input reads as it did. -/
def fnExactValidBandsSpec : ChangeSpec := { name := "fnExactValidBands", fn := fun _ => fun
  | [d] => { results := [.lit (.bool true)], args := [d] }
  | _ => none }
def fnExactValidBandsRow : OpenClaim := { program := "ytkojmlpaamdhoab", sum := "036b1f50c5de0ab92ef4a0c867d382f2a2ed9c2654d1a3edff6036e567e05ff8", func := "loop.example/g01317/laws.FnExactValidBands", spec := "fnExactValidBands", apart := false }
def FnExactValidBandsSaid : Prop := fnExactValidBandsRow.holds Try.pinned (OpenSpec.ofChange fnExactValidBandsSpec)

/-- ITS FALSE NEIGHBOUR: 'it returns false'. Refute it at one input. -/
def fnExactValidBandsWrong : ChangeSpec := { name := "fnExactValidBands", fn := fun _ => fun
  | [d] => { results := [.lit (.bool false)], args := [d] }
  | _ => none }
def FnExactValidBandsWrongFalsely : Prop := fnExactValidBandsRow.holds Try.pinned (OpenSpec.ofChange fnExactValidBandsWrong)

/-- 'laws.FnExactPutPicture': WHATEVER THE INPUT: true; the input reads as it did. -/
def fnExactPutPictureSpec : ChangeSpec := { name := "fnExactPutPicture", fn := fun _ => fun
  | [d1, d2, d3, d4] => { results := [.lit (.bool true)], args := [d1, d2, d3, d4] }
  | _ => none }
def fnExactPutPictureRow : OpenClaim := { program := "ytkojmlpaamdhoab", sum := "036b1f50c5de0ab92ef4a0c867d382f2a2ed9c2654d1a3edff6036e567e05ff8", func := "loop.example/g01317/laws.FnExactPutPicture", spec := "fnExactPutPicture", apart := false }
def FnExactPutPictureSaid : Prop := fnExactPutPictureRow.holds Try.pinned (OpenSpec.ofChange fnExactPutPictureSpec)

/-- ITS FALSE NEIGHBOUR: 'it returns false'. Refute it at one input. -/
def fnExactPutPictureWrong : ChangeSpec := { name := "fnExactPutPicture", fn := fun _ => fun
  | [d1, d2, d3, d4] => { results := [.lit (.bool false)], args := [d1, d2, d3, d4] }
  | _ => none }
def FnExactPutPictureWrongFalsely : Prop := fnExactPutPictureRow.holds Try.pinned (OpenSpec.ofChange fnExactPutPictureWrong)

/-- 'laws.FnExactSwapSides': WHATEVER THE INPUT: true; the input reads as it did. -/
def fnExactSwapSidesSpec : ChangeSpec := { name := "fnExactSwapSides", fn := fun _ => fun
  | [d] => { results := [.lit (.bool true)], args := [d] }
  | _ => none }
def fnExactSwapSidesRow : OpenClaim := { program := "ytkojmlpaamdhoab", sum := "036b1f50c5de0ab92ef4a0c867d382f2a2ed9c2654d1a3edff6036e567e05ff8", func := "loop.example/g01317/laws.FnExactSwapSides", spec := "fnExactSwapSides", unfollowed := true, recurses := true, apart := false }
def FnExactSwapSidesSaid : Prop := fnExactSwapSidesRow.holds Try.pinned (OpenSpec.ofChange fnExactSwapSidesSpec)

/-- ITS FALSE NEIGHBOUR: 'it returns false'. Refute it at one input. -/
def fnExactSwapSidesWrong : ChangeSpec := { name := "fnExactSwapSides", fn := fun _ => fun
  | [d] => { results := [.lit (.bool false)], args := [d] }
  | _ => none }
def FnExactSwapSidesWrongFalsely : Prop := fnExactSwapSidesRow.holds Try.pinned (OpenSpec.ofChange fnExactSwapSidesWrong)

/-- 'laws.FnExactSameBands': WHATEVER THE INPUT: true; the input reads as it did. -/
def fnExactSameBandsSpec : ChangeSpec := { name := "fnExactSameBands", fn := fun _ => fun
  | [d1, d2] => { results := [.lit (.bool true)], args := [d1, d2] }
  | _ => none }
def fnExactSameBandsRow : OpenClaim := { program := "ytkojmlpaamdhoab", sum := "036b1f50c5de0ab92ef4a0c867d382f2a2ed9c2654d1a3edff6036e567e05ff8", func := "loop.example/g01317/laws.FnExactSameBands", spec := "fnExactSameBands", inPlace := ["math.Float32bits", "math.Float64bits"], apart := false }
def FnExactSameBandsSaid : Prop := fnExactSameBandsRow.holds Try.pinned (OpenSpec.ofChange fnExactSameBandsSpec)

/-- ITS FALSE NEIGHBOUR: 'it returns false'. Refute it at one input. -/
def fnExactSameBandsWrong : ChangeSpec := { name := "fnExactSameBands", fn := fun _ => fun
  | [d1, d2] => { results := [.lit (.bool false)], args := [d1, d2] }
  | _ => none }
def FnExactSameBandsWrongFalsely : Prop := fnExactSameBandsRow.holds Try.pinned (OpenSpec.ofChange fnExactSameBandsWrong)

/-- 'laws.FnExactRoughestPlace': WHATEVER THE INPUT: true; the input reads as it did. -/
def fnExactRoughestPlaceSpec : ChangeSpec := { name := "fnExactRoughestPlace", fn := fun _ => fun
  | [d1, d2] => { results := [.lit (.bool true)], args := [d1, d2] }
  | _ => none }
def fnExactRoughestPlaceRow : OpenClaim := { program := "ytkojmlpaamdhoab", sum := "036b1f50c5de0ab92ef4a0c867d382f2a2ed9c2654d1a3edff6036e567e05ff8", func := "loop.example/g01317/laws.FnExactRoughestPlace", spec := "fnExactRoughestPlace", apart := false }
def FnExactRoughestPlaceSaid : Prop := fnExactRoughestPlaceRow.holds Try.pinned (OpenSpec.ofChange fnExactRoughestPlaceSpec)

/-- ITS FALSE NEIGHBOUR: 'it returns false'. Refute it at one input. -/
def fnExactRoughestPlaceWrong : ChangeSpec := { name := "fnExactRoughestPlace", fn := fun _ => fun
  | [d1, d2] => { results := [.lit (.bool false)], args := [d1, d2] }
  | _ => none }
def FnExactRoughestPlaceWrongFalsely : Prop := fnExactRoughestPlaceRow.holds Try.pinned (OpenSpec.ofChange fnExactRoughestPlaceWrong)

/-- 'laws.FnExactCropPicture': WHATEVER THE INPUT: true; the input reads as it did. -/
def fnExactCropPictureSpec : ChangeSpec := { name := "fnExactCropPicture", fn := fun _ => fun
  | [d1, d2, d3, d4, d5] => { results := [.lit (.bool true)], args := [d1, d2, d3, d4, d5] }
  | _ => none }
def fnExactCropPictureRow : OpenClaim := { program := "ytkojmlpaamdhoab", sum := "036b1f50c5de0ab92ef4a0c867d382f2a2ed9c2654d1a3edff6036e567e05ff8", func := "loop.example/g01317/laws.FnExactCropPicture", spec := "fnExactCropPicture", unfollowed := true, recurses := true, apart := false }
def FnExactCropPictureSaid : Prop := fnExactCropPictureRow.holds Try.pinned (OpenSpec.ofChange fnExactCropPictureSpec)

/-- ITS FALSE NEIGHBOUR: 'it returns false'. Refute it at one input. -/
def fnExactCropPictureWrong : ChangeSpec := { name := "fnExactCropPicture", fn := fun _ => fun
  | [d1, d2, d3, d4, d5] => { results := [.lit (.bool false)], args := [d1, d2, d3, d4, d5] }
  | _ => none }
def FnExactCropPictureWrongFalsely : Prop := fnExactCropPictureRow.holds Try.pinned (OpenSpec.ofChange fnExactCropPictureWrong)

/-- 'laws.FnExactBlendPictures': WHATEVER THE INPUT: true; the input reads as it did. -/
def fnExactBlendPicturesSpec : ChangeSpec := { name := "fnExactBlendPictures", fn := fun _ => fun
  | [d1, d2, d3] => { results := [.lit (.bool true)], args := [d1, d2, d3] }
  | _ => none }
def fnExactBlendPicturesRow : OpenClaim := { program := "ytkojmlpaamdhoab", sum := "036b1f50c5de0ab92ef4a0c867d382f2a2ed9c2654d1a3edff6036e567e05ff8", func := "loop.example/g01317/laws.FnExactBlendPictures", spec := "fnExactBlendPictures", apart := false }
def FnExactBlendPicturesSaid : Prop := fnExactBlendPicturesRow.holds Try.pinned (OpenSpec.ofChange fnExactBlendPicturesSpec)

/-- ITS FALSE NEIGHBOUR: 'it returns false'. Refute it at one input. -/
def fnExactBlendPicturesWrong : ChangeSpec := { name := "fnExactBlendPictures", fn := fun _ => fun
  | [d1, d2, d3] => { results := [.lit (.bool false)], args := [d1, d2, d3] }
  | _ => none }
def FnExactBlendPicturesWrongFalsely : Prop := fnExactBlendPicturesRow.holds Try.pinned (OpenSpec.ofChange fnExactBlendPicturesWrong)

/-- 'laws.FnExactFromFrame': WHATEVER THE INPUT: true; the input reads as it did. -/
def fnExactFromFrameSpec : ChangeSpec := { name := "fnExactFromFrame", fn := fun _ => fun
  | [d] => { results := [.lit (.bool true)], args := [d] }
  | _ => none }
def fnExactFromFrameRow : OpenClaim := { program := "ytkojmlpaamdhoab", sum := "036b1f50c5de0ab92ef4a0c867d382f2a2ed9c2654d1a3edff6036e567e05ff8", func := "loop.example/g01317/laws.FnExactFromFrame", spec := "fnExactFromFrame", apart := false }
def FnExactFromFrameSaid : Prop := fnExactFromFrameRow.holds Try.pinned (OpenSpec.ofChange fnExactFromFrameSpec)

/-- ITS FALSE NEIGHBOUR: 'it returns false'. Refute it at one input. -/
def fnExactFromFrameWrong : ChangeSpec := { name := "fnExactFromFrame", fn := fun _ => fun
  | [d] => { results := [.lit (.bool false)], args := [d] }
  | _ => none }
def FnExactFromFrameWrongFalsely : Prop := fnExactFromFrameRow.holds Try.pinned (OpenSpec.ofChange fnExactFromFrameWrong)

/-- 'laws.FnExactHighOf': WHATEVER THE INPUT: true; the input reads as it did. -/
def fnExactHighOfSpec : ChangeSpec := { name := "fnExactHighOf", fn := fun _ => fun
  | [d] => { results := [.lit (.bool true)], args := [d] }
  | _ => none }
def fnExactHighOfRow : OpenClaim := { program := "ytkojmlpaamdhoab", sum := "036b1f50c5de0ab92ef4a0c867d382f2a2ed9c2654d1a3edff6036e567e05ff8", func := "loop.example/g01317/laws.FnExactHighOf", spec := "fnExactHighOf", apart := false }
def FnExactHighOfSaid : Prop := fnExactHighOfRow.holds Try.pinned (OpenSpec.ofChange fnExactHighOfSpec)

/-- ITS FALSE NEIGHBOUR: 'it returns false'. Refute it at one input. -/
def fnExactHighOfWrong : ChangeSpec := { name := "fnExactHighOf", fn := fun _ => fun
  | [d] => { results := [.lit (.bool false)], args := [d] }
  | _ => none }
def FnExactHighOfWrongFalsely : Prop := fnExactHighOfRow.holds Try.pinned (OpenSpec.ofChange fnExactHighOfWrong)

/-- 'laws.FnExactFlatBands': WHATEVER THE INPUT: true; the input reads as it did. -/
def fnExactFlatBandsSpec : ChangeSpec := { name := "fnExactFlatBands", fn := fun _ => fun
  | [d] => { results := [.lit (.bool true)], args := [d] }
  | _ => none }
def fnExactFlatBandsRow : OpenClaim := { program := "ytkojmlpaamdhoab", sum := "036b1f50c5de0ab92ef4a0c867d382f2a2ed9c2654d1a3edff6036e567e05ff8", func := "loop.example/g01317/laws.FnExactFlatBands", spec := "fnExactFlatBands", apart := false }
def FnExactFlatBandsSaid : Prop := fnExactFlatBandsRow.holds Try.pinned (OpenSpec.ofChange fnExactFlatBandsSpec)

/-- ITS FALSE NEIGHBOUR: 'it returns false'. Refute it at one input. -/
def fnExactFlatBandsWrong : ChangeSpec := { name := "fnExactFlatBands", fn := fun _ => fun
  | [d] => { results := [.lit (.bool false)], args := [d] }
  | _ => none }
def FnExactFlatBandsWrongFalsely : Prop := fnExactFlatBandsRow.holds Try.pinned (OpenSpec.ofChange fnExactFlatBandsWrong)

/-- 'laws.FnExactRidgeOf': WHATEVER THE INPUT: true; the input reads as it did. -/
def fnExactRidgeOfSpec : ChangeSpec := { name := "fnExactRidgeOf", fn := fun _ => fun
  | [d] => { results := [.lit (.bool true)], args := [d] }
  | _ => none }
def fnExactRidgeOfRow : OpenClaim := { program := "ytkojmlpaamdhoab", sum := "036b1f50c5de0ab92ef4a0c867d382f2a2ed9c2654d1a3edff6036e567e05ff8", func := "loop.example/g01317/laws.FnExactRidgeOf", spec := "fnExactRidgeOf", apart := false }
def FnExactRidgeOfSaid : Prop := fnExactRidgeOfRow.holds Try.pinned (OpenSpec.ofChange fnExactRidgeOfSpec)

/-- ITS FALSE NEIGHBOUR: 'it returns false'. Refute it at one input. -/
def fnExactRidgeOfWrong : ChangeSpec := { name := "fnExactRidgeOf", fn := fun _ => fun
  | [d] => { results := [.lit (.bool false)], args := [d] }
  | _ => none }
def FnExactRidgeOfWrongFalsely : Prop := fnExactRidgeOfRow.holds Try.pinned (OpenSpec.ofChange fnExactRidgeOfWrong)

/- THE SECOND FORM. 'bulk': how many values and letters a reading holds, each counted each time it is reached (what is shared counts as often as it is met; a slice's spare places count too). A statement '..UptoSaid' is the law's where the arguments, and the package variables that the reading takes, are together of bulk at most 1048576: NARROWER than '..Said'. Prove '..Said' where nothing that the law and all that it calls make is longer than what came in: it says more and counts as full. Else prove '..UptoSaid'. A law counts once. -/
mutual
def uptoBulk {H : Type} : DataW H → Nat
  | .lit (.string bytes) => bytes.length + 1
  | .lit _ => 1
  | .nil => 1
  | .ptr d => uptoBulk d + 1
  | .slice elems spare => uptoBulkAll elems + uptoBulkAll spare + 1
  | .agg parts => uptoBulkAll parts + 1
  | .iface _ d => uptoBulk d + 1
  | .map entries => uptoBulkEntries entries + 1
  | .held _ => 1
def uptoBulkAll {H : Type} : List (DataW H) → Nat
  | [] => 0
  | d :: r => uptoBulk d + uptoBulkAll r
def uptoBulkEntries {H : Type} : List (Lit × DataW H) → Nat
  | [] => 0
  | x :: r => uptoBulkEntry x + uptoBulkEntries r
def uptoBulkEntry {H : Type} : Lit × DataW H → Nat
  | (.string bytes, d) => bytes.length + uptoBulk d + 1
  | (_, d) => uptoBulk d + 1
 end
def uptoSmall : (H : Type) → List (DataW H) → Bool := fun _ ds => decide (uptoBulkAll ds ≤ 1048576)
def OpenSpec.upto (s : _root_.Go.ChangeSpec) : _root_.Go.OpenSpec := { _root_.Go.OpenSpec.ofChange s with cond := some uptoSmall }

/-- 'laws.FnExactValidBands', WHERE WHAT IT READS IS OF BULK AT MOST 1048576: true; the input reads as it did. -/
def fnExactValidBandsUptoRow : OpenClaim := { program := "ytkojmlpaamdhoab", sum := "036b1f50c5de0ab92ef4a0c867d382f2a2ed9c2654d1a3edff6036e567e05ff8", func := "loop.example/g01317/laws.FnExactValidBands", spec := "fnExactValidBands", apart := false, narrowed := true }
def FnExactValidBandsUptoSaid : Prop := fnExactValidBandsUptoRow.holds Try.pinned (OpenSpec.upto fnExactValidBandsSpec)

/-- 'laws.FnExactPutPicture', WHERE WHAT IT READS IS OF BULK AT MOST 1048576: true; the input reads as it did. -/
def fnExactPutPictureUptoRow : OpenClaim := { program := "ytkojmlpaamdhoab", sum := "036b1f50c5de0ab92ef4a0c867d382f2a2ed9c2654d1a3edff6036e567e05ff8", func := "loop.example/g01317/laws.FnExactPutPicture", spec := "fnExactPutPicture", apart := false, narrowed := true }
def FnExactPutPictureUptoSaid : Prop := fnExactPutPictureUptoRow.holds Try.pinned (OpenSpec.upto fnExactPutPictureSpec)

/-- 'laws.FnExactSwapSides', WHERE WHAT IT READS IS OF BULK AT MOST 1048576: true; the input reads as it did. -/
def fnExactSwapSidesUptoRow : OpenClaim := { program := "ytkojmlpaamdhoab", sum := "036b1f50c5de0ab92ef4a0c867d382f2a2ed9c2654d1a3edff6036e567e05ff8", func := "loop.example/g01317/laws.FnExactSwapSides", spec := "fnExactSwapSides", unfollowed := true, recurses := true, apart := false, narrowed := true }
def FnExactSwapSidesUptoSaid : Prop := fnExactSwapSidesUptoRow.holds Try.pinned (OpenSpec.upto fnExactSwapSidesSpec)

/-- 'laws.FnExactSameBands', WHERE WHAT IT READS IS OF BULK AT MOST 1048576: true; the input reads as it did. -/
def fnExactSameBandsUptoRow : OpenClaim := { program := "ytkojmlpaamdhoab", sum := "036b1f50c5de0ab92ef4a0c867d382f2a2ed9c2654d1a3edff6036e567e05ff8", func := "loop.example/g01317/laws.FnExactSameBands", spec := "fnExactSameBands", inPlace := ["math.Float32bits", "math.Float64bits"], apart := false, narrowed := true }
def FnExactSameBandsUptoSaid : Prop := fnExactSameBandsUptoRow.holds Try.pinned (OpenSpec.upto fnExactSameBandsSpec)

/-- 'laws.FnExactRoughestPlace', WHERE WHAT IT READS IS OF BULK AT MOST 1048576: true; the input reads as it did. -/
def fnExactRoughestPlaceUptoRow : OpenClaim := { program := "ytkojmlpaamdhoab", sum := "036b1f50c5de0ab92ef4a0c867d382f2a2ed9c2654d1a3edff6036e567e05ff8", func := "loop.example/g01317/laws.FnExactRoughestPlace", spec := "fnExactRoughestPlace", apart := false, narrowed := true }
def FnExactRoughestPlaceUptoSaid : Prop := fnExactRoughestPlaceUptoRow.holds Try.pinned (OpenSpec.upto fnExactRoughestPlaceSpec)

/-- 'laws.FnExactCropPicture', WHERE WHAT IT READS IS OF BULK AT MOST 1048576: true; the input reads as it did. -/
def fnExactCropPictureUptoRow : OpenClaim := { program := "ytkojmlpaamdhoab", sum := "036b1f50c5de0ab92ef4a0c867d382f2a2ed9c2654d1a3edff6036e567e05ff8", func := "loop.example/g01317/laws.FnExactCropPicture", spec := "fnExactCropPicture", unfollowed := true, recurses := true, apart := false, narrowed := true }
def FnExactCropPictureUptoSaid : Prop := fnExactCropPictureUptoRow.holds Try.pinned (OpenSpec.upto fnExactCropPictureSpec)

/-- 'laws.FnExactBlendPictures', WHERE WHAT IT READS IS OF BULK AT MOST 1048576: true; the input reads as it did. -/
def fnExactBlendPicturesUptoRow : OpenClaim := { program := "ytkojmlpaamdhoab", sum := "036b1f50c5de0ab92ef4a0c867d382f2a2ed9c2654d1a3edff6036e567e05ff8", func := "loop.example/g01317/laws.FnExactBlendPictures", spec := "fnExactBlendPictures", apart := false, narrowed := true }
def FnExactBlendPicturesUptoSaid : Prop := fnExactBlendPicturesUptoRow.holds Try.pinned (OpenSpec.upto fnExactBlendPicturesSpec)

/-- 'laws.FnExactFromFrame', WHERE WHAT IT READS IS OF BULK AT MOST 1048576: true; the input reads as it did. -/
def fnExactFromFrameUptoRow : OpenClaim := { program := "ytkojmlpaamdhoab", sum := "036b1f50c5de0ab92ef4a0c867d382f2a2ed9c2654d1a3edff6036e567e05ff8", func := "loop.example/g01317/laws.FnExactFromFrame", spec := "fnExactFromFrame", apart := false, narrowed := true }
def FnExactFromFrameUptoSaid : Prop := fnExactFromFrameUptoRow.holds Try.pinned (OpenSpec.upto fnExactFromFrameSpec)

/-- 'laws.FnExactHighOf', WHERE WHAT IT READS IS OF BULK AT MOST 1048576: true; the input reads as it did. -/
def fnExactHighOfUptoRow : OpenClaim := { program := "ytkojmlpaamdhoab", sum := "036b1f50c5de0ab92ef4a0c867d382f2a2ed9c2654d1a3edff6036e567e05ff8", func := "loop.example/g01317/laws.FnExactHighOf", spec := "fnExactHighOf", apart := false, narrowed := true }
def FnExactHighOfUptoSaid : Prop := fnExactHighOfUptoRow.holds Try.pinned (OpenSpec.upto fnExactHighOfSpec)

/-- 'laws.FnExactFlatBands', WHERE WHAT IT READS IS OF BULK AT MOST 1048576: true; the input reads as it did. -/
def fnExactFlatBandsUptoRow : OpenClaim := { program := "ytkojmlpaamdhoab", sum := "036b1f50c5de0ab92ef4a0c867d382f2a2ed9c2654d1a3edff6036e567e05ff8", func := "loop.example/g01317/laws.FnExactFlatBands", spec := "fnExactFlatBands", apart := false, narrowed := true }
def FnExactFlatBandsUptoSaid : Prop := fnExactFlatBandsUptoRow.holds Try.pinned (OpenSpec.upto fnExactFlatBandsSpec)

/-- 'laws.FnExactRidgeOf', WHERE WHAT IT READS IS OF BULK AT MOST 1048576: true; the input reads as it did. -/
def fnExactRidgeOfUptoRow : OpenClaim := { program := "ytkojmlpaamdhoab", sum := "036b1f50c5de0ab92ef4a0c867d382f2a2ed9c2654d1a3edff6036e567e05ff8", func := "loop.example/g01317/laws.FnExactRidgeOf", spec := "fnExactRidgeOf", apart := false, narrowed := true }
def FnExactRidgeOfUptoSaid : Prop := fnExactRidgeOfUptoRow.holds Try.pinned (OpenSpec.upto fnExactRidgeOfSpec)

end Rows
end Go.Proofs.Ytkojmlpaamdhoab
