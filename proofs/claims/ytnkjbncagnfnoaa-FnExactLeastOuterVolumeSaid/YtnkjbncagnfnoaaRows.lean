/-
  No cell of these rows narrows 'for every input' (looked for: loops, veiled, ifaces, maps, wideKeys, modest, calm, conditions, laid).
  DERIVED. THE GIVEN ROWS OF THIS SEAT. 13 by the template 'for every input the law returns true; each argument reads behind the call as it read before'; 0 by the template 'total and deterministic' (their statements: YtnkjbncagnfnoaaTotals.lean).
  GIVEN WITH THE SEED: the statements are not yours to turn. If you find one false, say at which input.
  Laid BY PROGRAM, IN A SANDBOX (cutbox-rows.mjs): the forced cells as the released guide's own fill.sh prints them over the translation b5d10c1fd50cb09a… (all of the seat's roots in one cut). By AI agents, Wed Nov 11 2026. No macro, syntax, notation, axiom, sorry.
-/
import Derived.Test.YtnkjbncagnfnoaaChecked
import GoSem.Claim
import GoSem.ClaimJoined
import GoSem.ClaimMapViews
import Derived.JoinedTies
import Derived.KernelRfl
namespace Go.Proofs.Ytnkjbncagnfnoaa
/- THE CELL 'sum', in the pinned program and in every row, IS THE sha256 OF THE DUMP (.gsa) THAT YtnkjbncagnfnoaaProg.lean LOADS. Nothing in Lean hashes anything: it is a label: what it is worth is what the hold of that sum in a sandbox is worth. -/
noncomputable def Try.pinned : Pinned := { name := "ytnkjbncagnfnoaa", sum := "b5d10c1fd50cb09af01951329578b3d5aff103d6ee04a87f3d7a7368e5c85fa0", checked := Try.checked }
namespace Rows
def none {H : Type} : Left H := { results := [], args := [] }

/-- 'laws.FnExactFitsTurned': WHATEVER THE INPUT: true; the input reads as it did. -/
def fnExactFitsTurnedSpec : ChangeSpec := { name := "fnExactFitsTurned", fn := fun _ => fun
  | [d1, d2] => { results := [.lit (.bool true)], args := [d1, d2] }
  | _ => none }
def fnExactFitsTurnedRow : OpenClaim := { program := "ytnkjbncagnfnoaa", sum := "b5d10c1fd50cb09af01951329578b3d5aff103d6ee04a87f3d7a7368e5c85fa0", func := "loop.example/g01334/laws.FnExactFitsTurned", spec := "fnExactFitsTurned", unfollowed := true, recurses := true, apart := false }
def FnExactFitsTurnedSaid : Prop := fnExactFitsTurnedRow.holds Try.pinned (OpenSpec.ofChange fnExactFitsTurnedSpec)

/-- ITS FALSE NEIGHBOUR: 'it returns false'. Refute it at one input. -/
def fnExactFitsTurnedWrong : ChangeSpec := { name := "fnExactFitsTurned", fn := fun _ => fun
  | [d1, d2] => { results := [.lit (.bool false)], args := [d1, d2] }
  | _ => none }
def FnExactFitsTurnedWrongFalsely : Prop := fnExactFitsTurnedRow.holds Try.pinned (OpenSpec.ofChange fnExactFitsTurnedWrong)

/-- 'laws.FnExactIsNesting': WHATEVER THE INPUT: true; the input reads as it did. -/
def fnExactIsNestingSpec : ChangeSpec := { name := "fnExactIsNesting", fn := fun _ => fun
  | [d1, d2] => { results := [.lit (.bool true)], args := [d1, d2] }
  | _ => none }
def fnExactIsNestingRow : OpenClaim := { program := "ytnkjbncagnfnoaa", sum := "b5d10c1fd50cb09af01951329578b3d5aff103d6ee04a87f3d7a7368e5c85fa0", func := "loop.example/g01334/laws.FnExactIsNesting", spec := "fnExactIsNesting", unfollowed := true, recurses := true, apart := false }
def FnExactIsNestingSaid : Prop := fnExactIsNestingRow.holds Try.pinned (OpenSpec.ofChange fnExactIsNestingSpec)

/-- ITS FALSE NEIGHBOUR: 'it returns false'. Refute it at one input. -/
def fnExactIsNestingWrong : ChangeSpec := { name := "fnExactIsNesting", fn := fun _ => fun
  | [d1, d2] => { results := [.lit (.bool false)], args := [d1, d2] }
  | _ => none }
def FnExactIsNestingWrongFalsely : Prop := fnExactIsNestingRow.holds Try.pinned (OpenSpec.ofChange fnExactIsNestingWrong)

/-- 'laws.FnExactLongestNest': WHATEVER THE INPUT: true; the input reads as it did. -/
def fnExactLongestNestSpec : ChangeSpec := { name := "fnExactLongestNest", fn := fun _ => fun
  | [d] => { results := [.lit (.bool true)], args := [d] }
  | _ => none }
def fnExactLongestNestRow : OpenClaim := { program := "ytnkjbncagnfnoaa", sum := "b5d10c1fd50cb09af01951329578b3d5aff103d6ee04a87f3d7a7368e5c85fa0", func := "loop.example/g01334/laws.FnExactLongestNest", spec := "fnExactLongestNest", unfollowed := true, recurses := true, apart := false }
def FnExactLongestNestSaid : Prop := fnExactLongestNestRow.holds Try.pinned (OpenSpec.ofChange fnExactLongestNestSpec)

/-- ITS FALSE NEIGHBOUR: 'it returns false'. Refute it at one input. -/
def fnExactLongestNestWrong : ChangeSpec := { name := "fnExactLongestNest", fn := fun _ => fun
  | [d] => { results := [.lit (.bool false)], args := [d] }
  | _ => none }
def FnExactLongestNestWrongFalsely : Prop := fnExactLongestNestRow.holds Try.pinned (OpenSpec.ofChange fnExactLongestNestWrong)

/-- 'laws.FnExactApartBoxes': WHATEVER THE INPUT: true; the input reads as it did. -/
def fnExactApartBoxesSpec : ChangeSpec := { name := "fnExactApartBoxes", fn := fun _ => fun
  | [d] => { results := [.lit (.bool true)], args := [d] }
  | _ => none }
def fnExactApartBoxesRow : OpenClaim := { program := "ytnkjbncagnfnoaa", sum := "b5d10c1fd50cb09af01951329578b3d5aff103d6ee04a87f3d7a7368e5c85fa0", func := "loop.example/g01334/laws.FnExactApartBoxes", spec := "fnExactApartBoxes", unfollowed := true, recurses := true, apart := false }
def FnExactApartBoxesSaid : Prop := fnExactApartBoxesRow.holds Try.pinned (OpenSpec.ofChange fnExactApartBoxesSpec)

/-- ITS FALSE NEIGHBOUR: 'it returns false'. Refute it at one input. -/
def fnExactApartBoxesWrong : ChangeSpec := { name := "fnExactApartBoxes", fn := fun _ => fun
  | [d] => { results := [.lit (.bool false)], args := [d] }
  | _ => none }
def FnExactApartBoxesWrongFalsely : Prop := fnExactApartBoxesRow.holds Try.pinned (OpenSpec.ofChange fnExactApartBoxesWrong)

/-- 'laws.FnExactPairsFitting': WHATEVER THE INPUT: true; the input reads as it did. -/
def fnExactPairsFittingSpec : ChangeSpec := { name := "fnExactPairsFitting", fn := fun _ => fun
  | [d] => { results := [.lit (.bool true)], args := [d] }
  | _ => none }
def fnExactPairsFittingRow : OpenClaim := { program := "ytnkjbncagnfnoaa", sum := "b5d10c1fd50cb09af01951329578b3d5aff103d6ee04a87f3d7a7368e5c85fa0", func := "loop.example/g01334/laws.FnExactPairsFitting", spec := "fnExactPairsFitting", unfollowed := true, recurses := true, apart := false }
def FnExactPairsFittingSaid : Prop := fnExactPairsFittingRow.holds Try.pinned (OpenSpec.ofChange fnExactPairsFittingSpec)

/-- ITS FALSE NEIGHBOUR: 'it returns false'. Refute it at one input. -/
def fnExactPairsFittingWrong : ChangeSpec := { name := "fnExactPairsFitting", fn := fun _ => fun
  | [d] => { results := [.lit (.bool false)], args := [d] }
  | _ => none }
def FnExactPairsFittingWrongFalsely : Prop := fnExactPairsFittingRow.holds Try.pinned (OpenSpec.ofChange fnExactPairsFittingWrong)

/-- 'laws.FnExactCountNestings': WHATEVER THE INPUT: true; the input reads as it did. -/
def fnExactCountNestingsSpec : ChangeSpec := { name := "fnExactCountNestings", fn := fun _ => fun
  | [d] => { results := [.lit (.bool true)], args := [d] }
  | _ => none }
def fnExactCountNestingsRow : OpenClaim := { program := "ytnkjbncagnfnoaa", sum := "b5d10c1fd50cb09af01951329578b3d5aff103d6ee04a87f3d7a7368e5c85fa0", func := "loop.example/g01334/laws.FnExactCountNestings", spec := "fnExactCountNestings", unfollowed := true, recurses := true, apart := false }
def FnExactCountNestingsSaid : Prop := fnExactCountNestingsRow.holds Try.pinned (OpenSpec.ofChange fnExactCountNestingsSpec)

/-- ITS FALSE NEIGHBOUR: 'it returns false'. Refute it at one input. -/
def fnExactCountNestingsWrong : ChangeSpec := { name := "fnExactCountNestings", fn := fun _ => fun
  | [d] => { results := [.lit (.bool false)], args := [d] }
  | _ => none }
def FnExactCountNestingsWrongFalsely : Prop := fnExactCountNestingsRow.holds Try.pinned (OpenSpec.ofChange fnExactCountNestingsWrong)

/-- 'laws.FnExactFewestOuter': WHATEVER THE INPUT: true; the input reads as it did. -/
def fnExactFewestOuterSpec : ChangeSpec := { name := "fnExactFewestOuter", fn := fun _ => fun
  | [d] => { results := [.lit (.bool true)], args := [d] }
  | _ => none }
def fnExactFewestOuterRow : OpenClaim := { program := "ytnkjbncagnfnoaa", sum := "b5d10c1fd50cb09af01951329578b3d5aff103d6ee04a87f3d7a7368e5c85fa0", func := "loop.example/g01334/laws.FnExactFewestOuter", spec := "fnExactFewestOuter", unfollowed := true, recurses := true, apart := false }
def FnExactFewestOuterSaid : Prop := fnExactFewestOuterRow.holds Try.pinned (OpenSpec.ofChange fnExactFewestOuterSpec)

/-- ITS FALSE NEIGHBOUR: 'it returns false'. Refute it at one input. -/
def fnExactFewestOuterWrong : ChangeSpec := { name := "fnExactFewestOuter", fn := fun _ => fun
  | [d] => { results := [.lit (.bool false)], args := [d] }
  | _ => none }
def FnExactFewestOuterWrongFalsely : Prop := fnExactFewestOuterRow.holds Try.pinned (OpenSpec.ofChange fnExactFewestOuterWrong)

/-- 'laws.FnExactLeastOuterVolume': WHATEVER THE INPUT: true; the input reads as it did. -/
def fnExactLeastOuterVolumeSpec : ChangeSpec := { name := "fnExactLeastOuterVolume", fn := fun _ => fun
  | [d] => { results := [.lit (.bool true)], args := [d] }
  | _ => none }
def fnExactLeastOuterVolumeRow : OpenClaim := { program := "ytnkjbncagnfnoaa", sum := "b5d10c1fd50cb09af01951329578b3d5aff103d6ee04a87f3d7a7368e5c85fa0", func := "loop.example/g01334/laws.FnExactLeastOuterVolume", spec := "fnExactLeastOuterVolume", unfollowed := true, recurses := true, apart := false }
def FnExactLeastOuterVolumeSaid : Prop := fnExactLeastOuterVolumeRow.holds Try.pinned (OpenSpec.ofChange fnExactLeastOuterVolumeSpec)

/-- ITS FALSE NEIGHBOUR: 'it returns false'. Refute it at one input. -/
def fnExactLeastOuterVolumeWrong : ChangeSpec := { name := "fnExactLeastOuterVolume", fn := fun _ => fun
  | [d] => { results := [.lit (.bool false)], args := [d] }
  | _ => none }
def FnExactLeastOuterVolumeWrongFalsely : Prop := fnExactLeastOuterVolumeRow.holds Try.pinned (OpenSpec.ofChange fnExactLeastOuterVolumeWrong)

/-- 'laws.FnExactDepthsOf': WHATEVER THE INPUT: true; the input reads as it did. -/
def fnExactDepthsOfSpec : ChangeSpec := { name := "fnExactDepthsOf", fn := fun _ => fun
  | [d1, d2] => { results := [.lit (.bool true)], args := [d1, d2] }
  | _ => none }
def fnExactDepthsOfRow : OpenClaim := { program := "ytnkjbncagnfnoaa", sum := "b5d10c1fd50cb09af01951329578b3d5aff103d6ee04a87f3d7a7368e5c85fa0", func := "loop.example/g01334/laws.FnExactDepthsOf", spec := "fnExactDepthsOf", unfollowed := true, recurses := true, apart := false }
def FnExactDepthsOfSaid : Prop := fnExactDepthsOfRow.holds Try.pinned (OpenSpec.ofChange fnExactDepthsOfSpec)

/-- ITS FALSE NEIGHBOUR: 'it returns false'. Refute it at one input. -/
def fnExactDepthsOfWrong : ChangeSpec := { name := "fnExactDepthsOf", fn := fun _ => fun
  | [d1, d2] => { results := [.lit (.bool false)], args := [d1, d2] }
  | _ => none }
def FnExactDepthsOfWrongFalsely : Prop := fnExactDepthsOfRow.holds Try.pinned (OpenSpec.ofChange fnExactDepthsOfWrong)

/-- 'laws.FnExactContentsOf': WHATEVER THE INPUT: true; the input reads as it did. -/
def fnExactContentsOfSpec : ChangeSpec := { name := "fnExactContentsOf", fn := fun _ => fun
  | [d1, d2, d3] => { results := [.lit (.bool true)], args := [d1, d2, d3] }
  | _ => none }
def fnExactContentsOfRow : OpenClaim := { program := "ytnkjbncagnfnoaa", sum := "b5d10c1fd50cb09af01951329578b3d5aff103d6ee04a87f3d7a7368e5c85fa0", func := "loop.example/g01334/laws.FnExactContentsOf", spec := "fnExactContentsOf", unfollowed := true, recurses := true, apart := false }
def FnExactContentsOfSaid : Prop := fnExactContentsOfRow.holds Try.pinned (OpenSpec.ofChange fnExactContentsOfSpec)

/-- ITS FALSE NEIGHBOUR: 'it returns false'. Refute it at one input. -/
def fnExactContentsOfWrong : ChangeSpec := { name := "fnExactContentsOf", fn := fun _ => fun
  | [d1, d2, d3] => { results := [.lit (.bool false)], args := [d1, d2, d3] }
  | _ => none }
def FnExactContentsOfWrongFalsely : Prop := fnExactContentsOfRow.holds Try.pinned (OpenSpec.ofChange fnExactContentsOfWrong)

/-- 'laws.FnExactOuterBoxes': WHATEVER THE INPUT: true; the input reads as it did. -/
def fnExactOuterBoxesSpec : ChangeSpec := { name := "fnExactOuterBoxes", fn := fun _ => fun
  | [d1, d2] => { results := [.lit (.bool true)], args := [d1, d2] }
  | _ => none }
def fnExactOuterBoxesRow : OpenClaim := { program := "ytnkjbncagnfnoaa", sum := "b5d10c1fd50cb09af01951329578b3d5aff103d6ee04a87f3d7a7368e5c85fa0", func := "loop.example/g01334/laws.FnExactOuterBoxes", spec := "fnExactOuterBoxes", unfollowed := true, recurses := true, apart := false }
def FnExactOuterBoxesSaid : Prop := fnExactOuterBoxesRow.holds Try.pinned (OpenSpec.ofChange fnExactOuterBoxesSpec)

/-- ITS FALSE NEIGHBOUR: 'it returns false'. Refute it at one input. -/
def fnExactOuterBoxesWrong : ChangeSpec := { name := "fnExactOuterBoxes", fn := fun _ => fun
  | [d1, d2] => { results := [.lit (.bool false)], args := [d1, d2] }
  | _ => none }
def FnExactOuterBoxesWrongFalsely : Prop := fnExactOuterBoxesRow.holds Try.pinned (OpenSpec.ofChange fnExactOuterBoxesWrong)

/-- 'laws.FnExactTakeOut': WHATEVER THE INPUT: true; the input reads as it did. -/
def fnExactTakeOutSpec : ChangeSpec := { name := "fnExactTakeOut", fn := fun _ => fun
  | [d1, d2, d3] => { results := [.lit (.bool true)], args := [d1, d2, d3] }
  | _ => none }
def fnExactTakeOutRow : OpenClaim := { program := "ytnkjbncagnfnoaa", sum := "b5d10c1fd50cb09af01951329578b3d5aff103d6ee04a87f3d7a7368e5c85fa0", func := "loop.example/g01334/laws.FnExactTakeOut", spec := "fnExactTakeOut", unfollowed := true, recurses := true, apart := false }
def FnExactTakeOutSaid : Prop := fnExactTakeOutRow.holds Try.pinned (OpenSpec.ofChange fnExactTakeOutSpec)

/-- ITS FALSE NEIGHBOUR: 'it returns false'. Refute it at one input. -/
def fnExactTakeOutWrong : ChangeSpec := { name := "fnExactTakeOut", fn := fun _ => fun
  | [d1, d2, d3] => { results := [.lit (.bool false)], args := [d1, d2, d3] }
  | _ => none }
def FnExactTakeOutWrongFalsely : Prop := fnExactTakeOutRow.holds Try.pinned (OpenSpec.ofChange fnExactTakeOutWrong)

/-- 'laws.FnExactFirstNesting': WHATEVER THE INPUT: true; the input reads as it did. -/
def fnExactFirstNestingSpec : ChangeSpec := { name := "fnExactFirstNesting", fn := fun _ => fun
  | [d] => { results := [.lit (.bool true)], args := [d] }
  | _ => none }
def fnExactFirstNestingRow : OpenClaim := { program := "ytnkjbncagnfnoaa", sum := "b5d10c1fd50cb09af01951329578b3d5aff103d6ee04a87f3d7a7368e5c85fa0", func := "loop.example/g01334/laws.FnExactFirstNesting", spec := "fnExactFirstNesting", unfollowed := true, recurses := true, apart := false }
def FnExactFirstNestingSaid : Prop := fnExactFirstNestingRow.holds Try.pinned (OpenSpec.ofChange fnExactFirstNestingSpec)

/-- ITS FALSE NEIGHBOUR: 'it returns false'. Refute it at one input. -/
def fnExactFirstNestingWrong : ChangeSpec := { name := "fnExactFirstNesting", fn := fun _ => fun
  | [d] => { results := [.lit (.bool false)], args := [d] }
  | _ => none }
def FnExactFirstNestingWrongFalsely : Prop := fnExactFirstNestingRow.holds Try.pinned (OpenSpec.ofChange fnExactFirstNestingWrong)

/- THE SECOND FORM. 'bulk': how many values and letters a reading holds, each counted each time it is reached (what is shared counts as often as it is met; a slice's spare places count too). A statement '..UptoSaid' is the law's where the arguments, and the package variables that the reading takes, are together of bulk at most 1048576: NARROWER than '..Said'. Prove '..Said' where nothing that the law and all that it calls make is longer than what came in: it says more and counts as full. Else prove '..UptoSaid'. A law counts once. -/
mutual
def uptoBulk {H : Type} : DataW H → Nat
  | .lit (.string bytes) => bytes.length + 1
  | .lit _ => 1
  | .nil => 1
  | .ptr d => uptoBulk d + 1
  | .slice elems spare => uptoBulkAll elems + uptoBulkAll spare + 1
  | .agg parts => uptoBulkAll parts + 1
  | .iface _ d => uptoBulk d + 1
  | .map entries => uptoBulkEntries entries + 1
  | .held _ => 1
def uptoBulkAll {H : Type} : List (DataW H) → Nat
  | [] => 0
  | d :: r => uptoBulk d + uptoBulkAll r
def uptoBulkEntries {H : Type} : List (Lit × DataW H) → Nat
  | [] => 0
  | x :: r => uptoBulkEntry x + uptoBulkEntries r
def uptoBulkEntry {H : Type} : Lit × DataW H → Nat
  | (.string bytes, d) => bytes.length + uptoBulk d + 1
  | (_, d) => uptoBulk d + 1
 end
def uptoSmall : (H : Type) → List (DataW H) → Bool := fun _ ds => decide (uptoBulkAll ds ≤ 1048576)
def OpenSpec.upto (s : _root_.Go.ChangeSpec) : _root_.Go.OpenSpec := { _root_.Go.OpenSpec.ofChange s with cond := some uptoSmall }

/-- 'laws.FnExactFitsTurned', WHERE WHAT IT READS IS OF BULK AT MOST 1048576: true; the input reads as it did. -/
def fnExactFitsTurnedUptoRow : OpenClaim := { program := "ytnkjbncagnfnoaa", sum := "b5d10c1fd50cb09af01951329578b3d5aff103d6ee04a87f3d7a7368e5c85fa0", func := "loop.example/g01334/laws.FnExactFitsTurned", spec := "fnExactFitsTurned", unfollowed := true, recurses := true, apart := false, narrowed := true }
def FnExactFitsTurnedUptoSaid : Prop := fnExactFitsTurnedUptoRow.holds Try.pinned (OpenSpec.upto fnExactFitsTurnedSpec)

/-- 'laws.FnExactIsNesting', WHERE WHAT IT READS IS OF BULK AT MOST 1048576: true; the input reads as it did. -/
def fnExactIsNestingUptoRow : OpenClaim := { program := "ytnkjbncagnfnoaa", sum := "b5d10c1fd50cb09af01951329578b3d5aff103d6ee04a87f3d7a7368e5c85fa0", func := "loop.example/g01334/laws.FnExactIsNesting", spec := "fnExactIsNesting", unfollowed := true, recurses := true, apart := false, narrowed := true }
def FnExactIsNestingUptoSaid : Prop := fnExactIsNestingUptoRow.holds Try.pinned (OpenSpec.upto fnExactIsNestingSpec)

/-- 'laws.FnExactLongestNest', WHERE WHAT IT READS IS OF BULK AT MOST 1048576: true; the input reads as it did. -/
def fnExactLongestNestUptoRow : OpenClaim := { program := "ytnkjbncagnfnoaa", sum := "b5d10c1fd50cb09af01951329578b3d5aff103d6ee04a87f3d7a7368e5c85fa0", func := "loop.example/g01334/laws.FnExactLongestNest", spec := "fnExactLongestNest", unfollowed := true, recurses := true, apart := false, narrowed := true }
def FnExactLongestNestUptoSaid : Prop := fnExactLongestNestUptoRow.holds Try.pinned (OpenSpec.upto fnExactLongestNestSpec)

/-- 'laws.FnExactApartBoxes', WHERE WHAT IT READS IS OF BULK AT MOST 1048576: true; the input reads as it did. -/
def fnExactApartBoxesUptoRow : OpenClaim := { program := "ytnkjbncagnfnoaa", sum := "b5d10c1fd50cb09af01951329578b3d5aff103d6ee04a87f3d7a7368e5c85fa0", func := "loop.example/g01334/laws.FnExactApartBoxes", spec := "fnExactApartBoxes", unfollowed := true, recurses := true, apart := false, narrowed := true }
def FnExactApartBoxesUptoSaid : Prop := fnExactApartBoxesUptoRow.holds Try.pinned (OpenSpec.upto fnExactApartBoxesSpec)

/-- 'laws.FnExactPairsFitting', WHERE WHAT IT READS IS OF BULK AT MOST 1048576: true; the input reads as it did. -/
def fnExactPairsFittingUptoRow : OpenClaim := { program := "ytnkjbncagnfnoaa", sum := "b5d10c1fd50cb09af01951329578b3d5aff103d6ee04a87f3d7a7368e5c85fa0", func := "loop.example/g01334/laws.FnExactPairsFitting", spec := "fnExactPairsFitting", unfollowed := true, recurses := true, apart := false, narrowed := true }
def FnExactPairsFittingUptoSaid : Prop := fnExactPairsFittingUptoRow.holds Try.pinned (OpenSpec.upto fnExactPairsFittingSpec)

/-- 'laws.FnExactCountNestings', WHERE WHAT IT READS IS OF BULK AT MOST 1048576: true; the input reads as it did. -/
def fnExactCountNestingsUptoRow : OpenClaim := { program := "ytnkjbncagnfnoaa", sum := "b5d10c1fd50cb09af01951329578b3d5aff103d6ee04a87f3d7a7368e5c85fa0", func := "loop.example/g01334/laws.FnExactCountNestings", spec := "fnExactCountNestings", unfollowed := true, recurses := true, apart := false, narrowed := true }
def FnExactCountNestingsUptoSaid : Prop := fnExactCountNestingsUptoRow.holds Try.pinned (OpenSpec.upto fnExactCountNestingsSpec)

/-- 'laws.FnExactFewestOuter', WHERE WHAT IT READS IS OF BULK AT MOST 1048576: true; the input reads as it did. -/
def fnExactFewestOuterUptoRow : OpenClaim := { program := "ytnkjbncagnfnoaa", sum := "b5d10c1fd50cb09af01951329578b3d5aff103d6ee04a87f3d7a7368e5c85fa0", func := "loop.example/g01334/laws.FnExactFewestOuter", spec := "fnExactFewestOuter", unfollowed := true, recurses := true, apart := false, narrowed := true }
def FnExactFewestOuterUptoSaid : Prop := fnExactFewestOuterUptoRow.holds Try.pinned (OpenSpec.upto fnExactFewestOuterSpec)

/-- 'laws.FnExactLeastOuterVolume', WHERE WHAT IT READS IS OF BULK AT MOST 1048576: true; the input reads as it did. -/
def fnExactLeastOuterVolumeUptoRow : OpenClaim := { program := "ytnkjbncagnfnoaa", sum := "b5d10c1fd50cb09af01951329578b3d5aff103d6ee04a87f3d7a7368e5c85fa0", func := "loop.example/g01334/laws.FnExactLeastOuterVolume", spec := "fnExactLeastOuterVolume", unfollowed := true, recurses := true, apart := false, narrowed := true }
def FnExactLeastOuterVolumeUptoSaid : Prop := fnExactLeastOuterVolumeUptoRow.holds Try.pinned (OpenSpec.upto fnExactLeastOuterVolumeSpec)

/-- 'laws.FnExactDepthsOf', WHERE WHAT IT READS IS OF BULK AT MOST 1048576: true; the input reads as it did. -/
def fnExactDepthsOfUptoRow : OpenClaim := { program := "ytnkjbncagnfnoaa", sum := "b5d10c1fd50cb09af01951329578b3d5aff103d6ee04a87f3d7a7368e5c85fa0", func := "loop.example/g01334/laws.FnExactDepthsOf", spec := "fnExactDepthsOf", unfollowed := true, recurses := true, apart := false, narrowed := true }
def FnExactDepthsOfUptoSaid : Prop := fnExactDepthsOfUptoRow.holds Try.pinned (OpenSpec.upto fnExactDepthsOfSpec)

/-- 'laws.FnExactContentsOf', WHERE WHAT IT READS IS OF BULK AT MOST 1048576: true; the input reads as it did. -/
def fnExactContentsOfUptoRow : OpenClaim := { program := "ytnkjbncagnfnoaa", sum := "b5d10c1fd50cb09af01951329578b3d5aff103d6ee04a87f3d7a7368e5c85fa0", func := "loop.example/g01334/laws.FnExactContentsOf", spec := "fnExactContentsOf", unfollowed := true, recurses := true, apart := false, narrowed := true }
def FnExactContentsOfUptoSaid : Prop := fnExactContentsOfUptoRow.holds Try.pinned (OpenSpec.upto fnExactContentsOfSpec)

/-- 'laws.FnExactOuterBoxes', WHERE WHAT IT READS IS OF BULK AT MOST 1048576: true; the input reads as it did. -/
def fnExactOuterBoxesUptoRow : OpenClaim := { program := "ytnkjbncagnfnoaa", sum := "b5d10c1fd50cb09af01951329578b3d5aff103d6ee04a87f3d7a7368e5c85fa0", func := "loop.example/g01334/laws.FnExactOuterBoxes", spec := "fnExactOuterBoxes", unfollowed := true, recurses := true, apart := false, narrowed := true }
def FnExactOuterBoxesUptoSaid : Prop := fnExactOuterBoxesUptoRow.holds Try.pinned (OpenSpec.upto fnExactOuterBoxesSpec)

/-- 'laws.FnExactTakeOut', WHERE WHAT IT READS IS OF BULK AT MOST 1048576: true; the input reads as it did. -/
def fnExactTakeOutUptoRow : OpenClaim := { program := "ytnkjbncagnfnoaa", sum := "b5d10c1fd50cb09af01951329578b3d5aff103d6ee04a87f3d7a7368e5c85fa0", func := "loop.example/g01334/laws.FnExactTakeOut", spec := "fnExactTakeOut", unfollowed := true, recurses := true, apart := false, narrowed := true }
def FnExactTakeOutUptoSaid : Prop := fnExactTakeOutUptoRow.holds Try.pinned (OpenSpec.upto fnExactTakeOutSpec)

/-- 'laws.FnExactFirstNesting', WHERE WHAT IT READS IS OF BULK AT MOST 1048576: true; the input reads as it did. -/
def fnExactFirstNestingUptoRow : OpenClaim := { program := "ytnkjbncagnfnoaa", sum := "b5d10c1fd50cb09af01951329578b3d5aff103d6ee04a87f3d7a7368e5c85fa0", func := "loop.example/g01334/laws.FnExactFirstNesting", spec := "fnExactFirstNesting", unfollowed := true, recurses := true, apart := false, narrowed := true }
def FnExactFirstNestingUptoSaid : Prop := fnExactFirstNestingUptoRow.holds Try.pinned (OpenSpec.upto fnExactFirstNestingSpec)

end Rows
end Go.Proofs.Ytnkjbncagnfnoaa
