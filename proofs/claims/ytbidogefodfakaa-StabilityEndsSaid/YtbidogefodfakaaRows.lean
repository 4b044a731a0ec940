/-
  No cell of these rows narrows 'for every input' (looked for: loops, veiled, ifaces, maps, wideKeys, modest, calm, conditions, laid).
  DERIVED. THE GIVEN ROWS OF THIS SEAT. 9 by the template 'for every input the law returns true; each argument reads behind the call as it read before'; 0 by the template 'total and deterministic' (their statements: YtbidogefodfakaaTotals.lean).
  GIVEN WITH THE SEED: the statements are not yours to turn. If you find one false, say at which input.
  Laid BY PROGRAM, IN A SANDBOX (cutbox-rows.mjs): the forced cells as the released guide's own fill.sh prints them over the translation 3d3cdd6ad458d02b… (all of the seat's roots in one cut). By AI agents, Wed Nov 11 2026. No macro, syntax, notation, axiom, sorry.
-/
import Derived.Test.YtbidogefodfakaaChecked
import GoSem.Claim
import GoSem.ClaimJoined
import GoSem.ClaimMapViews
import Derived.JoinedTies
import Derived.KernelRfl
namespace Go.Proofs.Ytbidogefodfakaa
/- THE CELL 'sum', in the pinned program and in every row, IS THE sha256 OF THE DUMP (.gsa) THAT YtbidogefodfakaaProg.lean LOADS. Nothing in Lean hashes anything: it is a label: what it is worth is what the hold of that sum in a sandbox is worth. -/
noncomputable def Try.pinned : Pinned := { name := "ytbidogefodfakaa", sum := "3d3cdd6ad458d02bc4a791feb4a9835e8abef4baf658fe31d2c5485277323911", checked := Try.checked }
namespace Rows
def none {H : Type} : Left H := { results := [], args := [] }

/-- 'timesynclaw48.StabilityRanges': WHATEVER THE INPUT: true; the input reads as it did. -/
def stabilityRangesSpec : ChangeSpec := { name := "stabilityRanges", fn := fun _ => fun
  | [d1, d2] => { results := [.lit (.bool true)], args := [d1, d2] }
  | _ => none }
def stabilityRangesRow : OpenClaim := { program := "ytbidogefodfakaa", sum := "3d3cdd6ad458d02bc4a791feb4a9835e8abef4baf658fe31d2c5485277323911", func := "timesync/timesynclaw48.StabilityRanges", spec := "stabilityRanges", inPlace := ["math/bits.Add64"], unfollowed := true, recurses := true, named := ["math/bits.divideError", "math/bits.overflowError"], apart := false }
def StabilityRangesSaid : Prop := stabilityRangesRow.holds Try.pinned (OpenSpec.ofChange stabilityRangesSpec)

/-- ITS FALSE NEIGHBOUR: 'it returns false'. Refute it at one input. -/
def stabilityRangesWrong : ChangeSpec := { name := "stabilityRanges", fn := fun _ => fun
  | [d1, d2] => { results := [.lit (.bool false)], args := [d1, d2] }
  | _ => none }
def StabilityRangesWrongFalsely : Prop := stabilityRangesRow.holds Try.pinned (OpenSpec.ofChange stabilityRangesWrong)

/-- 'timesynclaw48.StabilityAllan': WHATEVER THE INPUT: true; the input reads as it did. -/
def stabilityAllanSpec : ChangeSpec := { name := "stabilityAllan", fn := fun _ => fun
  | [d1, d2] => { results := [.lit (.bool true)], args := [d1, d2] }
  | _ => none }
def stabilityAllanRow : OpenClaim := { program := "ytbidogefodfakaa", sum := "3d3cdd6ad458d02bc4a791feb4a9835e8abef4baf658fe31d2c5485277323911", func := "timesync/timesynclaw48.StabilityAllan", spec := "stabilityAllan", inPlace := ["math/bits.Add64"], unfollowed := true, recurses := true, named := ["math/bits.divideError", "math/bits.overflowError"], apart := false }
def StabilityAllanSaid : Prop := stabilityAllanRow.holds Try.pinned (OpenSpec.ofChange stabilityAllanSpec)

/-- ITS FALSE NEIGHBOUR: 'it returns false'. Refute it at one input. -/
def stabilityAllanWrong : ChangeSpec := { name := "stabilityAllan", fn := fun _ => fun
  | [d1, d2] => { results := [.lit (.bool false)], args := [d1, d2] }
  | _ => none }
def StabilityAllanWrongFalsely : Prop := stabilityAllanRow.holds Try.pinned (OpenSpec.ofChange stabilityAllanWrong)

/-- 'timesynclaw48.StabilityModified': WHATEVER THE INPUT: true; the input reads as it did. -/
def stabilityModifiedSpec : ChangeSpec := { name := "stabilityModified", fn := fun _ => fun
  | [d1, d2] => { results := [.lit (.bool true)], args := [d1, d2] }
  | _ => none }
def stabilityModifiedRow : OpenClaim := { program := "ytbidogefodfakaa", sum := "3d3cdd6ad458d02bc4a791feb4a9835e8abef4baf658fe31d2c5485277323911", func := "timesync/timesynclaw48.StabilityModified", spec := "stabilityModified", inPlace := ["math/bits.Add64"], unfollowed := true, recurses := true, named := ["math/bits.divideError", "math/bits.overflowError"], apart := false }
def StabilityModifiedSaid : Prop := stabilityModifiedRow.holds Try.pinned (OpenSpec.ofChange stabilityModifiedSpec)

/-- ITS FALSE NEIGHBOUR: 'it returns false'. Refute it at one input. -/
def stabilityModifiedWrong : ChangeSpec := { name := "stabilityModified", fn := fun _ => fun
  | [d1, d2] => { results := [.lit (.bool false)], args := [d1, d2] }
  | _ => none }
def StabilityModifiedWrongFalsely : Prop := stabilityModifiedRow.holds Try.pinned (OpenSpec.ofChange stabilityModifiedWrong)

/-- 'timesynclaw48.StabilityBlind': WHATEVER THE INPUT: true; the input reads as it did. -/
def stabilityBlindSpec : ChangeSpec := { name := "stabilityBlind", fn := fun _ => fun
  | [d1, d2, d3, d4] => { results := [.lit (.bool true)], args := [d1, d2, d3, d4] }
  | _ => none }
def stabilityBlindRow : OpenClaim := { program := "ytbidogefodfakaa", sum := "3d3cdd6ad458d02bc4a791feb4a9835e8abef4baf658fe31d2c5485277323911", func := "timesync/timesynclaw48.StabilityBlind", spec := "stabilityBlind", inPlace := ["math/bits.Add64"], unfollowed := true, recurses := true, named := ["math/bits.divideError", "math/bits.overflowError"], apart := false }
def StabilityBlindSaid : Prop := stabilityBlindRow.holds Try.pinned (OpenSpec.ofChange stabilityBlindSpec)

/-- ITS FALSE NEIGHBOUR: 'it returns false'. Refute it at one input. -/
def stabilityBlindWrong : ChangeSpec := { name := "stabilityBlind", fn := fun _ => fun
  | [d1, d2, d3, d4] => { results := [.lit (.bool false)], args := [d1, d2, d3, d4] }
  | _ => none }
def StabilityBlindWrongFalsely : Prop := stabilityBlindRow.holds Try.pinned (OpenSpec.ofChange stabilityBlindWrong)

/-- 'timesynclaw48.StabilityOne': WHATEVER THE INPUT: true; the input reads as it did. -/
def stabilityOneSpec : ChangeSpec := { name := "stabilityOne", fn := fun _ => fun
  | [d] => { results := [.lit (.bool true)], args := [d] }
  | _ => none }
def stabilityOneRow : OpenClaim := { program := "ytbidogefodfakaa", sum := "3d3cdd6ad458d02bc4a791feb4a9835e8abef4baf658fe31d2c5485277323911", func := "timesync/timesynclaw48.StabilityOne", spec := "stabilityOne", inPlace := ["math/bits.Add64"], unfollowed := true, recurses := true, named := ["math/bits.divideError", "math/bits.overflowError"], apart := false }
def StabilityOneSaid : Prop := stabilityOneRow.holds Try.pinned (OpenSpec.ofChange stabilityOneSpec)

/-- ITS FALSE NEIGHBOUR: 'it returns false'. Refute it at one input. -/
def stabilityOneWrong : ChangeSpec := { name := "stabilityOne", fn := fun _ => fun
  | [d] => { results := [.lit (.bool false)], args := [d] }
  | _ => none }
def StabilityOneWrongFalsely : Prop := stabilityOneRow.holds Try.pinned (OpenSpec.ofChange stabilityOneWrong)

/-- 'timesynclaw48.StabilityScales': WHATEVER THE INPUT: true; the input reads as it did. -/
def stabilityScalesSpec : ChangeSpec := { name := "stabilityScales", fn := fun _ => fun
  | [d1, d2, d3] => { results := [.lit (.bool true)], args := [d1, d2, d3] }
  | _ => none }
def stabilityScalesRow : OpenClaim := { program := "ytbidogefodfakaa", sum := "3d3cdd6ad458d02bc4a791feb4a9835e8abef4baf658fe31d2c5485277323911", func := "timesync/timesynclaw48.StabilityScales", spec := "stabilityScales", inPlace := ["math/bits.Add64"], unfollowed := true, recurses := true, named := ["math/bits.divideError", "math/bits.overflowError"], apart := false }
def StabilityScalesSaid : Prop := stabilityScalesRow.holds Try.pinned (OpenSpec.ofChange stabilityScalesSpec)

/-- ITS FALSE NEIGHBOUR: 'it returns false'. Refute it at one input. -/
def stabilityScalesWrong : ChangeSpec := { name := "stabilityScales", fn := fun _ => fun
  | [d1, d2, d3] => { results := [.lit (.bool false)], args := [d1, d2, d3] }
  | _ => none }
def StabilityScalesWrongFalsely : Prop := stabilityScalesRow.holds Try.pinned (OpenSpec.ofChange stabilityScalesWrong)

/-- 'timesynclaw48.StabilityLists': WHATEVER THE INPUT: true; the input reads as it did. -/
def stabilityListsSpec : ChangeSpec := { name := "stabilityLists", fn := fun _ => fun
  | [d1, d2] => { results := [.lit (.bool true)], args := [d1, d2] }
  | _ => none }
def stabilityListsRow : OpenClaim := { program := "ytbidogefodfakaa", sum := "3d3cdd6ad458d02bc4a791feb4a9835e8abef4baf658fe31d2c5485277323911", func := "timesync/timesynclaw48.StabilityLists", spec := "stabilityLists", inPlace := ["math/bits.Add64"], unfollowed := true, recurses := true, named := ["math/bits.divideError", "math/bits.overflowError"], apart := false }
def StabilityListsSaid : Prop := stabilityListsRow.holds Try.pinned (OpenSpec.ofChange stabilityListsSpec)

/-- ITS FALSE NEIGHBOUR: 'it returns false'. Refute it at one input. -/
def stabilityListsWrong : ChangeSpec := { name := "stabilityLists", fn := fun _ => fun
  | [d1, d2] => { results := [.lit (.bool false)], args := [d1, d2] }
  | _ => none }
def StabilityListsWrongFalsely : Prop := stabilityListsRow.holds Try.pinned (OpenSpec.ofChange stabilityListsWrong)

/-- 'timesynclaw48.StabilityGrows': WHATEVER THE INPUT: true; the input reads as it did. -/
def stabilityGrowsSpec : ChangeSpec := { name := "stabilityGrows", fn := fun _ => fun
  | [d] => { results := [.lit (.bool true)], args := [d] }
  | _ => none }
def stabilityGrowsRow : OpenClaim := { program := "ytbidogefodfakaa", sum := "3d3cdd6ad458d02bc4a791feb4a9835e8abef4baf658fe31d2c5485277323911", func := "timesync/timesynclaw48.StabilityGrows", spec := "stabilityGrows", inPlace := ["math/bits.Add64"], unfollowed := true, recurses := true, named := ["math/bits.divideError", "math/bits.overflowError"], apart := false }
def StabilityGrowsSaid : Prop := stabilityGrowsRow.holds Try.pinned (OpenSpec.ofChange stabilityGrowsSpec)

/-- ITS FALSE NEIGHBOUR: 'it returns false'. Refute it at one input. -/
def stabilityGrowsWrong : ChangeSpec := { name := "stabilityGrows", fn := fun _ => fun
  | [d] => { results := [.lit (.bool false)], args := [d] }
  | _ => none }
def StabilityGrowsWrongFalsely : Prop := stabilityGrowsRow.holds Try.pinned (OpenSpec.ofChange stabilityGrowsWrong)

/-- 'timesynclaw48.StabilityEnds': WHATEVER THE INPUT: true; the input reads as it did. -/
def stabilityEndsSpec : ChangeSpec := { name := "stabilityEnds", fn := fun _ => fun
  | [d1, d2, d3] => { results := [.lit (.bool true)], args := [d1, d2, d3] }
  | _ => none }
def stabilityEndsRow : OpenClaim := { program := "ytbidogefodfakaa", sum := "3d3cdd6ad458d02bc4a791feb4a9835e8abef4baf658fe31d2c5485277323911", func := "timesync/timesynclaw48.StabilityEnds", spec := "stabilityEnds", inPlace := ["math/bits.Add64"], unfollowed := true, recurses := true, named := ["math/bits.divideError", "math/bits.overflowError"], apart := false }
def StabilityEndsSaid : Prop := stabilityEndsRow.holds Try.pinned (OpenSpec.ofChange stabilityEndsSpec)

/-- ITS FALSE NEIGHBOUR: 'it returns false'. Refute it at one input. -/
def stabilityEndsWrong : ChangeSpec := { name := "stabilityEnds", fn := fun _ => fun
  | [d1, d2, d3] => { results := [.lit (.bool false)], args := [d1, d2, d3] }
  | _ => none }
def StabilityEndsWrongFalsely : Prop := stabilityEndsRow.holds Try.pinned (OpenSpec.ofChange stabilityEndsWrong)

/- THE SECOND FORM. 'bulk': how many values and letters a reading holds, each counted each time it is reached (what is shared counts as often as it is met; a slice's spare places count too). A statement '..UptoSaid' is the law's where the arguments, and the package variables that the reading takes, are together of bulk at most 1048576: NARROWER than '..Said'. Prove '..Said' where nothing that the law and all that it calls make is longer than what came in: it says more and counts as full. Else prove '..UptoSaid'. A law counts once. -/
mutual
def uptoBulk {H : Type} : DataW H → Nat
  | .lit (.string bytes) => bytes.length + 1
  | .lit _ => 1
  | .nil => 1
  | .ptr d => uptoBulk d + 1
  | .slice elems spare => uptoBulkAll elems + uptoBulkAll spare + 1
  | .agg parts => uptoBulkAll parts + 1
  | .iface _ d => uptoBulk d + 1
  | .map entries => uptoBulkEntries entries + 1
  | .held _ => 1
def uptoBulkAll {H : Type} : List (DataW H) → Nat
  | [] => 0
  | d :: r => uptoBulk d + uptoBulkAll r
def uptoBulkEntries {H : Type} : List (Lit × DataW H) → Nat
  | [] => 0
  | x :: r => uptoBulkEntry x + uptoBulkEntries r
def uptoBulkEntry {H : Type} : Lit × DataW H → Nat
  | (.string bytes, d) => bytes.length + uptoBulk d + 1
  | (_, d) => uptoBulk d + 1
 end
def uptoSmall : (H : Type) → List (DataW H) → Bool := fun _ ds => decide (uptoBulkAll ds ≤ 1048576)
def OpenSpec.upto (s : _root_.Go.ChangeSpec) : _root_.Go.OpenSpec := { _root_.Go.OpenSpec.ofChange s with cond := some uptoSmall }

/-- 'timesynclaw48.StabilityRanges', WHERE WHAT IT READS IS OF BULK AT MOST 1048576: true; the input reads as it did. -/
def stabilityRangesUptoRow : OpenClaim := { program := "ytbidogefodfakaa", sum := "3d3cdd6ad458d02bc4a791feb4a9835e8abef4baf658fe31d2c5485277323911", func := "timesync/timesynclaw48.StabilityRanges", spec := "stabilityRanges", inPlace := ["math/bits.Add64"], unfollowed := true, recurses := true, named := ["math/bits.divideError", "math/bits.overflowError"], apart := false, narrowed := true }
def StabilityRangesUptoSaid : Prop := stabilityRangesUptoRow.holds Try.pinned (OpenSpec.upto stabilityRangesSpec)

/-- 'timesynclaw48.StabilityAllan', WHERE WHAT IT READS IS OF BULK AT MOST 1048576: true; the input reads as it did. -/
def stabilityAllanUptoRow : OpenClaim := { program := "ytbidogefodfakaa", sum := "3d3cdd6ad458d02bc4a791feb4a9835e8abef4baf658fe31d2c5485277323911", func := "timesync/timesynclaw48.StabilityAllan", spec := "stabilityAllan", inPlace := ["math/bits.Add64"], unfollowed := true, recurses := true, named := ["math/bits.divideError", "math/bits.overflowError"], apart := false, narrowed := true }
def StabilityAllanUptoSaid : Prop := stabilityAllanUptoRow.holds Try.pinned (OpenSpec.upto stabilityAllanSpec)

/-- 'timesynclaw48.StabilityModified', WHERE WHAT IT READS IS OF BULK AT MOST 1048576: true; the input reads as it did. -/
def stabilityModifiedUptoRow : OpenClaim := { program := "ytbidogefodfakaa", sum := "3d3cdd6ad458d02bc4a791feb4a9835e8abef4baf658fe31d2c5485277323911", func := "timesync/timesynclaw48.StabilityModified", spec := "stabilityModified", inPlace := ["math/bits.Add64"], unfollowed := true, recurses := true, named := ["math/bits.divideError", "math/bits.overflowError"], apart := false, narrowed := true }
def StabilityModifiedUptoSaid : Prop := stabilityModifiedUptoRow.holds Try.pinned (OpenSpec.upto stabilityModifiedSpec)

/-- 'timesynclaw48.StabilityBlind', WHERE WHAT IT READS IS OF BULK AT MOST 1048576: true; the input reads as it did. -/
def stabilityBlindUptoRow : OpenClaim := { program := "ytbidogefodfakaa", sum := "3d3cdd6ad458d02bc4a791feb4a9835e8abef4baf658fe31d2c5485277323911", func := "timesync/timesynclaw48.StabilityBlind", spec := "stabilityBlind", inPlace := ["math/bits.Add64"], unfollowed := true, recurses := true, named := ["math/bits.divideError", "math/bits.overflowError"], apart := false, narrowed := true }
def StabilityBlindUptoSaid : Prop := stabilityBlindUptoRow.holds Try.pinned (OpenSpec.upto stabilityBlindSpec)

/-- 'timesynclaw48.StabilityOne', WHERE WHAT IT READS IS OF BULK AT MOST 1048576: true; the input reads as it did. -/
def stabilityOneUptoRow : OpenClaim := { program := "ytbidogefodfakaa", sum := "3d3cdd6ad458d02bc4a791feb4a9835e8abef4baf658fe31d2c5485277323911", func := "timesync/timesynclaw48.StabilityOne", spec := "stabilityOne", inPlace := ["math/bits.Add64"], unfollowed := true, recurses := true, named := ["math/bits.divideError", "math/bits.overflowError"], apart := false, narrowed := true }
def StabilityOneUptoSaid : Prop := stabilityOneUptoRow.holds Try.pinned (OpenSpec.upto stabilityOneSpec)

/-- 'timesynclaw48.StabilityScales', WHERE WHAT IT READS IS OF BULK AT MOST 1048576: true; the input reads as it did. -/
def stabilityScalesUptoRow : OpenClaim := { program := "ytbidogefodfakaa", sum := "3d3cdd6ad458d02bc4a791feb4a9835e8abef4baf658fe31d2c5485277323911", func := "timesync/timesynclaw48.StabilityScales", spec := "stabilityScales", inPlace := ["math/bits.Add64"], unfollowed := true, recurses := true, named := ["math/bits.divideError", "math/bits.overflowError"], apart := false, narrowed := true }
def StabilityScalesUptoSaid : Prop := stabilityScalesUptoRow.holds Try.pinned (OpenSpec.upto stabilityScalesSpec)

/-- 'timesynclaw48.StabilityLists', WHERE WHAT IT READS IS OF BULK AT MOST 1048576: true; the input reads as it did. -/
def stabilityListsUptoRow : OpenClaim := { program := "ytbidogefodfakaa", sum := "3d3cdd6ad458d02bc4a791feb4a9835e8abef4baf658fe31d2c5485277323911", func := "timesync/timesynclaw48.StabilityLists", spec := "stabilityLists", inPlace := ["math/bits.Add64"], unfollowed := true, recurses := true, named := ["math/bits.divideError", "math/bits.overflowError"], apart := false, narrowed := true }
def StabilityListsUptoSaid : Prop := stabilityListsUptoRow.holds Try.pinned (OpenSpec.upto stabilityListsSpec)

/-- 'timesynclaw48.StabilityGrows', WHERE WHAT IT READS IS OF BULK AT MOST 1048576: true; the input reads as it did. -/
def stabilityGrowsUptoRow : OpenClaim := { program := "ytbidogefodfakaa", sum := "3d3cdd6ad458d02bc4a791feb4a9835e8abef4baf658fe31d2c5485277323911", func := "timesync/timesynclaw48.StabilityGrows", spec := "stabilityGrows", inPlace := ["math/bits.Add64"], unfollowed := true, recurses := true, named := ["math/bits.divideError", "math/bits.overflowError"], apart := false, narrowed := true }
def StabilityGrowsUptoSaid : Prop := stabilityGrowsUptoRow.holds Try.pinned (OpenSpec.upto stabilityGrowsSpec)

/-- 'timesynclaw48.StabilityEnds', WHERE WHAT IT READS IS OF BULK AT MOST 1048576: true; the input reads as it did. -/
def stabilityEndsUptoRow : OpenClaim := { program := "ytbidogefodfakaa", sum := "3d3cdd6ad458d02bc4a791feb4a9835e8abef4baf658fe31d2c5485277323911", func := "timesync/timesynclaw48.StabilityEnds", spec := "stabilityEnds", inPlace := ["math/bits.Add64"], unfollowed := true, recurses := true, named := ["math/bits.divideError", "math/bits.overflowError"], apart := false, narrowed := true }
def StabilityEndsUptoSaid : Prop := stabilityEndsUptoRow.holds Try.pinned (OpenSpec.upto stabilityEndsSpec)

end Rows
end Go.Proofs.Ytbidogefodfakaa
