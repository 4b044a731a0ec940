/-
  No cell of these rows narrows 'for every input' (looked for: loops, veiled, ifaces, maps, wideKeys, modest, calm, conditions, laid).
  DERIVED. THE GIVEN ROWS OF THIS SEAT. 8 by the template 'for every input the law returns true; each argument reads behind the call as it read before'; 0 by the template 'total and deterministic' (their statements: YtieggiplbghecaaTotals.lean).
  GIVEN WITH THE SEED: the statements are not yours to turn. If you find one false, say at which input.
  Laid BY PROGRAM, IN A SANDBOX (cutbox-rows.mjs): the forced cells as the released guide's own fill.sh prints them over the translation 5fd83673860c77b4… (all of the seat's roots in one cut). By AI agents, Wed Nov 11 2026. No macro, syntax, notation, axiom, sorry.
-/
import Derived.Test.YtieggiplbghecaaChecked
import GoSem.Claim
import GoSem.ClaimJoined
import GoSem.ClaimMapViews
import Derived.JoinedTies
import Derived.KernelRfl
namespace Go.Proofs.Ytieggiplbghecaa
/- THE CELL 'sum', in the pinned program and in every row, IS THE sha256 OF THE DUMP (.gsa) THAT YtieggiplbghecaaProg.lean LOADS. Nothing in Lean hashes anything: it is a label: what it is worth is what the hold of that sum in a sandbox is worth. -/
noncomputable def Try.pinned : Pinned := { name := "ytieggiplbghecaa", sum := "5fd83673860c77b4e8317a73895110a847d1804497a53bb76ea1e0dcc13f3d08", checked := Try.checked }
namespace Rows
def none {H : Type} : Left H := { results := [], args := [] }

/-- 'timesynclaw51.DiffconBounds': WHATEVER THE INPUT: true; the input reads as it did. -/
def diffconBoundsSpec : ChangeSpec := { name := "diffconBounds", fn := fun _ => fun
  | [d1, d2] => { results := [.lit (.bool true)], args := [d1, d2] }
  | _ => none }
def diffconBoundsRow : OpenClaim := { program := "ytieggiplbghecaa", sum := "5fd83673860c77b4e8317a73895110a847d1804497a53bb76ea1e0dcc13f3d08", func := "timesync/timesynclaw51.DiffconBounds", spec := "diffconBounds", unfollowed := true, recurses := true, apart := false }
def DiffconBoundsSaid : Prop := diffconBoundsRow.holds Try.pinned (OpenSpec.ofChange diffconBoundsSpec)

/-- ITS FALSE NEIGHBOUR: 'it returns false'. Refute it at one input. -/
def diffconBoundsWrong : ChangeSpec := { name := "diffconBounds", fn := fun _ => fun
  | [d1, d2] => { results := [.lit (.bool false)], args := [d1, d2] }
  | _ => none }
def DiffconBoundsWrongFalsely : Prop := diffconBoundsRow.holds Try.pinned (OpenSpec.ofChange diffconBoundsWrong)

/-- 'timesynclaw51.DiffconSolves': WHATEVER THE INPUT: true; the input reads as it did. -/
def diffconSolvesSpec : ChangeSpec := { name := "diffconSolves", fn := fun _ => fun
  | [d1, d2, d3, d4] => { results := [.lit (.bool true)], args := [d1, d2, d3, d4] }
  | _ => none }
def diffconSolvesRow : OpenClaim := { program := "ytieggiplbghecaa", sum := "5fd83673860c77b4e8317a73895110a847d1804497a53bb76ea1e0dcc13f3d08", func := "timesync/timesynclaw51.DiffconSolves", spec := "diffconSolves", unfollowed := true, recurses := true, apart := false }
def DiffconSolvesSaid : Prop := diffconSolvesRow.holds Try.pinned (OpenSpec.ofChange diffconSolvesSpec)

/-- ITS FALSE NEIGHBOUR: 'it returns false'. Refute it at one input. -/
def diffconSolvesWrong : ChangeSpec := { name := "diffconSolves", fn := fun _ => fun
  | [d1, d2, d3, d4] => { results := [.lit (.bool false)], args := [d1, d2, d3, d4] }
  | _ => none }
def DiffconSolvesWrongFalsely : Prop := diffconSolvesRow.holds Try.pinned (OpenSpec.ofChange diffconSolvesWrong)

/-- 'timesynclaw51.DiffconHolds': WHATEVER THE INPUT: true; the input reads as it did. -/
def diffconHoldsSpec : ChangeSpec := { name := "diffconHolds", fn := fun _ => fun
  | [d1, d2] => { results := [.lit (.bool true)], args := [d1, d2] }
  | _ => none }
def diffconHoldsRow : OpenClaim := { program := "ytieggiplbghecaa", sum := "5fd83673860c77b4e8317a73895110a847d1804497a53bb76ea1e0dcc13f3d08", func := "timesync/timesynclaw51.DiffconHolds", spec := "diffconHolds", unfollowed := true, recurses := true, apart := false }
def DiffconHoldsSaid : Prop := diffconHoldsRow.holds Try.pinned (OpenSpec.ofChange diffconHoldsSpec)

/-- ITS FALSE NEIGHBOUR: 'it returns false'. Refute it at one input. -/
def diffconHoldsWrong : ChangeSpec := { name := "diffconHolds", fn := fun _ => fun
  | [d1, d2] => { results := [.lit (.bool false)], args := [d1, d2] }
  | _ => none }
def DiffconHoldsWrongFalsely : Prop := diffconHoldsRow.holds Try.pinned (OpenSpec.ofChange diffconHoldsWrong)

/-- 'timesynclaw51.DiffconClosed': WHATEVER THE INPUT: true; the input reads as it did. -/
def diffconClosedSpec : ChangeSpec := { name := "diffconClosed", fn := fun _ => fun
  | [d1, d2] => { results := [.lit (.bool true)], args := [d1, d2] }
  | _ => none }
def diffconClosedRow : OpenClaim := { program := "ytieggiplbghecaa", sum := "5fd83673860c77b4e8317a73895110a847d1804497a53bb76ea1e0dcc13f3d08", func := "timesync/timesynclaw51.DiffconClosed", spec := "diffconClosed", unfollowed := true, recurses := true, apart := false }
def DiffconClosedSaid : Prop := diffconClosedRow.holds Try.pinned (OpenSpec.ofChange diffconClosedSpec)

/-- ITS FALSE NEIGHBOUR: 'it returns false'. Refute it at one input. -/
def diffconClosedWrong : ChangeSpec := { name := "diffconClosed", fn := fun _ => fun
  | [d1, d2] => { results := [.lit (.bool false)], args := [d1, d2] }
  | _ => none }
def DiffconClosedWrongFalsely : Prop := diffconClosedRow.holds Try.pinned (OpenSpec.ofChange diffconClosedWrong)

/-- 'timesynclaw51.DiffconTight': WHATEVER THE INPUT: true; the input reads as it did. -/
def diffconTightSpec : ChangeSpec := { name := "diffconTight", fn := fun _ => fun
  | [d1, d2, d3, d4, d5] => { results := [.lit (.bool true)], args := [d1, d2, d3, d4, d5] }
  | _ => none }
def diffconTightRow : OpenClaim := { program := "ytieggiplbghecaa", sum := "5fd83673860c77b4e8317a73895110a847d1804497a53bb76ea1e0dcc13f3d08", func := "timesync/timesynclaw51.DiffconTight", spec := "diffconTight", unfollowed := true, recurses := true, apart := false }
def DiffconTightSaid : Prop := diffconTightRow.holds Try.pinned (OpenSpec.ofChange diffconTightSpec)

/-- ITS FALSE NEIGHBOUR: 'it returns false'. Refute it at one input. -/
def diffconTightWrong : ChangeSpec := { name := "diffconTight", fn := fun _ => fun
  | [d1, d2, d3, d4, d5] => { results := [.lit (.bool false)], args := [d1, d2, d3, d4, d5] }
  | _ => none }
def DiffconTightWrongFalsely : Prop := diffconTightRow.holds Try.pinned (OpenSpec.ofChange diffconTightWrong)

/-- 'timesynclaw51.DiffconDecides': WHATEVER THE INPUT: true; the input reads as it did. -/
def diffconDecidesSpec : ChangeSpec := { name := "diffconDecides", fn := fun _ => fun
  | [d1, d2, d3] => { results := [.lit (.bool true)], args := [d1, d2, d3] }
  | _ => none }
def diffconDecidesRow : OpenClaim := { program := "ytieggiplbghecaa", sum := "5fd83673860c77b4e8317a73895110a847d1804497a53bb76ea1e0dcc13f3d08", func := "timesync/timesynclaw51.DiffconDecides", spec := "diffconDecides", unfollowed := true, recurses := true, apart := false }
def DiffconDecidesSaid : Prop := diffconDecidesRow.holds Try.pinned (OpenSpec.ofChange diffconDecidesSpec)

/-- ITS FALSE NEIGHBOUR: 'it returns false'. Refute it at one input. -/
def diffconDecidesWrong : ChangeSpec := { name := "diffconDecides", fn := fun _ => fun
  | [d1, d2, d3] => { results := [.lit (.bool false)], args := [d1, d2, d3] }
  | _ => none }
def DiffconDecidesWrongFalsely : Prop := diffconDecidesRow.holds Try.pinned (OpenSpec.ofChange diffconDecidesWrong)

/-- 'timesynclaw51.DiffconAdds': WHATEVER THE INPUT: true; the input reads as it did. -/
def diffconAddsSpec : ChangeSpec := { name := "diffconAdds", fn := fun _ => fun
  | [d1, d2] => { results := [.lit (.bool true)], args := [d1, d2] }
  | _ => none }
def diffconAddsRow : OpenClaim := { program := "ytieggiplbghecaa", sum := "5fd83673860c77b4e8317a73895110a847d1804497a53bb76ea1e0dcc13f3d08", func := "timesync/timesynclaw51.DiffconAdds", spec := "diffconAdds", unfollowed := true, recurses := true, apart := false }
def DiffconAddsSaid : Prop := diffconAddsRow.holds Try.pinned (OpenSpec.ofChange diffconAddsSpec)

/-- ITS FALSE NEIGHBOUR: 'it returns false'. Refute it at one input. -/
def diffconAddsWrong : ChangeSpec := { name := "diffconAdds", fn := fun _ => fun
  | [d1, d2] => { results := [.lit (.bool false)], args := [d1, d2] }
  | _ => none }
def DiffconAddsWrongFalsely : Prop := diffconAddsRow.holds Try.pinned (OpenSpec.ofChange diffconAddsWrong)

/-- 'timesynclaw51.DiffconGrows': WHATEVER THE INPUT: true; the input reads as it did. -/
def diffconGrowsSpec : ChangeSpec := { name := "diffconGrows", fn := fun _ => fun
  | [d1, d2, d3] => { results := [.lit (.bool true)], args := [d1, d2, d3] }
  | _ => none }
def diffconGrowsRow : OpenClaim := { program := "ytieggiplbghecaa", sum := "5fd83673860c77b4e8317a73895110a847d1804497a53bb76ea1e0dcc13f3d08", func := "timesync/timesynclaw51.DiffconGrows", spec := "diffconGrows", unfollowed := true, recurses := true, apart := false }
def DiffconGrowsSaid : Prop := diffconGrowsRow.holds Try.pinned (OpenSpec.ofChange diffconGrowsSpec)

/-- ITS FALSE NEIGHBOUR: 'it returns false'. Refute it at one input. -/
def diffconGrowsWrong : ChangeSpec := { name := "diffconGrows", fn := fun _ => fun
  | [d1, d2, d3] => { results := [.lit (.bool false)], args := [d1, d2, d3] }
  | _ => none }
def DiffconGrowsWrongFalsely : Prop := diffconGrowsRow.holds Try.pinned (OpenSpec.ofChange diffconGrowsWrong)

/- THE SECOND FORM. 'bulk': how many values and letters a reading holds, each counted each time it is reached (what is shared counts as often as it is met; a slice's spare places count too). A statement '..UptoSaid' is the law's where the arguments, and the package variables that the reading takes, are together of bulk at most 1048576: NARROWER than '..Said'. Prove '..Said' where nothing that the law and all that it calls make is longer than what came in: it says more and counts as full. Else prove '..UptoSaid'. A law counts once. -/
mutual
def uptoBulk {H : Type} : DataW H → Nat
  | .lit (.string bytes) => bytes.length + 1
  | .lit _ => 1
  | .nil => 1
  | .ptr d => uptoBulk d + 1
  | .slice elems spare => uptoBulkAll elems + uptoBulkAll spare + 1
  | .agg parts => uptoBulkAll parts + 1
  | .iface _ d => uptoBulk d + 1
  | .map entries => uptoBulkEntries entries + 1
  | .held _ => 1
def uptoBulkAll {H : Type} : List (DataW H) → Nat
  | [] => 0
  | d :: r => uptoBulk d + uptoBulkAll r
def uptoBulkEntries {H : Type} : List (Lit × DataW H) → Nat
  | [] => 0
  | x :: r => uptoBulkEntry x + uptoBulkEntries r
def uptoBulkEntry {H : Type} : Lit × DataW H → Nat
  | (.string bytes, d) => bytes.length + uptoBulk d + 1
  | (_, d) => uptoBulk d + 1
 end
def uptoSmall : (H : Type) → List (DataW H) → Bool := fun _ ds => decide (uptoBulkAll ds ≤ 1048576)
def OpenSpec.upto (s : _root_.Go.ChangeSpec) : _root_.Go.OpenSpec := { _root_.Go.OpenSpec.ofChange s with cond := some uptoSmall }

/-- 'timesynclaw51.DiffconBounds', WHERE WHAT IT READS IS OF BULK AT MOST 1048576: true; the input reads as it did. -/
def diffconBoundsUptoRow : OpenClaim := { program := "ytieggiplbghecaa", sum := "5fd83673860c77b4e8317a73895110a847d1804497a53bb76ea1e0dcc13f3d08", func := "timesync/timesynclaw51.DiffconBounds", spec := "diffconBounds", unfollowed := true, recurses := true, apart := false, narrowed := true }
def DiffconBoundsUptoSaid : Prop := diffconBoundsUptoRow.holds Try.pinned (OpenSpec.upto diffconBoundsSpec)

/-- 'timesynclaw51.DiffconSolves', WHERE WHAT IT READS IS OF BULK AT MOST 1048576: true; the input reads as it did. -/
def diffconSolvesUptoRow : OpenClaim := { program := "ytieggiplbghecaa", sum := "5fd83673860c77b4e8317a73895110a847d1804497a53bb76ea1e0dcc13f3d08", func := "timesync/timesynclaw51.DiffconSolves", spec := "diffconSolves", unfollowed := true, recurses := true, apart := false, narrowed := true }
def DiffconSolvesUptoSaid : Prop := diffconSolvesUptoRow.holds Try.pinned (OpenSpec.upto diffconSolvesSpec)

/-- 'timesynclaw51.DiffconHolds', WHERE WHAT IT READS IS OF BULK AT MOST 1048576: true; the input reads as it did. -/
def diffconHoldsUptoRow : OpenClaim := { program := "ytieggiplbghecaa", sum := "5fd83673860c77b4e8317a73895110a847d1804497a53bb76ea1e0dcc13f3d08", func := "timesync/timesynclaw51.DiffconHolds", spec := "diffconHolds", unfollowed := true, recurses := true, apart := false, narrowed := true }
def DiffconHoldsUptoSaid : Prop := diffconHoldsUptoRow.holds Try.pinned (OpenSpec.upto diffconHoldsSpec)

/-- 'timesynclaw51.DiffconClosed', WHERE WHAT IT READS IS OF BULK AT MOST 1048576: true; the input reads as it did. -/
def diffconClosedUptoRow : OpenClaim := { program := "ytieggiplbghecaa", sum := "5fd83673860c77b4e8317a73895110a847d1804497a53bb76ea1e0dcc13f3d08", func := "timesync/timesynclaw51.DiffconClosed", spec := "diffconClosed", unfollowed := true, recurses := true, apart := false, narrowed := true }
def DiffconClosedUptoSaid : Prop := diffconClosedUptoRow.holds Try.pinned (OpenSpec.upto diffconClosedSpec)

/-- 'timesynclaw51.DiffconTight', WHERE WHAT IT READS IS OF BULK AT MOST 1048576: true; the input reads as it did. -/
def diffconTightUptoRow : OpenClaim := { program := "ytieggiplbghecaa", sum := "5fd83673860c77b4e8317a73895110a847d1804497a53bb76ea1e0dcc13f3d08", func := "timesync/timesynclaw51.DiffconTight", spec := "diffconTight", unfollowed := true, recurses := true, apart := false, narrowed := true }
def DiffconTightUptoSaid : Prop := diffconTightUptoRow.holds Try.pinned (OpenSpec.upto diffconTightSpec)

/-- 'timesynclaw51.DiffconDecides', WHERE WHAT IT READS IS OF BULK AT MOST 1048576: true; the input reads as it did. -/
def diffconDecidesUptoRow : OpenClaim := { program := "ytieggiplbghecaa", sum := "5fd83673860c77b4e8317a73895110a847d1804497a53bb76ea1e0dcc13f3d08", func := "timesync/timesynclaw51.DiffconDecides", spec := "diffconDecides", unfollowed := true, recurses := true, apart := false, narrowed := true }
def DiffconDecidesUptoSaid : Prop := diffconDecidesUptoRow.holds Try.pinned (OpenSpec.upto diffconDecidesSpec)

/-- 'timesynclaw51.DiffconAdds', WHERE WHAT IT READS IS OF BULK AT MOST 1048576: true; the input reads as it did. -/
def diffconAddsUptoRow : OpenClaim := { program := "ytieggiplbghecaa", sum := "5fd83673860c77b4e8317a73895110a847d1804497a53bb76ea1e0dcc13f3d08", func := "timesync/timesynclaw51.DiffconAdds", spec := "diffconAdds", unfollowed := true, recurses := true, apart := false, narrowed := true }
def DiffconAddsUptoSaid : Prop := diffconAddsUptoRow.holds Try.pinned (OpenSpec.upto diffconAddsSpec)

/-- 'timesynclaw51.DiffconGrows', WHERE WHAT IT READS IS OF BULK AT MOST 1048576: true; the input reads as it did. -/
def diffconGrowsUptoRow : OpenClaim := { program := "ytieggiplbghecaa", sum := "5fd83673860c77b4e8317a73895110a847d1804497a53bb76ea1e0dcc13f3d08", func := "timesync/timesynclaw51.DiffconGrows", spec := "diffconGrows", unfollowed := true, recurses := true, apart := false, narrowed := true }
def DiffconGrowsUptoSaid : Prop := diffconGrowsUptoRow.holds Try.pinned (OpenSpec.upto diffconGrowsSpec)

end Rows
end Go.Proofs.Ytieggiplbghecaa
