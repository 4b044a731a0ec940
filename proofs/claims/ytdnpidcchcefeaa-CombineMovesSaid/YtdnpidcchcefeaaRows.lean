/-
  No cell of these rows narrows 'for every input' (looked for: loops, veiled, ifaces, maps, wideKeys, modest, calm, conditions, laid).
  DERIVED. THE GIVEN ROWS OF THIS SEAT. 6 by the template 'for every input the law returns true; each argument reads behind the call as it read before'; 0 by the template 'total and deterministic' (their statements: YtdnpidcchcefeaaTotals.lean).
  GIVEN WITH THE SEED: the statements are not yours to turn. If you find one false, say at which input.
  Laid BY PROGRAM, IN A SANDBOX (cutbox-rows.mjs): the forced cells as the released guide's own fill.sh prints them over the translation 53237216d9b3a93b… (all of the seat's roots in one cut). By AI agents, Wed Nov 11 2026. No macro, syntax, notation, axiom, sorry.
-/
import Derived.Test.YtdnpidcchcefeaaChecked
import GoSem.Claim
import GoSem.ClaimJoined
import GoSem.ClaimMapViews
import Derived.JoinedTies
import Derived.KernelRfl
namespace Go.Proofs.Ytdnpidcchcefeaa
/- THE CELL 'sum', in the pinned program and in every row, IS THE sha256 OF THE DUMP (.gsa) THAT YtdnpidcchcefeaaProg.lean LOADS. Nothing in Lean hashes anything: it is a label: what it is worth is what the hold of that sum in a sandbox is worth. -/
noncomputable def Try.pinned : Pinned := { name := "ytdnpidcchcefeaa", sum := "53237216d9b3a93bcc6b04a857adb89777e53c764a5979972cafd5489f10ba20", checked := Try.checked }
namespace Rows
def none {H : Type} : Left H := { results := [], args := [] }

/-- 'timesynclaw26.CombineMeans': WHATEVER THE INPUT: true; the input reads as it did. -/
def combineMeansSpec : ChangeSpec := { name := "combineMeans", fn := fun _ => fun
  | [d] => { results := [.lit (.bool true)], args := [d] }
  | _ => none }
def combineMeansRow : OpenClaim := { program := "ytdnpidcchcefeaa", sum := "53237216d9b3a93bcc6b04a857adb89777e53c764a5979972cafd5489f10ba20", func := "timesync/timesynclaw26.CombineMeans", spec := "combineMeans", unfollowed := true, recurses := true, named := ["math/bits.divideError", "math/bits.overflowError"], apart := false }
def CombineMeansSaid : Prop := combineMeansRow.holds Try.pinned (OpenSpec.ofChange combineMeansSpec)

/-- ITS FALSE NEIGHBOUR: 'it returns false'. Refute it at one input. -/
def combineMeansWrong : ChangeSpec := { name := "combineMeans", fn := fun _ => fun
  | [d] => { results := [.lit (.bool false)], args := [d] }
  | _ => none }
def CombineMeansWrongFalsely : Prop := combineMeansRow.holds Try.pinned (OpenSpec.ofChange combineMeansWrong)

/-- 'timesynclaw26.CombineWeights': WHATEVER THE INPUT: true; the input reads as it did. -/
def combineWeightsSpec : ChangeSpec := { name := "combineWeights", fn := fun _ => fun
  | [d] => { results := [.lit (.bool true)], args := [d] }
  | _ => none }
def combineWeightsRow : OpenClaim := { program := "ytdnpidcchcefeaa", sum := "53237216d9b3a93bcc6b04a857adb89777e53c764a5979972cafd5489f10ba20", func := "timesync/timesynclaw26.CombineWeights", spec := "combineWeights", unfollowed := true, recurses := true, named := ["math/bits.divideError", "math/bits.overflowError"], apart := false }
def CombineWeightsSaid : Prop := combineWeightsRow.holds Try.pinned (OpenSpec.ofChange combineWeightsSpec)

/-- ITS FALSE NEIGHBOUR: 'it returns false'. Refute it at one input. -/
def combineWeightsWrong : ChangeSpec := { name := "combineWeights", fn := fun _ => fun
  | [d] => { results := [.lit (.bool false)], args := [d] }
  | _ => none }
def CombineWeightsWrongFalsely : Prop := combineWeightsRow.holds Try.pinned (OpenSpec.ofChange combineWeightsWrong)

/-- 'timesynclaw26.CombineSpreads': WHATEVER THE INPUT: true; the input reads as it did. -/
def combineSpreadsSpec : ChangeSpec := { name := "combineSpreads", fn := fun _ => fun
  | [d] => { results := [.lit (.bool true)], args := [d] }
  | _ => none }
def combineSpreadsRow : OpenClaim := { program := "ytdnpidcchcefeaa", sum := "53237216d9b3a93bcc6b04a857adb89777e53c764a5979972cafd5489f10ba20", func := "timesync/timesynclaw26.CombineSpreads", spec := "combineSpreads", unfollowed := true, recurses := true, named := ["math/bits.divideError", "math/bits.overflowError"], apart := false }
def CombineSpreadsSaid : Prop := combineSpreadsRow.holds Try.pinned (OpenSpec.ofChange combineSpreadsSpec)

/-- ITS FALSE NEIGHBOUR: 'it returns false'. Refute it at one input. -/
def combineSpreadsWrong : ChangeSpec := { name := "combineSpreads", fn := fun _ => fun
  | [d] => { results := [.lit (.bool false)], args := [d] }
  | _ => none }
def CombineSpreadsWrongFalsely : Prop := combineSpreadsRow.holds Try.pinned (OpenSpec.ofChange combineSpreadsWrong)

/-- 'timesynclaw26.CombineBetween': WHATEVER THE INPUT: true; the input reads as it did. -/
def combineBetweenSpec : ChangeSpec := { name := "combineBetween", fn := fun _ => fun
  | [d] => { results := [.lit (.bool true)], args := [d] }
  | _ => none }
def combineBetweenRow : OpenClaim := { program := "ytdnpidcchcefeaa", sum := "53237216d9b3a93bcc6b04a857adb89777e53c764a5979972cafd5489f10ba20", func := "timesync/timesynclaw26.CombineBetween", spec := "combineBetween", unfollowed := true, recurses := true, named := ["math/bits.divideError", "math/bits.overflowError"], apart := false }
def CombineBetweenSaid : Prop := combineBetweenRow.holds Try.pinned (OpenSpec.ofChange combineBetweenSpec)

/-- ITS FALSE NEIGHBOUR: 'it returns false'. Refute it at one input. -/
def combineBetweenWrong : ChangeSpec := { name := "combineBetween", fn := fun _ => fun
  | [d] => { results := [.lit (.bool false)], args := [d] }
  | _ => none }
def CombineBetweenWrongFalsely : Prop := combineBetweenRow.holds Try.pinned (OpenSpec.ofChange combineBetweenWrong)

/-- 'timesynclaw26.CombineSingle': WHATEVER THE INPUT: true; the input reads as it did. -/
def combineSingleSpec : ChangeSpec := { name := "combineSingle", fn := fun _ => fun
  | [d1, d2] => { results := [.lit (.bool true)], args := [d1, d2] }
  | _ => none }
def combineSingleRow : OpenClaim := { program := "ytdnpidcchcefeaa", sum := "53237216d9b3a93bcc6b04a857adb89777e53c764a5979972cafd5489f10ba20", func := "timesync/timesynclaw26.CombineSingle", spec := "combineSingle", unfollowed := true, recurses := true, named := ["math/bits.divideError", "math/bits.overflowError"], apart := false }
def CombineSingleSaid : Prop := combineSingleRow.holds Try.pinned (OpenSpec.ofChange combineSingleSpec)

/-- ITS FALSE NEIGHBOUR: 'it returns false'. Refute it at one input. -/
def combineSingleWrong : ChangeSpec := { name := "combineSingle", fn := fun _ => fun
  | [d1, d2] => { results := [.lit (.bool false)], args := [d1, d2] }
  | _ => none }
def CombineSingleWrongFalsely : Prop := combineSingleRow.holds Try.pinned (OpenSpec.ofChange combineSingleWrong)

/-- 'timesynclaw26.CombineMoves': WHATEVER THE INPUT: true; the input reads as it did. -/
def combineMovesSpec : ChangeSpec := { name := "combineMoves", fn := fun _ => fun
  | [d1, d2] => { results := [.lit (.bool true)], args := [d1, d2] }
  | _ => none }
def combineMovesRow : OpenClaim := { program := "ytdnpidcchcefeaa", sum := "53237216d9b3a93bcc6b04a857adb89777e53c764a5979972cafd5489f10ba20", func := "timesync/timesynclaw26.CombineMoves", spec := "combineMoves", unfollowed := true, recurses := true, named := ["math/bits.divideError", "math/bits.overflowError"], apart := false }
def CombineMovesSaid : Prop := combineMovesRow.holds Try.pinned (OpenSpec.ofChange combineMovesSpec)

/-- ITS FALSE NEIGHBOUR: 'it returns false'. Refute it at one input. -/
def combineMovesWrong : ChangeSpec := { name := "combineMoves", fn := fun _ => fun
  | [d1, d2] => { results := [.lit (.bool false)], args := [d1, d2] }
  | _ => none }
def CombineMovesWrongFalsely : Prop := combineMovesRow.holds Try.pinned (OpenSpec.ofChange combineMovesWrong)

/- THE SECOND FORM. 'bulk': how many values and letters a reading holds, each counted each time it is reached (what is shared counts as often as it is met; a slice's spare places count too). A statement '..UptoSaid' is the law's where the arguments, and the package variables that the reading takes, are together of bulk at most 1048576: NARROWER than '..Said'. Prove '..Said' where nothing that the law and all that it calls make is longer than what came in: it says more and counts as full. Else prove '..UptoSaid'. A law counts once. -/
mutual
def uptoBulk {H : Type} : DataW H → Nat
  | .lit (.string bytes) => bytes.length + 1
  | .lit _ => 1
  | .nil => 1
  | .ptr d => uptoBulk d + 1
  | .slice elems spare => uptoBulkAll elems + uptoBulkAll spare + 1
  | .agg parts => uptoBulkAll parts + 1
  | .iface _ d => uptoBulk d + 1
  | .map entries => uptoBulkEntries entries + 1
  | .held _ => 1
def uptoBulkAll {H : Type} : List (DataW H) → Nat
  | [] => 0
  | d :: r => uptoBulk d + uptoBulkAll r
def uptoBulkEntries {H : Type} : List (Lit × DataW H) → Nat
  | [] => 0
  | x :: r => uptoBulkEntry x + uptoBulkEntries r
def uptoBulkEntry {H : Type} : Lit × DataW H → Nat
  | (.string bytes, d) => bytes.length + uptoBulk d + 1
  | (_, d) => uptoBulk d + 1
 end
def uptoSmall : (H : Type) → List (DataW H) → Bool := fun _ ds => decide (uptoBulkAll ds ≤ 1048576)
def OpenSpec.upto (s : _root_.Go.ChangeSpec) : _root_.Go.OpenSpec := { _root_.Go.OpenSpec.ofChange s with cond := some uptoSmall }

/-- 'timesynclaw26.CombineMeans', WHERE WHAT IT READS IS OF BULK AT MOST 1048576: true; the input reads as it did. -/
def combineMeansUptoRow : OpenClaim := { program := "ytdnpidcchcefeaa", sum := "53237216d9b3a93bcc6b04a857adb89777e53c764a5979972cafd5489f10ba20", func := "timesync/timesynclaw26.CombineMeans", spec := "combineMeans", unfollowed := true, recurses := true, named := ["math/bits.divideError", "math/bits.overflowError"], apart := false, narrowed := true }
def CombineMeansUptoSaid : Prop := combineMeansUptoRow.holds Try.pinned (OpenSpec.upto combineMeansSpec)

/-- 'timesynclaw26.CombineWeights', WHERE WHAT IT READS IS OF BULK AT MOST 1048576: true; the input reads as it did. -/
def combineWeightsUptoRow : OpenClaim := { program := "ytdnpidcchcefeaa", sum := "53237216d9b3a93bcc6b04a857adb89777e53c764a5979972cafd5489f10ba20", func := "timesync/timesynclaw26.CombineWeights", spec := "combineWeights", unfollowed := true, recurses := true, named := ["math/bits.divideError", "math/bits.overflowError"], apart := false, narrowed := true }
def CombineWeightsUptoSaid : Prop := combineWeightsUptoRow.holds Try.pinned (OpenSpec.upto combineWeightsSpec)

/-- 'timesynclaw26.CombineSpreads', WHERE WHAT IT READS IS OF BULK AT MOST 1048576: true; the input reads as it did. -/
def combineSpreadsUptoRow : OpenClaim := { program := "ytdnpidcchcefeaa", sum := "53237216d9b3a93bcc6b04a857adb89777e53c764a5979972cafd5489f10ba20", func := "timesync/timesynclaw26.CombineSpreads", spec := "combineSpreads", unfollowed := true, recurses := true, named := ["math/bits.divideError", "math/bits.overflowError"], apart := false, narrowed := true }
def CombineSpreadsUptoSaid : Prop := combineSpreadsUptoRow.holds Try.pinned (OpenSpec.upto combineSpreadsSpec)

/-- 'timesynclaw26.CombineBetween', WHERE WHAT IT READS IS OF BULK AT MOST 1048576: true; the input reads as it did. -/
def combineBetweenUptoRow : OpenClaim := { program := "ytdnpidcchcefeaa", sum := "53237216d9b3a93bcc6b04a857adb89777e53c764a5979972cafd5489f10ba20", func := "timesync/timesynclaw26.CombineBetween", spec := "combineBetween", unfollowed := true, recurses := true, named := ["math/bits.divideError", "math/bits.overflowError"], apart := false, narrowed := true }
def CombineBetweenUptoSaid : Prop := combineBetweenUptoRow.holds Try.pinned (OpenSpec.upto combineBetweenSpec)

/-- 'timesynclaw26.CombineSingle', WHERE WHAT IT READS IS OF BULK AT MOST 1048576: true; the input reads as it did. -/
def combineSingleUptoRow : OpenClaim := { program := "ytdnpidcchcefeaa", sum := "53237216d9b3a93bcc6b04a857adb89777e53c764a5979972cafd5489f10ba20", func := "timesync/timesynclaw26.CombineSingle", spec := "combineSingle", unfollowed := true, recurses := true, named := ["math/bits.divideError", "math/bits.overflowError"], apart := false, narrowed := true }
def CombineSingleUptoSaid : Prop := combineSingleUptoRow.holds Try.pinned (OpenSpec.upto combineSingleSpec)

/-- 'timesynclaw26.CombineMoves', WHERE WHAT IT READS IS OF BULK AT MOST 1048576: true; the input reads as it did. -/
def combineMovesUptoRow : OpenClaim := { program := "ytdnpidcchcefeaa", sum := "53237216d9b3a93bcc6b04a857adb89777e53c764a5979972cafd5489f10ba20", func := "timesync/timesynclaw26.CombineMoves", spec := "combineMoves", unfollowed := true, recurses := true, named := ["math/bits.divideError", "math/bits.overflowError"], apart := false, narrowed := true }
def CombineMovesUptoSaid : Prop := combineMovesUptoRow.holds Try.pinned (OpenSpec.upto combineMovesSpec)

end Rows
end Go.Proofs.Ytdnpidcchcefeaa
