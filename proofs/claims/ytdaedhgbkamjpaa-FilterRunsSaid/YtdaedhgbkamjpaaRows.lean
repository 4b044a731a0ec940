/-
  No cell of these rows narrows 'for every input' (looked for: loops, veiled, ifaces, maps, wideKeys, modest, calm, conditions, laid).
  DERIVED. THE GIVEN ROWS OF THIS SEAT. 7 by the template 'for every input the law returns true; each argument reads behind the call as it read before'; 0 by the template 'total and deterministic' (their statements: YtdaedhgbkamjpaaTotals.lean).
  GIVEN WITH THE SEED: the statements are not yours to turn. If you find one false, say at which input.
  Laid BY PROGRAM, IN A SANDBOX (cutbox-rows.mjs): the forced cells as the released guide's own fill.sh prints them over the translation 9dae89eae4c7564d… (all of the seat's roots in one cut). By AI agents, Wed Nov 11 2026. No macro, syntax, notation, axiom, sorry.
-/
import Derived.Test.YtdaedhgbkamjpaaChecked
import GoSem.Claim
import GoSem.ClaimJoined
import GoSem.ClaimMapViews
import Derived.JoinedTies
import Derived.KernelRfl
namespace Go.Proofs.Ytdaedhgbkamjpaa
/- THE CELL 'sum', in the pinned program and in every row, IS THE sha256 OF THE DUMP (.gsa) THAT YtdaedhgbkamjpaaProg.lean LOADS. Nothing in Lean hashes anything: it is a label: what it is worth is what the hold of that sum in a sandbox is worth. -/
noncomputable def Try.pinned : Pinned := { name := "ytdaedhgbkamjpaa", sum := "9dae89eae4c7564ddb5fffea82618d0fc738ace32c7c15d589e1e7cb8aab897b", checked := Try.checked }
namespace Rows
def none {H : Type} : Left H := { results := [], args := [] }

/-- 'timesynclaw22.FilterDisps': WHATEVER THE INPUT: true; the input reads as it did. -/
def filterDispsSpec : ChangeSpec := { name := "filterDisps", fn := fun _ => fun
  | [d1, d2] => { results := [.lit (.bool true)], args := [d1, d2] }
  | _ => none }
def filterDispsRow : OpenClaim := { program := "ytdaedhgbkamjpaa", sum := "9dae89eae4c7564ddb5fffea82618d0fc738ace32c7c15d589e1e7cb8aab897b", func := "timesync/timesynclaw22.FilterDisps", spec := "filterDisps", unfollowed := true, recurses := true, named := ["math/bits.divideError", "math/bits.overflowError"], apart := false }
def FilterDispsSaid : Prop := filterDispsRow.holds Try.pinned (OpenSpec.ofChange filterDispsSpec)

/-- ITS FALSE NEIGHBOUR: 'it returns false'. Refute it at one input. -/
def filterDispsWrong : ChangeSpec := { name := "filterDisps", fn := fun _ => fun
  | [d1, d2] => { results := [.lit (.bool false)], args := [d1, d2] }
  | _ => none }
def FilterDispsWrongFalsely : Prop := filterDispsRow.holds Try.pinned (OpenSpec.ofChange filterDispsWrong)

/-- 'timesynclaw22.FilterRuns': WHATEVER THE INPUT: true; the input reads as it did. -/
def filterRunsSpec : ChangeSpec := { name := "filterRuns", fn := fun _ => fun
  | [d1, d2] => { results := [.lit (.bool true)], args := [d1, d2] }
  | _ => none }
def filterRunsRow : OpenClaim := { program := "ytdaedhgbkamjpaa", sum := "9dae89eae4c7564ddb5fffea82618d0fc738ace32c7c15d589e1e7cb8aab897b", func := "timesync/timesynclaw22.FilterRuns", spec := "filterRuns", unfollowed := true, recurses := true, named := ["math/bits.divideError", "math/bits.overflowError"], apart := false }
def FilterRunsSaid : Prop := filterRunsRow.holds Try.pinned (OpenSpec.ofChange filterRunsSpec)

/-- ITS FALSE NEIGHBOUR: 'it returns false'. Refute it at one input. -/
def filterRunsWrong : ChangeSpec := { name := "filterRuns", fn := fun _ => fun
  | [d1, d2] => { results := [.lit (.bool false)], args := [d1, d2] }
  | _ => none }
def FilterRunsWrongFalsely : Prop := filterRunsRow.holds Try.pinned (OpenSpec.ofChange filterRunsWrong)

/-- 'timesynclaw22.FilterStages': WHATEVER THE INPUT: true; the input reads as it did. -/
def filterStagesSpec : ChangeSpec := { name := "filterStages", fn := fun _ => fun
  | [d1, d2] => { results := [.lit (.bool true)], args := [d1, d2] }
  | _ => none }
def filterStagesRow : OpenClaim := { program := "ytdaedhgbkamjpaa", sum := "9dae89eae4c7564ddb5fffea82618d0fc738ace32c7c15d589e1e7cb8aab897b", func := "timesync/timesynclaw22.FilterStages", spec := "filterStages", unfollowed := true, recurses := true, named := ["math/bits.divideError", "math/bits.overflowError"], apart := false }
def FilterStagesSaid : Prop := filterStagesRow.holds Try.pinned (OpenSpec.ofChange filterStagesSpec)

/-- ITS FALSE NEIGHBOUR: 'it returns false'. Refute it at one input. -/
def filterStagesWrong : ChangeSpec := { name := "filterStages", fn := fun _ => fun
  | [d1, d2] => { results := [.lit (.bool false)], args := [d1, d2] }
  | _ => none }
def FilterStagesWrongFalsely : Prop := filterStagesRow.holds Try.pinned (OpenSpec.ofChange filterStagesWrong)

/-- 'timesynclaw22.FilterBest': WHATEVER THE INPUT: true; the input reads as it did. -/
def filterBestSpec : ChangeSpec := { name := "filterBest", fn := fun _ => fun
  | [d1, d2, d3] => { results := [.lit (.bool true)], args := [d1, d2, d3] }
  | _ => none }
def filterBestRow : OpenClaim := { program := "ytdaedhgbkamjpaa", sum := "9dae89eae4c7564ddb5fffea82618d0fc738ace32c7c15d589e1e7cb8aab897b", func := "timesync/timesynclaw22.FilterBest", spec := "filterBest", unfollowed := true, recurses := true, named := ["math/bits.divideError", "math/bits.overflowError"], apart := false }
def FilterBestSaid : Prop := filterBestRow.holds Try.pinned (OpenSpec.ofChange filterBestSpec)

/-- ITS FALSE NEIGHBOUR: 'it returns false'. Refute it at one input. -/
def filterBestWrong : ChangeSpec := { name := "filterBest", fn := fun _ => fun
  | [d1, d2, d3] => { results := [.lit (.bool false)], args := [d1, d2, d3] }
  | _ => none }
def FilterBestWrongFalsely : Prop := filterBestRow.holds Try.pinned (OpenSpec.ofChange filterBestWrong)

/-- 'timesynclaw22.FilterFresh': WHATEVER THE INPUT: true; the input reads as it did. -/
def filterFreshSpec : ChangeSpec := { name := "filterFresh", fn := fun _ => fun
  | [d1, d2] => { results := [.lit (.bool true)], args := [d1, d2] }
  | _ => none }
def filterFreshRow : OpenClaim := { program := "ytdaedhgbkamjpaa", sum := "9dae89eae4c7564ddb5fffea82618d0fc738ace32c7c15d589e1e7cb8aab897b", func := "timesync/timesynclaw22.FilterFresh", spec := "filterFresh", unfollowed := true, recurses := true, named := ["math/bits.divideError", "math/bits.overflowError"], apart := false }
def FilterFreshSaid : Prop := filterFreshRow.holds Try.pinned (OpenSpec.ofChange filterFreshSpec)

/-- ITS FALSE NEIGHBOUR: 'it returns false'. Refute it at one input. -/
def filterFreshWrong : ChangeSpec := { name := "filterFresh", fn := fun _ => fun
  | [d1, d2] => { results := [.lit (.bool false)], args := [d1, d2] }
  | _ => none }
def FilterFreshWrongFalsely : Prop := filterFreshRow.holds Try.pinned (OpenSpec.ofChange filterFreshWrong)

/-- 'timesynclaw22.FilterJitters': WHATEVER THE INPUT: true; the input reads as it did. -/
def filterJittersSpec : ChangeSpec := { name := "filterJitters", fn := fun _ => fun
  | [d1, d2] => { results := [.lit (.bool true)], args := [d1, d2] }
  | _ => none }
def filterJittersRow : OpenClaim := { program := "ytdaedhgbkamjpaa", sum := "9dae89eae4c7564ddb5fffea82618d0fc738ace32c7c15d589e1e7cb8aab897b", func := "timesync/timesynclaw22.FilterJitters", spec := "filterJitters", unfollowed := true, recurses := true, named := ["math/bits.divideError", "math/bits.overflowError"], apart := false }
def FilterJittersSaid : Prop := filterJittersRow.holds Try.pinned (OpenSpec.ofChange filterJittersSpec)

/-- ITS FALSE NEIGHBOUR: 'it returns false'. Refute it at one input. -/
def filterJittersWrong : ChangeSpec := { name := "filterJitters", fn := fun _ => fun
  | [d1, d2] => { results := [.lit (.bool false)], args := [d1, d2] }
  | _ => none }
def FilterJittersWrongFalsely : Prop := filterJittersRow.holds Try.pinned (OpenSpec.ofChange filterJittersWrong)

/-- 'timesynclaw22.FilterNobody': WHATEVER THE INPUT: true; the input reads as it did. -/
def filterNobodySpec : ChangeSpec := { name := "filterNobody", fn := fun _ => fun
  | [d1, d2] => { results := [.lit (.bool true)], args := [d1, d2] }
  | _ => none }
def filterNobodyRow : OpenClaim := { program := "ytdaedhgbkamjpaa", sum := "9dae89eae4c7564ddb5fffea82618d0fc738ace32c7c15d589e1e7cb8aab897b", func := "timesync/timesynclaw22.FilterNobody", spec := "filterNobody", unfollowed := true, recurses := true, named := ["math/bits.divideError", "math/bits.overflowError"], apart := false }
def FilterNobodySaid : Prop := filterNobodyRow.holds Try.pinned (OpenSpec.ofChange filterNobodySpec)

/-- ITS FALSE NEIGHBOUR: 'it returns false'. Refute it at one input. -/
def filterNobodyWrong : ChangeSpec := { name := "filterNobody", fn := fun _ => fun
  | [d1, d2] => { results := [.lit (.bool false)], args := [d1, d2] }
  | _ => none }
def FilterNobodyWrongFalsely : Prop := filterNobodyRow.holds Try.pinned (OpenSpec.ofChange filterNobodyWrong)

/- THE SECOND FORM. 'bulk': how many values and letters a reading holds, each counted each time it is reached (what is shared counts as often as it is met; a slice's spare places count too). A statement '..UptoSaid' is the law's where the arguments, and the package variables that the reading takes, are together of bulk at most 1048576: NARROWER than '..Said'. Prove '..Said' where nothing that the law and all that it calls make is longer than what came in: it says more and counts as full. Else prove '..UptoSaid'. A law counts once. -/
mutual
def uptoBulk {H : Type} : DataW H → Nat
  | .lit (.string bytes) => bytes.length + 1
  | .lit _ => 1
  | .nil => 1
  | .ptr d => uptoBulk d + 1
  | .slice elems spare => uptoBulkAll elems + uptoBulkAll spare + 1
  | .agg parts => uptoBulkAll parts + 1
  | .iface _ d => uptoBulk d + 1
  | .map entries => uptoBulkEntries entries + 1
  | .held _ => 1
def uptoBulkAll {H : Type} : List (DataW H) → Nat
  | [] => 0
  | d :: r => uptoBulk d + uptoBulkAll r
def uptoBulkEntries {H : Type} : List (Lit × DataW H) → Nat
  | [] => 0
  | x :: r => uptoBulkEntry x + uptoBulkEntries r
def uptoBulkEntry {H : Type} : Lit × DataW H → Nat
  | (.string bytes, d) => bytes.length + uptoBulk d + 1
  | (_, d) => uptoBulk d + 1
 end
def uptoSmall : (H : Type) → List (DataW H) → Bool := fun _ ds => decide (uptoBulkAll ds ≤ 1048576)
def OpenSpec.upto (s : _root_.Go.ChangeSpec) : _root_.Go.OpenSpec := { _root_.Go.OpenSpec.ofChange s with cond := some uptoSmall }

/-- 'timesynclaw22.FilterDisps', WHERE WHAT IT READS IS OF BULK AT MOST 1048576: true; the input reads as it did. -/
def filterDispsUptoRow : OpenClaim := { program := "ytdaedhgbkamjpaa", sum := "9dae89eae4c7564ddb5fffea82618d0fc738ace32c7c15d589e1e7cb8aab897b", func := "timesync/timesynclaw22.FilterDisps", spec := "filterDisps", unfollowed := true, recurses := true, named := ["math/bits.divideError", "math/bits.overflowError"], apart := false, narrowed := true }
def FilterDispsUptoSaid : Prop := filterDispsUptoRow.holds Try.pinned (OpenSpec.upto filterDispsSpec)

/-- 'timesynclaw22.FilterRuns', WHERE WHAT IT READS IS OF BULK AT MOST 1048576: true; the input reads as it did. -/
def filterRunsUptoRow : OpenClaim := { program := "ytdaedhgbkamjpaa", sum := "9dae89eae4c7564ddb5fffea82618d0fc738ace32c7c15d589e1e7cb8aab897b", func := "timesync/timesynclaw22.FilterRuns", spec := "filterRuns", unfollowed := true, recurses := true, named := ["math/bits.divideError", "math/bits.overflowError"], apart := false, narrowed := true }
def FilterRunsUptoSaid : Prop := filterRunsUptoRow.holds Try.pinned (OpenSpec.upto filterRunsSpec)

/-- 'timesynclaw22.FilterStages', WHERE WHAT IT READS IS OF BULK AT MOST 1048576: true; the input reads as it did. -/
def filterStagesUptoRow : OpenClaim := { program := "ytdaedhgbkamjpaa", sum := "9dae89eae4c7564ddb5fffea82618d0fc738ace32c7c15d589e1e7cb8aab897b", func := "timesync/timesynclaw22.FilterStages", spec := "filterStages", unfollowed := true, recurses := true, named := ["math/bits.divideError", "math/bits.overflowError"], apart := false, narrowed := true }
def FilterStagesUptoSaid : Prop := filterStagesUptoRow.holds Try.pinned (OpenSpec.upto filterStagesSpec)

/-- 'timesynclaw22.FilterBest', WHERE WHAT IT READS IS OF BULK AT MOST 1048576: true; the input reads as it did. -/
def filterBestUptoRow : OpenClaim := { program := "ytdaedhgbkamjpaa", sum := "9dae89eae4c7564ddb5fffea82618d0fc738ace32c7c15d589e1e7cb8aab897b", func := "timesync/timesynclaw22.FilterBest", spec := "filterBest", unfollowed := true, recurses := true, named := ["math/bits.divideError", "math/bits.overflowError"], apart := false, narrowed := true }
def FilterBestUptoSaid : Prop := filterBestUptoRow.holds Try.pinned (OpenSpec.upto filterBestSpec)

/-- 'timesynclaw22.FilterFresh', WHERE WHAT IT READS IS OF BULK AT MOST 1048576: true; the input reads as it did. -/
def filterFreshUptoRow : OpenClaim := { program := "ytdaedhgbkamjpaa", sum := "9dae89eae4c7564ddb5fffea82618d0fc738ace32c7c15d589e1e7cb8aab897b", func := "timesync/timesynclaw22.FilterFresh", spec := "filterFresh", unfollowed := true, recurses := true, named := ["math/bits.divideError", "math/bits.overflowError"], apart := false, narrowed := true }
def FilterFreshUptoSaid : Prop := filterFreshUptoRow.holds Try.pinned (OpenSpec.upto filterFreshSpec)

/-- 'timesynclaw22.FilterJitters', WHERE WHAT IT READS IS OF BULK AT MOST 1048576: true; the input reads as it did. -/
def filterJittersUptoRow : OpenClaim := { program := "ytdaedhgbkamjpaa", sum := "9dae89eae4c7564ddb5fffea82618d0fc738ace32c7c15d589e1e7cb8aab897b", func := "timesync/timesynclaw22.FilterJitters", spec := "filterJitters", unfollowed := true, recurses := true, named := ["math/bits.divideError", "math/bits.overflowError"], apart := false, narrowed := true }
def FilterJittersUptoSaid : Prop := filterJittersUptoRow.holds Try.pinned (OpenSpec.upto filterJittersSpec)

/-- 'timesynclaw22.FilterNobody', WHERE WHAT IT READS IS OF BULK AT MOST 1048576: true; the input reads as it did. -/
def filterNobodyUptoRow : OpenClaim := { program := "ytdaedhgbkamjpaa", sum := "9dae89eae4c7564ddb5fffea82618d0fc738ace32c7c15d589e1e7cb8aab897b", func := "timesync/timesynclaw22.FilterNobody", spec := "filterNobody", unfollowed := true, recurses := true, named := ["math/bits.divideError", "math/bits.overflowError"], apart := false, narrowed := true }
def FilterNobodyUptoSaid : Prop := filterNobodyUptoRow.holds Try.pinned (OpenSpec.upto filterNobodySpec)

end Rows
end Go.Proofs.Ytdaedhgbkamjpaa
