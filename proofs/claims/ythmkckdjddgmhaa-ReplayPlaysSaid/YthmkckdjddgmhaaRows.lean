/-
  No cell of these rows narrows 'for every input' (looked for: loops, veiled, ifaces, maps, wideKeys, modest, calm, conditions, laid).
  DERIVED. THE GIVEN ROWS OF THIS SEAT. 6 by the template 'for every input the law returns true; each argument reads behind the call as it read before'; 0 by the template 'total and deterministic' (their statements: YthmkckdjddgmhaaTotals.lean).
  GIVEN WITH THE SEED: the statements are not yours to turn. If you find one false, say at which input.
  Laid BY PROGRAM, IN A SANDBOX (cutbox-rows.mjs): the forced cells as the released guide's own fill.sh prints them over the translation c6706e4db2360f72… (all of the seat's roots in one cut). By AI agents, Wed Nov 11 2026. No macro, syntax, notation, axiom, sorry.
-/
import Derived.Test.YthmkckdjddgmhaaChecked
import GoSem.Claim
import GoSem.ClaimJoined
import GoSem.ClaimMapViews
import Derived.JoinedTies
import Derived.KernelRfl
namespace Go.Proofs.Ythmkckdjddgmhaa
/- THE CELL 'sum', in the pinned program and in every row, IS THE sha256 OF THE DUMP (.gsa) THAT YthmkckdjddgmhaaProg.lean LOADS. Nothing in Lean hashes anything: it is a label: what it is worth is what the hold of that sum in a sandbox is worth. -/
noncomputable def Try.pinned : Pinned := { name := "ythmkckdjddgmhaa", sum := "c6706e4db2360f72e6d6101553b8b14bd5db1780dc655d2281af5f1ff8276691", checked := Try.checked }
namespace Rows
def none {H : Type} : Left H := { results := [], args := [] }

/-- 'timesynclaw45.ReplayBlocks': WHATEVER THE INPUT: true; the input reads as it did. -/
def replayBlocksSpec : ChangeSpec := { name := "replayBlocks", fn := fun _ => fun
  | [d1, d2, d3] => { results := [.lit (.bool true)], args := [d1, d2, d3] }
  | _ => none }
def replayBlocksRow : OpenClaim := { program := "ythmkckdjddgmhaa", sum := "c6706e4db2360f72e6d6101553b8b14bd5db1780dc655d2281af5f1ff8276691", func := "timesync/timesynclaw45.ReplayBlocks", spec := "replayBlocks", apart := false }
def ReplayBlocksSaid : Prop := replayBlocksRow.holds Try.pinned (OpenSpec.ofChange replayBlocksSpec)

/-- ITS FALSE NEIGHBOUR: 'it returns false'. Refute it at one input. -/
def replayBlocksWrong : ChangeSpec := { name := "replayBlocks", fn := fun _ => fun
  | [d1, d2, d3] => { results := [.lit (.bool false)], args := [d1, d2, d3] }
  | _ => none }
def ReplayBlocksWrongFalsely : Prop := replayBlocksRow.holds Try.pinned (OpenSpec.ofChange replayBlocksWrong)

/-- 'timesynclaw45.ReplayPlays': WHATEVER THE INPUT: true; the input reads as it did. -/
def replayPlaysSpec : ChangeSpec := { name := "replayPlays", fn := fun _ => fun
  | [d1, d2] => { results := [.lit (.bool true)], args := [d1, d2] }
  | _ => none }
def replayPlaysRow : OpenClaim := { program := "ythmkckdjddgmhaa", sum := "c6706e4db2360f72e6d6101553b8b14bd5db1780dc655d2281af5f1ff8276691", func := "timesync/timesynclaw45.ReplayPlays", spec := "replayPlays", apart := false }
def ReplayPlaysSaid : Prop := replayPlaysRow.holds Try.pinned (OpenSpec.ofChange replayPlaysSpec)

/-- ITS FALSE NEIGHBOUR: 'it returns false'. Refute it at one input. -/
def replayPlaysWrong : ChangeSpec := { name := "replayPlays", fn := fun _ => fun
  | [d1, d2] => { results := [.lit (.bool false)], args := [d1, d2] }
  | _ => none }
def ReplayPlaysWrongFalsely : Prop := replayPlaysRow.holds Try.pinned (OpenSpec.ofChange replayPlaysWrong)

/-- 'timesynclaw45.ReplayAgain': WHATEVER THE INPUT: true; the input reads as it did. -/
def replayAgainSpec : ChangeSpec := { name := "replayAgain", fn := fun _ => fun
  | [d1, d2, d3] => { results := [.lit (.bool true)], args := [d1, d2, d3] }
  | _ => none }
def replayAgainRow : OpenClaim := { program := "ythmkckdjddgmhaa", sum := "c6706e4db2360f72e6d6101553b8b14bd5db1780dc655d2281af5f1ff8276691", func := "timesync/timesynclaw45.ReplayAgain", spec := "replayAgain", apart := false }
def ReplayAgainSaid : Prop := replayAgainRow.holds Try.pinned (OpenSpec.ofChange replayAgainSpec)

/-- ITS FALSE NEIGHBOUR: 'it returns false'. Refute it at one input. -/
def replayAgainWrong : ChangeSpec := { name := "replayAgain", fn := fun _ => fun
  | [d1, d2, d3] => { results := [.lit (.bool false)], args := [d1, d2, d3] }
  | _ => none }
def ReplayAgainWrongFalsely : Prop := replayAgainRow.holds Try.pinned (OpenSpec.ofChange replayAgainWrong)

/-- 'timesynclaw45.ReplayNobody': WHATEVER THE INPUT: true; the input reads as it did. -/
def replayNobodySpec : ChangeSpec := { name := "replayNobody", fn := fun _ => fun
  | [d1, d2] => { results := [.lit (.bool true)], args := [d1, d2] }
  | _ => none }
def replayNobodyRow : OpenClaim := { program := "ythmkckdjddgmhaa", sum := "c6706e4db2360f72e6d6101553b8b14bd5db1780dc655d2281af5f1ff8276691", func := "timesync/timesynclaw45.ReplayNobody", spec := "replayNobody", apart := false }
def ReplayNobodySaid : Prop := replayNobodyRow.holds Try.pinned (OpenSpec.ofChange replayNobodySpec)

/-- ITS FALSE NEIGHBOUR: 'it returns false'. Refute it at one input. -/
def replayNobodyWrong : ChangeSpec := { name := "replayNobody", fn := fun _ => fun
  | [d1, d2] => { results := [.lit (.bool false)], args := [d1, d2] }
  | _ => none }
def ReplayNobodyWrongFalsely : Prop := replayNobodyRow.holds Try.pinned (OpenSpec.ofChange replayNobodyWrong)

/-- 'timesynclaw45.ReplayOnce': WHATEVER THE INPUT: true; the input reads as it did. -/
def replayOnceSpec : ChangeSpec := { name := "replayOnce", fn := fun _ => fun
  | [d1, d2] => { results := [.lit (.bool true)], args := [d1, d2] }
  | _ => none }
def replayOnceRow : OpenClaim := { program := "ythmkckdjddgmhaa", sum := "c6706e4db2360f72e6d6101553b8b14bd5db1780dc655d2281af5f1ff8276691", func := "timesync/timesynclaw45.ReplayOnce", spec := "replayOnce", apart := false }
def ReplayOnceSaid : Prop := replayOnceRow.holds Try.pinned (OpenSpec.ofChange replayOnceSpec)

/-- ITS FALSE NEIGHBOUR: 'it returns false'. Refute it at one input. -/
def replayOnceWrong : ChangeSpec := { name := "replayOnce", fn := fun _ => fun
  | [d1, d2] => { results := [.lit (.bool false)], args := [d1, d2] }
  | _ => none }
def ReplayOnceWrongFalsely : Prop := replayOnceRow.holds Try.pinned (OpenSpec.ofChange replayOnceWrong)

/-- 'timesynclaw45.ReplayRises': WHATEVER THE INPUT: true; the input reads as it did. -/
def replayRisesSpec : ChangeSpec := { name := "replayRises", fn := fun _ => fun
  | [d1, d2, d3] => { results := [.lit (.bool true)], args := [d1, d2, d3] }
  | _ => none }
def replayRisesRow : OpenClaim := { program := "ythmkckdjddgmhaa", sum := "c6706e4db2360f72e6d6101553b8b14bd5db1780dc655d2281af5f1ff8276691", func := "timesync/timesynclaw45.ReplayRises", spec := "replayRises", apart := false }
def ReplayRisesSaid : Prop := replayRisesRow.holds Try.pinned (OpenSpec.ofChange replayRisesSpec)

/-- ITS FALSE NEIGHBOUR: 'it returns false'. Refute it at one input. -/
def replayRisesWrong : ChangeSpec := { name := "replayRises", fn := fun _ => fun
  | [d1, d2, d3] => { results := [.lit (.bool false)], args := [d1, d2, d3] }
  | _ => none }
def ReplayRisesWrongFalsely : Prop := replayRisesRow.holds Try.pinned (OpenSpec.ofChange replayRisesWrong)

/- THE SECOND FORM. 'bulk': how many values and letters a reading holds, each counted each time it is reached (what is shared counts as often as it is met; a slice's spare places count too). A statement '..UptoSaid' is the law's where the arguments, and the package variables that the reading takes, are together of bulk at most 1048576: NARROWER than '..Said'. Prove '..Said' where nothing that the law and all that it calls make is longer than what came in: it says more and counts as full. Else prove '..UptoSaid'. A law counts once. -/
mutual
def uptoBulk {H : Type} : DataW H → Nat
  | .lit (.string bytes) => bytes.length + 1
  | .lit _ => 1
  | .nil => 1
  | .ptr d => uptoBulk d + 1
  | .slice elems spare => uptoBulkAll elems + uptoBulkAll spare + 1
  | .agg parts => uptoBulkAll parts + 1
  | .iface _ d => uptoBulk d + 1
  | .map entries => uptoBulkEntries entries + 1
  | .held _ => 1
def uptoBulkAll {H : Type} : List (DataW H) → Nat
  | [] => 0
  | d :: r => uptoBulk d + uptoBulkAll r
def uptoBulkEntries {H : Type} : List (Lit × DataW H) → Nat
  | [] => 0
  | x :: r => uptoBulkEntry x + uptoBulkEntries r
def uptoBulkEntry {H : Type} : Lit × DataW H → Nat
  | (.string bytes, d) => bytes.length + uptoBulk d + 1
  | (_, d) => uptoBulk d + 1
 end
def uptoSmall : (H : Type) → List (DataW H) → Bool := fun _ ds => decide (uptoBulkAll ds ≤ 1048576)
def OpenSpec.upto (s : _root_.Go.ChangeSpec) : _root_.Go.OpenSpec := { _root_.Go.OpenSpec.ofChange s with cond := some uptoSmall }

/-- 'timesynclaw45.ReplayBlocks', WHERE WHAT IT READS IS OF BULK AT MOST 1048576: true; the input reads as it did. -/
def replayBlocksUptoRow : OpenClaim := { program := "ythmkckdjddgmhaa", sum := "c6706e4db2360f72e6d6101553b8b14bd5db1780dc655d2281af5f1ff8276691", func := "timesync/timesynclaw45.ReplayBlocks", spec := "replayBlocks", apart := false, narrowed := true }
def ReplayBlocksUptoSaid : Prop := replayBlocksUptoRow.holds Try.pinned (OpenSpec.upto replayBlocksSpec)

/-- 'timesynclaw45.ReplayPlays', WHERE WHAT IT READS IS OF BULK AT MOST 1048576: true; the input reads as it did. -/
def replayPlaysUptoRow : OpenClaim := { program := "ythmkckdjddgmhaa", sum := "c6706e4db2360f72e6d6101553b8b14bd5db1780dc655d2281af5f1ff8276691", func := "timesync/timesynclaw45.ReplayPlays", spec := "replayPlays", apart := false, narrowed := true }
def ReplayPlaysUptoSaid : Prop := replayPlaysUptoRow.holds Try.pinned (OpenSpec.upto replayPlaysSpec)

/-- 'timesynclaw45.ReplayAgain', WHERE WHAT IT READS IS OF BULK AT MOST 1048576: true; the input reads as it did. -/
def replayAgainUptoRow : OpenClaim := { program := "ythmkckdjddgmhaa", sum := "c6706e4db2360f72e6d6101553b8b14bd5db1780dc655d2281af5f1ff8276691", func := "timesync/timesynclaw45.ReplayAgain", spec := "replayAgain", apart := false, narrowed := true }
def ReplayAgainUptoSaid : Prop := replayAgainUptoRow.holds Try.pinned (OpenSpec.upto replayAgainSpec)

/-- 'timesynclaw45.ReplayNobody', WHERE WHAT IT READS IS OF BULK AT MOST 1048576: true; the input reads as it did. -/
def replayNobodyUptoRow : OpenClaim := { program := "ythmkckdjddgmhaa", sum := "c6706e4db2360f72e6d6101553b8b14bd5db1780dc655d2281af5f1ff8276691", func := "timesync/timesynclaw45.ReplayNobody", spec := "replayNobody", apart := false, narrowed := true }
def ReplayNobodyUptoSaid : Prop := replayNobodyUptoRow.holds Try.pinned (OpenSpec.upto replayNobodySpec)

/-- 'timesynclaw45.ReplayOnce', WHERE WHAT IT READS IS OF BULK AT MOST 1048576: true; the input reads as it did. -/
def replayOnceUptoRow : OpenClaim := { program := "ythmkckdjddgmhaa", sum := "c6706e4db2360f72e6d6101553b8b14bd5db1780dc655d2281af5f1ff8276691", func := "timesync/timesynclaw45.ReplayOnce", spec := "replayOnce", apart := false, narrowed := true }
def ReplayOnceUptoSaid : Prop := replayOnceUptoRow.holds Try.pinned (OpenSpec.upto replayOnceSpec)

/-- 'timesynclaw45.ReplayRises', WHERE WHAT IT READS IS OF BULK AT MOST 1048576: true; the input reads as it did. -/
def replayRisesUptoRow : OpenClaim := { program := "ythmkckdjddgmhaa", sum := "c6706e4db2360f72e6d6101553b8b14bd5db1780dc655d2281af5f1ff8276691", func := "timesync/timesynclaw45.ReplayRises", spec := "replayRises", apart := false, narrowed := true }
def ReplayRisesUptoSaid : Prop := replayRisesUptoRow.holds Try.pinned (OpenSpec.upto replayRisesSpec)

end Rows
end Go.Proofs.Ythmkckdjddgmhaa
