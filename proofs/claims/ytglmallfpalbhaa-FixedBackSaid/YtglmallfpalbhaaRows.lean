/-
  No cell of these rows narrows 'for every input' (looked for: loops, veiled, ifaces, maps, wideKeys, modest, calm, conditions, laid).
  DERIVED. THE GIVEN ROWS OF THIS SEAT. 7 by the template 'for every input the law returns true; each argument reads behind the call as it read before'; 0 by the template 'total and deterministic' (their statements: YtglmallfpalbhaaTotals.lean).
  GIVEN WITH THE SEED: the statements are not yours to turn. If you find one false, say at which input.
  Laid BY PROGRAM, IN A SANDBOX (cutbox-rows.mjs): the forced cells as the released guide's own fill.sh prints them over the translation c65615ef6c45fadd… (all of the seat's roots in one cut). By AI agents, Wed Nov 11 2026. No macro, syntax, notation, axiom, sorry.
-/
import Derived.Test.YtglmallfpalbhaaChecked
import GoSem.Claim
import GoSem.ClaimJoined
import GoSem.ClaimMapViews
import Derived.JoinedTies
import Derived.KernelRfl
namespace Go.Proofs.Ytglmallfpalbhaa
/- THE CELL 'sum', in the pinned program and in every row, IS THE sha256 OF THE DUMP (.gsa) THAT YtglmallfpalbhaaProg.lean LOADS. Nothing in Lean hashes anything: it is a label: what it is worth is what the hold of that sum in a sandbox is worth. -/
noncomputable def Try.pinned : Pinned := { name := "ytglmallfpalbhaa", sum := "c65615ef6c45fadd4c739461e8115b388d0ba343bb009b99ed85e4ead42b9aec", checked := Try.checked }
namespace Rows
def none {H : Type} : Left H := { results := [], args := [] }

/-- 'timesynclaw01.FixedQuotients': WHATEVER THE INPUT: true; the input reads as it did. -/
def fixedQuotientsSpec : ChangeSpec := { name := "fixedQuotients", fn := fun _ => fun
  | [d1, d2] => { results := [.lit (.bool true)], args := [d1, d2] }
  | _ => none }
def fixedQuotientsRow : OpenClaim := { program := "ytglmallfpalbhaa", sum := "c65615ef6c45fadd4c739461e8115b388d0ba343bb009b99ed85e4ead42b9aec", func := "timesync/timesynclaw01.FixedQuotients", spec := "fixedQuotients", named := ["math/bits.divideError", "math/bits.overflowError"], apart := false }
def FixedQuotientsSaid : Prop := fixedQuotientsRow.holds Try.pinned (OpenSpec.ofChange fixedQuotientsSpec)

/-- ITS FALSE NEIGHBOUR: 'it returns false'. Refute it at one input. -/
def fixedQuotientsWrong : ChangeSpec := { name := "fixedQuotients", fn := fun _ => fun
  | [d1, d2] => { results := [.lit (.bool false)], args := [d1, d2] }
  | _ => none }
def FixedQuotientsWrongFalsely : Prop := fixedQuotientsRow.holds Try.pinned (OpenSpec.ofChange fixedQuotientsWrong)

/-- 'timesynclaw01.FixedProducts': WHATEVER THE INPUT: true; the input reads as it did. -/
def fixedProductsSpec : ChangeSpec := { name := "fixedProducts", fn := fun _ => fun
  | [d1, d2, d3] => { results := [.lit (.bool true)], args := [d1, d2, d3] }
  | _ => none }
def fixedProductsRow : OpenClaim := { program := "ytglmallfpalbhaa", sum := "c65615ef6c45fadd4c739461e8115b388d0ba343bb009b99ed85e4ead42b9aec", func := "timesync/timesynclaw01.FixedProducts", spec := "fixedProducts", named := ["math/bits.divideError", "math/bits.overflowError"], apart := false }
def FixedProductsSaid : Prop := fixedProductsRow.holds Try.pinned (OpenSpec.ofChange fixedProductsSpec)

/-- ITS FALSE NEIGHBOUR: 'it returns false'. Refute it at one input. -/
def fixedProductsWrong : ChangeSpec := { name := "fixedProducts", fn := fun _ => fun
  | [d1, d2, d3] => { results := [.lit (.bool false)], args := [d1, d2, d3] }
  | _ => none }
def FixedProductsWrongFalsely : Prop := fixedProductsRow.holds Try.pinned (OpenSpec.ofChange fixedProductsWrong)

/-- 'timesynclaw01.FixedScales': WHATEVER THE INPUT: true; the input reads as it did. -/
def fixedScalesSpec : ChangeSpec := { name := "fixedScales", fn := fun _ => fun
  | [d1, d2, d3] => { results := [.lit (.bool true)], args := [d1, d2, d3] }
  | _ => none }
def fixedScalesRow : OpenClaim := { program := "ytglmallfpalbhaa", sum := "c65615ef6c45fadd4c739461e8115b388d0ba343bb009b99ed85e4ead42b9aec", func := "timesync/timesynclaw01.FixedScales", spec := "fixedScales", named := ["math/bits.divideError", "math/bits.overflowError"], apart := false }
def FixedScalesSaid : Prop := fixedScalesRow.holds Try.pinned (OpenSpec.ofChange fixedScalesSpec)

/-- ITS FALSE NEIGHBOUR: 'it returns false'. Refute it at one input. -/
def fixedScalesWrong : ChangeSpec := { name := "fixedScales", fn := fun _ => fun
  | [d1, d2, d3] => { results := [.lit (.bool false)], args := [d1, d2, d3] }
  | _ => none }
def FixedScalesWrongFalsely : Prop := fixedScalesRow.holds Try.pinned (OpenSpec.ofChange fixedScalesWrong)

/-- 'timesynclaw01.FixedReturns': WHATEVER THE INPUT: true; the input reads as it did. -/
def fixedReturnsSpec : ChangeSpec := { name := "fixedReturns", fn := fun _ => fun
  | [d1, d2] => { results := [.lit (.bool true)], args := [d1, d2] }
  | _ => none }
def fixedReturnsRow : OpenClaim := { program := "ytglmallfpalbhaa", sum := "c65615ef6c45fadd4c739461e8115b388d0ba343bb009b99ed85e4ead42b9aec", func := "timesync/timesynclaw01.FixedReturns", spec := "fixedReturns", named := ["math/bits.divideError", "math/bits.overflowError"], apart := false }
def FixedReturnsSaid : Prop := fixedReturnsRow.holds Try.pinned (OpenSpec.ofChange fixedReturnsSpec)

/-- ITS FALSE NEIGHBOUR: 'it returns false'. Refute it at one input. -/
def fixedReturnsWrong : ChangeSpec := { name := "fixedReturns", fn := fun _ => fun
  | [d1, d2] => { results := [.lit (.bool false)], args := [d1, d2] }
  | _ => none }
def FixedReturnsWrongFalsely : Prop := fixedReturnsRow.holds Try.pinned (OpenSpec.ofChange fixedReturnsWrong)

/-- 'timesynclaw01.FixedRoots': WHATEVER THE INPUT: true; the input reads as it did. -/
def fixedRootsSpec : ChangeSpec := { name := "fixedRoots", fn := fun _ => fun
  | [d] => { results := [.lit (.bool true)], args := [d] }
  | _ => none }
def fixedRootsRow : OpenClaim := { program := "ytglmallfpalbhaa", sum := "c65615ef6c45fadd4c739461e8115b388d0ba343bb009b99ed85e4ead42b9aec", func := "timesync/timesynclaw01.FixedRoots", spec := "fixedRoots", named := ["math/bits.divideError", "math/bits.overflowError"], apart := false }
def FixedRootsSaid : Prop := fixedRootsRow.holds Try.pinned (OpenSpec.ofChange fixedRootsSpec)

/-- ITS FALSE NEIGHBOUR: 'it returns false'. Refute it at one input. -/
def fixedRootsWrong : ChangeSpec := { name := "fixedRoots", fn := fun _ => fun
  | [d] => { results := [.lit (.bool false)], args := [d] }
  | _ => none }
def FixedRootsWrongFalsely : Prop := fixedRootsRow.holds Try.pinned (OpenSpec.ofChange fixedRootsWrong)

/-- 'timesynclaw01.FixedBack': WHATEVER THE INPUT: true; the input reads as it did. -/
def fixedBackSpec : ChangeSpec := { name := "fixedBack", fn := fun _ => fun
  | [d1, d2] => { results := [.lit (.bool true)], args := [d1, d2] }
  | _ => none }
def fixedBackRow : OpenClaim := { program := "ytglmallfpalbhaa", sum := "c65615ef6c45fadd4c739461e8115b388d0ba343bb009b99ed85e4ead42b9aec", func := "timesync/timesynclaw01.FixedBack", spec := "fixedBack", named := ["math/bits.divideError", "math/bits.overflowError"], apart := false }
def FixedBackSaid : Prop := fixedBackRow.holds Try.pinned (OpenSpec.ofChange fixedBackSpec)

/-- ITS FALSE NEIGHBOUR: 'it returns false'. Refute it at one input. -/
def fixedBackWrong : ChangeSpec := { name := "fixedBack", fn := fun _ => fun
  | [d1, d2] => { results := [.lit (.bool false)], args := [d1, d2] }
  | _ => none }
def FixedBackWrongFalsely : Prop := fixedBackRow.holds Try.pinned (OpenSpec.ofChange fixedBackWrong)

/-- 'timesynclaw01.FixedSums': WHATEVER THE INPUT: true; the input reads as it did. -/
def fixedSumsSpec : ChangeSpec := { name := "fixedSums", fn := fun _ => fun
  | [d1, d2] => { results := [.lit (.bool true)], args := [d1, d2] }
  | _ => none }
def fixedSumsRow : OpenClaim := { program := "ytglmallfpalbhaa", sum := "c65615ef6c45fadd4c739461e8115b388d0ba343bb009b99ed85e4ead42b9aec", func := "timesync/timesynclaw01.FixedSums", spec := "fixedSums", named := ["math/bits.divideError", "math/bits.overflowError"], apart := false }
def FixedSumsSaid : Prop := fixedSumsRow.holds Try.pinned (OpenSpec.ofChange fixedSumsSpec)

/-- ITS FALSE NEIGHBOUR: 'it returns false'. Refute it at one input. -/
def fixedSumsWrong : ChangeSpec := { name := "fixedSums", fn := fun _ => fun
  | [d1, d2] => { results := [.lit (.bool false)], args := [d1, d2] }
  | _ => none }
def FixedSumsWrongFalsely : Prop := fixedSumsRow.holds Try.pinned (OpenSpec.ofChange fixedSumsWrong)

/- THE SECOND FORM. 'bulk': how many values and letters a reading holds, each counted each time it is reached (what is shared counts as often as it is met; a slice's spare places count too). A statement '..UptoSaid' is the law's where the arguments, and the package variables that the reading takes, are together of bulk at most 1048576: NARROWER than '..Said'. Prove '..Said' where nothing that the law and all that it calls make is longer than what came in: it says more and counts as full. Else prove '..UptoSaid'. A law counts once. -/
mutual
def uptoBulk {H : Type} : DataW H → Nat
  | .lit (.string bytes) => bytes.length + 1
  | .lit _ => 1
  | .nil => 1
  | .ptr d => uptoBulk d + 1
  | .slice elems spare => uptoBulkAll elems + uptoBulkAll spare + 1
  | .agg parts => uptoBulkAll parts + 1
  | .iface _ d => uptoBulk d + 1
  | .map entries => uptoBulkEntries entries + 1
  | .held _ => 1
def uptoBulkAll {H : Type} : List (DataW H) → Nat
  | [] => 0
  | d :: r => uptoBulk d + uptoBulkAll r
def uptoBulkEntries {H : Type} : List (Lit × DataW H) → Nat
  | [] => 0
  | x :: r => uptoBulkEntry x + uptoBulkEntries r
def uptoBulkEntry {H : Type} : Lit × DataW H → Nat
  | (.string bytes, d) => bytes.length + uptoBulk d + 1
  | (_, d) => uptoBulk d + 1
 end
def uptoSmall : (H : Type) → List (DataW H) → Bool := fun _ ds => decide (uptoBulkAll ds ≤ 1048576)
def OpenSpec.upto (s : _root_.Go.ChangeSpec) : _root_.Go.OpenSpec := { _root_.Go.OpenSpec.ofChange s with cond := some uptoSmall }

/-- 'timesynclaw01.FixedQuotients', WHERE WHAT IT READS IS OF BULK AT MOST 1048576: true; the input reads as it did. -/
def fixedQuotientsUptoRow : OpenClaim := { program := "ytglmallfpalbhaa", sum := "c65615ef6c45fadd4c739461e8115b388d0ba343bb009b99ed85e4ead42b9aec", func := "timesync/timesynclaw01.FixedQuotients", spec := "fixedQuotients", named := ["math/bits.divideError", "math/bits.overflowError"], apart := false, narrowed := true }
def FixedQuotientsUptoSaid : Prop := fixedQuotientsUptoRow.holds Try.pinned (OpenSpec.upto fixedQuotientsSpec)

/-- 'timesynclaw01.FixedProducts', WHERE WHAT IT READS IS OF BULK AT MOST 1048576: true; the input reads as it did. -/
def fixedProductsUptoRow : OpenClaim := { program := "ytglmallfpalbhaa", sum := "c65615ef6c45fadd4c739461e8115b388d0ba343bb009b99ed85e4ead42b9aec", func := "timesync/timesynclaw01.FixedProducts", spec := "fixedProducts", named := ["math/bits.divideError", "math/bits.overflowError"], apart := false, narrowed := true }
def FixedProductsUptoSaid : Prop := fixedProductsUptoRow.holds Try.pinned (OpenSpec.upto fixedProductsSpec)

/-- 'timesynclaw01.FixedScales', WHERE WHAT IT READS IS OF BULK AT MOST 1048576: true; the input reads as it did. -/
def fixedScalesUptoRow : OpenClaim := { program := "ytglmallfpalbhaa", sum := "c65615ef6c45fadd4c739461e8115b388d0ba343bb009b99ed85e4ead42b9aec", func := "timesync/timesynclaw01.FixedScales", spec := "fixedScales", named := ["math/bits.divideError", "math/bits.overflowError"], apart := false, narrowed := true }
def FixedScalesUptoSaid : Prop := fixedScalesUptoRow.holds Try.pinned (OpenSpec.upto fixedScalesSpec)

/-- 'timesynclaw01.FixedReturns', WHERE WHAT IT READS IS OF BULK AT MOST 1048576: true; the input reads as it did. -/
def fixedReturnsUptoRow : OpenClaim := { program := "ytglmallfpalbhaa", sum := "c65615ef6c45fadd4c739461e8115b388d0ba343bb009b99ed85e4ead42b9aec", func := "timesync/timesynclaw01.FixedReturns", spec := "fixedReturns", named := ["math/bits.divideError", "math/bits.overflowError"], apart := false, narrowed := true }
def FixedReturnsUptoSaid : Prop := fixedReturnsUptoRow.holds Try.pinned (OpenSpec.upto fixedReturnsSpec)

/-- 'timesynclaw01.FixedRoots', WHERE WHAT IT READS IS OF BULK AT MOST 1048576: true; the input reads as it did. -/
def fixedRootsUptoRow : OpenClaim := { program := "ytglmallfpalbhaa", sum := "c65615ef6c45fadd4c739461e8115b388d0ba343bb009b99ed85e4ead42b9aec", func := "timesync/timesynclaw01.FixedRoots", spec := "fixedRoots", named := ["math/bits.divideError", "math/bits.overflowError"], apart := false, narrowed := true }
def FixedRootsUptoSaid : Prop := fixedRootsUptoRow.holds Try.pinned (OpenSpec.upto fixedRootsSpec)

/-- 'timesynclaw01.FixedBack', WHERE WHAT IT READS IS OF BULK AT MOST 1048576: true; the input reads as it did. -/
def fixedBackUptoRow : OpenClaim := { program := "ytglmallfpalbhaa", sum := "c65615ef6c45fadd4c739461e8115b388d0ba343bb009b99ed85e4ead42b9aec", func := "timesync/timesynclaw01.FixedBack", spec := "fixedBack", named := ["math/bits.divideError", "math/bits.overflowError"], apart := false, narrowed := true }
def FixedBackUptoSaid : Prop := fixedBackUptoRow.holds Try.pinned (OpenSpec.upto fixedBackSpec)

/-- 'timesynclaw01.FixedSums', WHERE WHAT IT READS IS OF BULK AT MOST 1048576: true; the input reads as it did. -/
def fixedSumsUptoRow : OpenClaim := { program := "ytglmallfpalbhaa", sum := "c65615ef6c45fadd4c739461e8115b388d0ba343bb009b99ed85e4ead42b9aec", func := "timesync/timesynclaw01.FixedSums", spec := "fixedSums", named := ["math/bits.divideError", "math/bits.overflowError"], apart := false, narrowed := true }
def FixedSumsUptoSaid : Prop := fixedSumsUptoRow.holds Try.pinned (OpenSpec.upto fixedSumsSpec)

end Rows
end Go.Proofs.Ytglmallfpalbhaa
