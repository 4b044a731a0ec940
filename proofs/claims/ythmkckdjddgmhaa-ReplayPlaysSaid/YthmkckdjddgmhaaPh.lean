/- A window of package replay in memory. -/
import Derived.Test.YthmkckdjddgmhaaPx
import Derived.Test.YthmkckdjddgmhaaHp
import Derived.Lib.Hide
import Derived.StillTailTactics
import Derived.Deep.RegionHeld3
import Derived.Laws.BitsAllLaws
import Derived.BigRegion
import Derived.BigQuiet
set_option linter.unusedVariables false
set_option linter.unusedSimpArgs false
namespace Go.Proofs.Ythmkckdjddgmhaa.PxW
open Go.RowKit
/-- block b is a window -/
structure Win (w : World) (b : Nat) (size next : Int) (B : Nat) : Prop where
  blk : w.heap[b]? = some (.cells #[.int .i64 size, .int .i64 next, .int .u64 (Px.wd B 0), .int .u64 (Px.wd B 1), .int .u64 (Px.wd B 2), .int .u64 (Px.wd B 3)] 43 (0, 0))
theorem Win.lt {w : World} {b : Nat} {size next : Int} {B : Nat} (h : Win w b size next B) : b < w.heap.size := (Array.getElem?_eq_some_iff.1 h.blk).1
theorem Win.c0 {w : World} {b : Nat} {size next : Int} {B : Nat} (h : Win w b size next B) : w.cell? ⟨b, 0, none⟩ = some (.int .i64 size) := by simp [World.cell?, h.blk]
theorem Win.c1 {w : World} {b : Nat} {size next : Int} {B : Nat} (h : Win w b size next B) : w.cell? ⟨b, 1, none⟩ = some (.int .i64 next) := by simp [World.cell?, h.blk]
theorem Win.c2 {w : World} {b : Nat} {size next : Int} {B : Nat} (h : Win w b size next B) : w.cell? ⟨b, 2, none⟩ = some (.int .u64 (Px.wd B 0)) := by simp [World.cell?, h.blk]
theorem Win.c3 {w : World} {b : Nat} {size next : Int} {B : Nat} (h : Win w b size next B) : w.cell? ⟨b, 3, none⟩ = some (.int .u64 (Px.wd B 1)) := by simp [World.cell?, h.blk]
theorem Win.c4 {w : World} {b : Nat} {size next : Int} {B : Nat} (h : Win w b size next B) : w.cell? ⟨b, 4, none⟩ = some (.int .u64 (Px.wd B 2)) := by simp [World.cell?, h.blk]
theorem Win.c5 {w : World} {b : Nat} {size next : Int} {B : Nat} (h : Win w b size next B) : w.cell? ⟨b, 5, none⟩ = some (.int .u64 (Px.wd B 3)) := by simp [World.cell?, h.blk]
theorem Win.free {w : World} {b : Nat} {size next : Int} {B : Nat} (h : Win w b size next B) (o : Nat) : w.frozen? ⟨b, o, none⟩ = false := by simp [World.frozen?, h.blk]
/-- nothing but block b has turned -/
structure But (b : Nat) (w w' : World) : Prop where
  os : w'.os = w.os
  tape : w'.tape = w.tape
  output : w'.output = w.output
  size : w.heap.size ≤ w'.heap.size
  block : ∀ k, k < w.heap.size → k ≠ b → w'.heap[k]? = w.heap[k]?
theorem But.refl (b : Nat) (w : World) : But b w w := ⟨rfl, rfl, rfl, Nat.le_refl _, fun _ _ _ => rfl⟩
theorem But.trans {b : Nat} {x y z : World} (h : But b x y) (k : But b y z) : But b x z :=
  ⟨k.os.trans h.os, k.tape.trans h.tape, k.output.trans h.output, Nat.le_trans h.size k.size, fun i hi hb => (k.block i (Nat.lt_of_lt_of_le hi h.size) hb).trans (h.block i hi hb)⟩
theorem But.drewN {b : Nat} {x y : World} (h : But b x y) (n : Nat) : But b x (y.drewN n) := ⟨h.os, h.tape, h.output, h.size, h.block⟩
theorem But.drew {b : Nat} {x y : World} (h : But b x y) : But b x y.drew := ⟨h.os, h.tape, h.output, h.size, h.block⟩
theorem But.setCell {b : Nat} {x y : World} (h : But b x y) (o : Nat) (v : Value) : But b x (y.setCell ⟨b, o, none⟩ v) :=
  h.trans ⟨rfl, rfl, rfl, by simp [World.setCell], fun k _ hk => Below.heap_setCell _ _ _ _ (by simpa using hk)⟩
theorem But.alloc {b : Nat} {x y : World} (h : But b x y) (o : Obj) : But b x (y.alloc o) :=
  h.trans ⟨rfl, rfl, rfl, by simp, fun k hk _ => Below.heap_alloc _ _ _ hk⟩
theorem But.below {b : Nat} {w w' : World} (h : Below w.heap.size w w') : But b w w' := ⟨h.os, h.tape, h.output, h.size, fun k hk _ => h.block k hk⟩
/-- seen from a base below the window -/
theorem But.toBelow {b B0 : Nat} {w0 w w' : World} (h : But b w w') (hb : B0 ≤ b) (k : Below B0 w0 w) (hs : B0 ≤ w.heap.size) : Below B0 w0 w' :=
  k.trans ⟨h.os, h.tape, h.output, h.size, fun i hi => h.block i (by omega) (by omega)⟩
theorem Win.of {b c : Nat} {w w' : World} {size next : Int} {B : Nat} (h : Win w b size next B) (k : But c w w') (hc : b ≠ c) : Win w' b size next B := ⟨by rw [k.block b h.lt hc]; exact h.blk⟩
theorem Win.later {b : Nat} {w w' : World} {size next : Int} {B : Nat} (h : Win w b size next B) (k : Below w.heap.size w w') : Win w' b size next B := ⟨by rw [k.block b h.lt]; exact h.blk⟩
theorem Win.drewN {b n : Nat} {w : World} {size next : Int} {B : Nat} (h : Win w b size next B) : Win (w.drewN n) b size next B := ⟨h.blk⟩
end Go.Proofs.Ythmkckdjddgmhaa.PxW
