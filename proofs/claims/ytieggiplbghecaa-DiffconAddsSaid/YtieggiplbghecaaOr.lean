/- A block of the call's own that holds the integers f 0 .. f (n - 1). -/
import Derived.Test.YtieggiplbghecaaLs
import Derived.Deep.OwnRows
import Derived.Laws.OwnMore
import Derived.Laws.MakeOwn
set_option linter.unusedVariables false
set_option linter.unusedSimpArgs false
namespace Go.Proofs.Ytieggiplbghecaa.Orw
open Go.RowKit Ls
def row (f : Nat → Int) (n : Nat) : Array Value := (Array.range n).map fun i => .int .i64 (f i)
theorem row_size (f : Nat → Int) (n : Nat) : (row f n).size = n := by simp [row]
theorem row_get (f : Nat → Int) {n i : Nat} (h : i < n) : (row f n)[i]? = some (.int .i64 (f i)) := by simp [row, h]
def upd (f : Nat → Int) (i : Nat) (v : Int) (j : Nat) : Int := if j = i then v else f j
theorem row_set (f : Nat → Int) (n i : Nat) (v : Int) : (row f n).setIfInBounds i (.int .i64 v) = row (upd f i v) n := by
  apply Array.ext_getElem?
  intro j
  rw [Array.getElem?_setIfInBounds]
  by_cases hj : j < n
  · rw [row_get (upd f i v) hj]
    by_cases e : i = j
    · subst e; rw [if_pos rfl, if_pos (by rw [row_size]; exact hj)]; unfold upd; rw [if_pos rfl]
    · rw [if_neg e, row_get _ hj]; unfold upd; rw [if_neg (by omega)]
  · have e1 : (row (upd f i v) n)[j]? = none := Array.getElem?_eq_none (by rw [row_size]; omega)
    have e2 : (row f n)[j]? = none := Array.getElem?_eq_none (by rw [row_size]; omega)
    rw [e1, e2]
    by_cases e : i = j
    · subst e; rw [if_pos rfl, if_neg (by rw [row_size]; omega)]
    · rw [if_neg e]
theorem row_congr {f g : Nat → Int} {n : Nat} (h : ∀ i, i < n → f i = g i) : row f n = row g n := by
  apply Array.ext_getElem?
  intro j
  by_cases hj : j < n
  · rw [row_get _ hj, row_get _ hj, h j hj]
  · rw [Array.getElem?_eq_none (by rw [row_size]; omega), Array.getElem?_eq_none (by rw [row_size]; omega)]
theorem made (n : Nat) : madeCells #[Value.int .i64 0] n = row (fun _ => 0) n := by
  apply Array.ext_getElem?
  intro j
  by_cases hj : j < n
  · rw [row_get _ hj]; simp [madeCells, hj, Nat.mod_one]
  · rw [Array.getElem?_eq_none (by rw [size_madeCells]; omega), Array.getElem?_eq_none (by rw [row_size]; omega)]
structure Ob (w : World) (g n : Nat) (f : Nat → Int) : Prop where
  h : w.heap[g]? = some (.cells (row f n) 3 (0, 0))
section
variable {w w' : World} {g n : Nat} {f : Nat → Int}
theorem Ob.lt (o : Ob w g n f) : g < w.heap.size := Hp.blk_lt o.h
theorem Ob.cell (o : Ob w g n f) {i : Nat} (hi : i < n) : w.cell? ⟨g, i, none⟩ = some (.int .i64 (f i)) := Hp.blk_cell o.h (row_get f hi)
theorem Ob.free (o : Ob w g n f) (i : Nat) : w.frozen? ⟨g, i, none⟩ = false := Hp.blk_free o.h
theorem Ob.later (o : Ob w g n f) (k : Below w.heap.size w w') : Ob w' g n f := ⟨(k.block g o.lt).trans o.h⟩
theorem Ob.below {B : Nat} (o : Ob w g n f) (k : Below B w w') (hg : g < B) : Ob w' g n f := ⟨(k.block g hg).trans o.h⟩
theorem Ob.drew (o : Ob w g n f) : Ob w.drew g n f := ⟨o.h⟩
theorem Ob.drewN (o : Ob w g n f) (k : Nat) : Ob (w.drewN k) g n f := ⟨o.h⟩
theorem Ob.alloc (o : Ob w g n f) (x : Obj) : Ob (w.alloc x) g n f := ⟨Hp.blk_old o.h⟩
theorem Ob.set (o : Ob w g n f) (i : Nat) (v : Int) : Ob (w.setCell ⟨g, i, none⟩ (.int .i64 v)) g n (upd f i v) := ⟨by have := Hp.blk_set (o := i) (v := .int .i64 v) o.h; rw [row_set] at this; exact this⟩
theorem Ob.set_ne (o : Ob w g n f) {c i : Nat} {v : Value} (hc : g ≠ c) : Ob (w.setCell ⟨c, i, none⟩ v) g n f := ⟨Hp.blk_set_ne o.h hc⟩
theorem Ob.congr {f' : Nat → Int} (o : Ob w g n f) (h : ∀ i, i < n → f i = f' i) : Ob w g n f' := ⟨by rw [← row_congr h]; exact o.h⟩
theorem Ob.is (o : Ob w g n f) : Is w (some ⟨g, 0, none⟩) n f := Is.of_block o.h fun i hi => row_get f hi
theorem Ob.made (w : World) (n : Nat) : Ob (w.alloc (.cells (row (fun _ => 0) n) 3)) w.heap.size n fun _ => 0 := ⟨Hp.blk_new _ _⟩
end
theorem int_info : (Try.prog.info? 3).map (fun i => (i.zero, i.size, i.bytes)) = some (some (.int .i64 0), 1, 8) := by kernel_rfl
/-- make([]int, n) -/
theorem make_run (n : Nat) (v : Int) (hv : v = n) (hn : n ≤ 1000000) (w : World) :
    (Instr.makeSlice 32 (.int .i64 v) (.int .i64 v)).run Try.prog w = .ok (.slice (some ⟨w.heap.size, 0, none⟩) n n) (w.alloc (.cells (row (fun _ => 0) n) 3)) := by
  subst hv
  have := run_make_row' (P := Try.prog) 32 3 (.int .i64 0) 8 Try.underlying32 int_info rfl .i64 .i64 n (by omega) (by omega) w
  rw [made] at this; exact this
end Go.Proofs.Ytieggiplbghecaa.Orw
