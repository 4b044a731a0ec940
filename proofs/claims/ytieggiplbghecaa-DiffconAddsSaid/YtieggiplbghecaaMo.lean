/- Matrices: a slice of rows that the call itself made, block after block. -/
import Derived.Test.YtieggiplbghecaaOr
set_option linter.unusedVariables false
set_option linter.unusedSimpArgs false
namespace Go.Proofs.Ytieggiplbghecaa.Orw
open Go.RowKit Ls
def slot (g n k i : Nat) : Value := if i < k then .slice (some ⟨g + 1 + i, 0, none⟩) n n else .slice none 0 0
/-- the outer cells: the first k hold their rows -/
def outer (g n k : Nat) : Array Value := (Array.range n).map (slot g n k)
theorem outer_size (g n k : Nat) : (outer g n k).size = n := by simp [outer]
theorem outer_get (g : Nat) {n k i : Nat} (h : i < n) : (outer g n k)[i]? = some (slot g n k i) := by simp [outer, h]
theorem slot_in {g n k i : Nat} (h : i < k) : slot g n k i = .slice (some ⟨g + 1 + i, 0, none⟩) n n := by unfold slot; rw [if_pos h]
theorem outer_set (g n k : Nat) : (outer g n k).setIfInBounds k (.slice (some ⟨g + 1 + k, 0, none⟩) n n) = outer g n (k + 1) := by
  apply Array.ext_getElem?
  intro j
  by_cases hj : j < n
  · by_cases e : j = k
    · subst e
      rw [Array.getElem?_setIfInBounds_self_of_lt (by rw [outer_size]; exact hj), outer_get _ hj]
      unfold slot; rw [if_pos (by omega)]
    · rw [Array.getElem?_setIfInBounds_ne (by omega), outer_get _ hj, outer_get _ hj]
      unfold slot
      by_cases h : j < k
      · rw [if_pos h, if_pos (by omega)]
      · rw [if_neg h, if_neg (by omega)]
  · rw [Array.getElem?_eq_none (by simp [outer_size]; omega), Array.getElem?_eq_none (by rw [outer_size]; omega)]
theorem made_outer (g n : Nat) : madeCells #[Value.slice none 0 0] n = outer g n 0 := by
  apply Array.ext_getElem?
  intro j
  by_cases hj : j < n
  · rw [outer_get _ hj]; simp [madeCells, hj, Nat.mod_one, slot]
  · rw [Array.getElem?_eq_none (by rw [size_madeCells]; omega), Array.getElem?_eq_none (by rw [outer_size]; omega)]
/-- a matrix of n columns whose first k rows are made -/
structure Mo (w : World) (g n k : Nat) (f : Nat → Nat → Int) : Prop where
  o : w.heap[g]? = some (.cells (outer g n k) 32 (0, 0))
  r : ∀ i, i < k → Ob w (g + 1 + i) n (f i)
def updM (f : Nat → Nat → Int) (i j : Nat) (v : Int) (i' j' : Nat) : Int := if i' = i ∧ j' = j then v else f i' j'
section
variable {w w' : World} {g n k : Nat} {f : Nat → Nat → Int}
theorem Mo.lt (m : Mo w g n k f) : g < w.heap.size := Hp.blk_lt m.o
theorem Mo.rlt (m : Mo w g n k f) {i : Nat} (hi : i < k) : g + 1 + i < w.heap.size := (m.r i hi).lt
theorem Mo.out (m : Mo w g n k f) {i : Nat} (hi : i < k) (hn : i < n) : w.cell? ⟨g, i, none⟩ = some (.slice (some ⟨g + 1 + i, 0, none⟩) n n) := by
  rw [← slot_in (g := g) (n := n) hi]; exact Hp.blk_cell m.o (outer_get g hn)
theorem Mo.ofree (m : Mo w g n k f) (i : Nat) : w.frozen? ⟨g, i, none⟩ = false := Hp.blk_free m.o
theorem Mo.cell (m : Mo w g n k f) {i j : Nat} (hi : i < k) (hj : j < n) : w.cell? ⟨g + 1 + i, j, none⟩ = some (.int .i64 (f i j)) := (m.r i hi).cell hj
theorem Mo.free (m : Mo w g n k f) {i : Nat} (hi : i < k) (j : Nat) : w.frozen? ⟨g + 1 + i, j, none⟩ = false := (m.r i hi).free j
theorem Mo.later (m : Mo w g n k f) (h : Below w.heap.size w w') : Mo w' g n k f := ⟨(h.block g m.lt).trans m.o, fun i hi => (m.r i hi).later h⟩
theorem Mo.below {B : Nat} (m : Mo w g n k f) (h : Below B w w') (hg : g + 1 + k ≤ B) : Mo w' g n k f := ⟨(h.block g (by omega)).trans m.o, fun i hi => (m.r i hi).below h (by omega)⟩
theorem Mo.drewN (m : Mo w g n k f) (q : Nat) : Mo (w.drewN q) g n k f := ⟨m.o, fun i hi => (m.r i hi).drewN q⟩
theorem Mo.drew (m : Mo w g n k f) : Mo w.drew g n k f := ⟨m.o, fun i hi => (m.r i hi).drew⟩
theorem Mo.alloc (m : Mo w g n k f) (x : Obj) : Mo (w.alloc x) g n k f := ⟨Hp.blk_old m.o, fun i hi => (m.r i hi).alloc x⟩
theorem Mo.congr {f' : Nat → Nat → Int} (m : Mo w g n k f) (h : ∀ i j, i < k → j < n → f i j = f' i j) : Mo w g n k f' := ⟨m.o, fun i hi => (m.r i hi).congr fun j hj => h i j hi hj⟩
theorem Mo.set (m : Mo w g n k f) {i : Nat} (hi : i < k) (j : Nat) (v : Int) : Mo (w.setCell ⟨g + 1 + i, j, none⟩ (.int .i64 v)) g n k (updM f i j v) := by
  refine ⟨Hp.blk_set_ne m.o (by omega), fun i' hi' => ?_⟩
  by_cases e : i' = i
  · subst e
    refine ((m.r i' hi').set j v).congr fun j' _ => ?_
    unfold upd updM
    by_cases e2 : j' = j
    · rw [if_pos e2, if_pos ⟨rfl, e2⟩]
    · rw [if_neg e2, if_neg (by omega)]
  · refine ((m.r i' hi').set_ne (by omega)).congr fun j' _ => ?_
    unfold updM; rw [if_neg (by omega)]
/-- one more row is made and laid -/
theorem Mo.next (m : Mo w g n k f) (hs : w.heap.size = g + 1 + k) (h0 : ∀ j, f k j = 0) : Mo ((w.alloc (.cells (row (fun _ => 0) n) 3)).setCell ⟨g, k, none⟩ (.slice (some ⟨g + 1 + k, 0, none⟩) n n)) g n (k + 1) f := by
  refine ⟨?_, fun i hi => ?_⟩
  · have := Hp.blk_set (o := k) (v := .slice (some ⟨g + 1 + k, 0, none⟩) n n) (Hp.blk_old (y := .cells (row (fun _ => 0) n) 3) m.o)
    rw [outer_set] at this; exact this
  · by_cases e : i = k
    · subst e
      have h1 := Ob.made w n
      rw [hs] at h1
      exact (h1.set_ne (by omega)).congr fun j _ => (h0 j).symm
    · exact ((m.r i (by omega)).alloc _).set_ne (by omega)
theorem Mo.made (w : World) (n : Nat) (f : Nat → Nat → Int) : Mo (w.alloc (.cells (outer w.heap.size n 0) 32)) w.heap.size n 0 f := ⟨Hp.blk_new _ _, fun i hi => by omega⟩
end
theorem ints_info : (Try.prog.info? 32).map (fun i => (i.zero, i.size, i.bytes)) = some (some (.slice none 0 0), 1, 24) := by kernel_rfl
/-- make([][]int, n) -/
theorem make_outer (n : Nat) (v : Int) (hv : v = n) (hn : n ≤ 1000000) (w : World) :
    (Instr.makeSlice 25 (.int .i64 v) (.int .i64 v)).run Try.prog w = .ok (.slice (some ⟨w.heap.size, 0, none⟩) n n) (w.alloc (.cells (outer w.heap.size n 0) 32)) := by
  subst hv
  have := run_make_row' (P := Try.prog) 25 32 (.slice none 0 0) 24 Try.underlying25 ints_info rfl .i64 .i64 n (by omega) (by omega) w
  rw [made_outer w.heap.size] at this; exact this
/-- a matrix of n rows of n numbers that is read -/
structure Mr (w : World) (a : Option Addr) (n : Nat) (f : Nat → Nat → Int) : Prop where
  c : n = 0 ∨ ∃ (b o : Nat) (A : Nat → Option Addr) (C : Nat → Nat), a = some ⟨b, o, none⟩ ∧ b < w.heap.size ∧ ∀ i, i < n → w.cell? ⟨b, o + i, none⟩ = some (.slice (A i) n (C i)) ∧ Is w (A i) n (f i)
theorem Mo.mr {w : World} {g n : Nat} {f : Nat → Nat → Int} (m : Mo w g n n f) : Mr w (some ⟨g, 0, none⟩) n f :=
  ⟨.inr ⟨g, 0, fun i => some ⟨g + 1 + i, 0, none⟩, fun _ => n, rfl, m.lt, fun i hi => ⟨by rw [Nat.zero_add]; exact m.out hi hi, (m.r i hi).is⟩⟩⟩
theorem Mr.later {w w' : World} {a : Option Addr} {n : Nat} {f : Nat → Nat → Int} (m : Mr w a n f) (h : Below w.heap.size w w') : Mr w' a n f := by
  rcases m.c with h0 | ⟨b, o, A, C, ha, hb, hc⟩
  · exact ⟨.inl h0⟩
  · exact ⟨.inr ⟨b, o, A, C, ha, Nat.lt_of_lt_of_le hb h.size, fun i hi => ⟨(h.cell (p := ⟨b, o + i, none⟩) hb).trans (hc i hi).1, (hc i hi).2.later h⟩⟩⟩
theorem Mr.row {w : World} {a : Option Addr} {n : Nat} {f : Nat → Nat → Int} (m : Mr w a n f) {i : Nat} (hi : i < n) :
    ∃ b o A C, a = some ⟨b, o, none⟩ ∧ b < w.heap.size ∧ w.cell? ⟨b, o + i, none⟩ = some (.slice A n C) ∧ Is w A n (f i) := by
  rcases m.c with h0 | ⟨b, o, A, C, ha, hb, hc⟩
  · omega
  · exact ⟨b, o, A i, C i, ha, hb, (hc i hi).1, (hc i hi).2⟩
end Go.Proofs.Ytieggiplbghecaa.Orw
