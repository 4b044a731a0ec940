/- copy between rows of integers of the call's own; rows with room. -/
import Derived.Test.YtieggiplbghecaaRv
import Derived.Laws.CopyOwn
set_option linter.unusedVariables false
set_option linter.unusedSimpArgs false
namespace Go.Proofs.Ytieggiplbghecaa.Orw
open Go.RowKit Ls
theorem row_list (f : Nat → Int) (n : Nat) : (row f n).toList = (List.range n).map fun i => Value.int .i64 (f i) := by simp [row]
theorem row_splice (f h : Nat → Int) (n : Nat) : ((row f n).toList.take 0 ++ ((row h n).toList ++ (row f n).toList.drop (0 + (row h n).toList.length))).toArray = row h n := by
  rw [List.take_zero, List.nil_append, List.drop_eq_nil_of_le (by simp [row]), List.append_nil]
theorem add0 (b j : Nat) : (⟨b, 0, none⟩ : Addr).add j = ⟨b, j, none⟩ := by
  unfold Addr.add; split
  · rename_i h; subst h; rfl
  · simp
/-- copy of all of one row to another -/
theorem copy_ob {w : World} {ops : Array Oper} {rest : List Oper} {o : Oper} {a : Act} {Q : Exit → Act → World → Prop} {gd gs n : Nat} {f h : Nat → Int} (hgd : o.guard = none) (d s : Operand)
    (ho : o.op = .call { callee := .builtin .copy, args := #[d, s], argTypes := #[32, 32] }) (hd : a.eval d = .slice (some ⟨gd, 0, none⟩) n n) (hs : a.eval s = .slice (some ⟨gs, 0, none⟩) n n) (D : Ob w gd n f) (S : Ob w gs n h)
    (hk : ∀ w', Ob w' gd n h → Below gd w w' → w'.heap.size = w.heap.size → wpList Try.prog ops Q rest (a.put o.dst (goInt n)) w') : wpList Try.prog ops Q (o :: rest) a w := by
  have hl : (row h n).toList.length = n := by simp [row]
  have e := wpList_copy_own (P := Try.prog) (w := w) (ops := ops) (rest := rest) (Q := Q) hgd d s 32 32 ho 3 Try.underlying32 (by
      obtain ⟨i0, hi, _, hz1, _⟩ := info_parts int_info
      rw [hi]; simp [hz1]) gd 0 n n ⟨gs, 0, none⟩ n n hd hs (row f n) 3 D.h (row h n).toList (by rw [hl]; simp) (fun j v hj => by
      have hjn : j < n := by
        have := (List.getElem?_eq_some_iff.1 hj).1; rwa [hl] at this
      rw [Array.getElem?_toList, row_get _ hjn] at hj
      injection hj with hj; subst hj
      rw [add0]; exact S.cell hjn) (by rw [hl]; simp [row]) (by
      intro v hv; rw [row_list] at hv; simp only [List.mem_map] at hv; obtain ⟨t, _, rfl⟩ := hv; rfl)
  refine e ?_
  rw [row_splice, hl]
  refine hk _ ⟨setRow_heap w gd _ _ 3 _ D.h⟩ (below_setRow (Below.refl _ _) (Nat.le_refl _) _) (by simp [World.setRow])
/-- a row of n integers that the call made, with room behind -/
structure Oc (w : World) (g n : Nat) (f : Nat → Int) : Prop where
  c : ∃ cur, w.heap[g]? = some (.cells cur 3 (0, 0)) ∧ ∀ i, i < n → cur[i]? = some (.int .i64 (f i))
section
variable {w w' : World} {g n : Nat} {f : Nat → Int}
theorem Oc.lt (r : Oc w g n f) : g < w.heap.size := by obtain ⟨_, h, _⟩ := r.c; exact Hp.blk_lt h
theorem Oc.cell (r : Oc w g n f) {j : Nat} (h2 : j < n) : w.cell? ⟨g, j, none⟩ = some (.int .i64 (f j)) := by obtain ⟨_, h, hc⟩ := r.c; exact Hp.blk_cell h (hc j h2)
theorem Oc.free (r : Oc w g n f) (j : Nat) : w.frozen? ⟨g, j, none⟩ = false := by obtain ⟨_, h, _⟩ := r.c; exact Hp.blk_free h
theorem Oc.later (r : Oc w g n f) (h : Below w.heap.size w w') : Oc w' g n f := by obtain ⟨cur, hh, hc⟩ := r.c; exact ⟨cur, (h.block g r.lt).trans hh, hc⟩
theorem Oc.below {B : Nat} (r : Oc w g n f) (h : Below B w w') (hg : g < B) : Oc w' g n f := by obtain ⟨cur, hh, hc⟩ := r.c; exact ⟨cur, (h.block g hg).trans hh, hc⟩
theorem Oc.drewN (r : Oc w g n f) (m : Nat) : Oc (w.drewN m) g n f := ⟨r.c⟩
theorem Oc.set (r : Oc w g n f) (k : Nat) (v : Int) : Oc (w.setCell ⟨g, k, none⟩ (.int .i64 v)) g n (upd f k v) := by
  obtain ⟨cur, hh, hc⟩ := r.c
  refine ⟨_, Hp.blk_set hh, fun j h2 => ?_⟩
  have h1 := hc j h2
  unfold upd
  by_cases e : j = k
  · subst e
    rw [Array.getElem?_setIfInBounds_self_of_lt (Array.getElem?_eq_some_iff.1 h1).1, if_pos rfl]
  · rw [Array.getElem?_setIfInBounds_ne (by omega), if_neg e]; exact h1
theorem Oc.set_ne (r : Oc w g n f) {c i : Nat} {v : Value} (hc : g ≠ c) : Oc (w.setCell ⟨c, i, none⟩ v) g n f := by obtain ⟨cur, hh, hcc⟩ := r.c; exact ⟨cur, Hp.blk_set_ne hh hc, hcc⟩
theorem Oc.congr {f' : Nat → Int} (r : Oc w g n f) (h : ∀ i, i < n → f i = f' i) : Oc w g n f' := by obtain ⟨cur, hh, hc⟩ := r.c; exact ⟨cur, hh, fun j hj => by rw [← h j hj]; exact hc j hj⟩
theorem Oc.is (r : Oc w g n f) : Is w (some ⟨g, 0, none⟩) n f := by obtain ⟨cur, hh, hc⟩ := r.c; exact Is.of_block hh hc
theorem Ob.oc (o : Ob w g n f) : Oc w g n f := ⟨_, o.h, fun i hi => row_get f hi⟩
end
end Go.Proofs.Ytieggiplbghecaa.Orw
