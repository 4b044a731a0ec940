/- Slices of integers that the call itself made: append (the general part of XPq). -/
import Derived.Test.YtieggiplbghecaaHp
import Derived.Lib.Hide
import Derived.LoopTactic
import Derived.OwnWalk
set_option linter.unusedVariables false
set_option linter.unusedSimpArgs false
namespace Go.Proofs.Ytieggiplbghecaa.Rw
open Go.RowKit
/-- v is a slice of the integers zs in memory from block base on -/
def Row (w : World) (base : Nat) (v : Value) (zs : List Int) : Prop := w.ownsRow base 3 1 v zs.length (zs.map (Value.int .i64))
theorem Row.form {w : World} {base : Nat} {v : Value} {zs : List Int} (h : Row w base v zs) :
    (v = .slice none 0 0 ∧ zs = []) ∨ ∃ g cap cur, v = .slice (some ⟨g, 0, none⟩) zs.length cap ∧ base ≤ g ∧ w.heap[g]? = some (.cells cur 3 (0, 0)) ∧ zs.length ≤ cap ∧ (∀ i, i < zs.length → cur[i]? = some (.int .i64 (zs.getD i 0))) := by
  obtain ⟨_, h2⟩ := h
  rcases h2 with ⟨hv, hn⟩ | ⟨g, cap, cur, hv, hg, hh, hc, _, hs, ht⟩
  · exact .inl ⟨hv, List.eq_nil_of_length_eq_zero hn⟩
  · refine .inr ⟨g, cap, cur, hv, hg, hh, hc, fun i hi => ?_⟩
    have e : (cur.toList.take (zs.length * 1))[i]? = (zs.map (Value.int .i64))[i]? := by rw [ht]
    rw [List.getElem?_take, if_pos (by omega), List.getElem?_map, List.getElem?_eq_getElem hi] at e
    rw [← Array.getElem?_toList, e, List.getD_eq_getElem?_getD, List.getElem?_eq_getElem hi]; rfl
theorem Row.nil (w : World) (base : Nat) : Row w base (.slice none 0 0) [] := World.ownsRow_nil _ _ _ _
theorem Row.drewN {w : World} {base n : Nat} {v : Value} {zs : List Int} (h : Row w base v zs) : Row (w.drewN n) base v zs := h
theorem Row.alloc {w : World} {base : Nat} {v : Value} {zs : List Int} (h : Row w base v zs) (o : Obj) : Row (w.alloc o) base v zs := World.ownsRow.alloc h o
theorem Row.mono {w : World} {base base' : Nat} {v : Value} {zs : List Int} (h : Row w base v zs) (hb : base' ≤ base) : Row w base' v zs := by
  obtain ⟨h1, h2⟩ := h
  refine ⟨h1, ?_⟩
  rcases h2 with h2 | ⟨g, cap, cur, hv, hg, r⟩
  · exact .inl h2
  · exact .inr ⟨g, cap, cur, hv, Nat.le_trans hb hg, r⟩
/-- the row's block is none of another type's -/
theorem Row.ne {w : World} {base b : Nat} {v : Value} {zs : List Int} {vs : Array Value} {T : TypeId} {f : Nat × Nat} (h : Row w base v zs) (hb : w.heap[b]? = some (.cells vs T f)) (hT : T ≠ 3) : v.ownBlock ≠ some b := by
  rcases h.form with ⟨rfl, _⟩ | ⟨g, cap, cur, rfl, _, hh, _⟩
  · intro e; cases e
  · intro e
    have e' : g = b := by simpa [Value.ownBlock] using e
    subst e'
    rw [hh] at hb
    simp at hb
    exact hT hb.2.1.symm
theorem Row.of_block {w w' : World} {base : Nat} {v : Value} {zs : List Int} (h : Row w base v zs) (hs : ∀ k, v.ownBlock = some k → w'.heap[k]? = w.heap[k]?) : Row w' base v zs := by
  obtain ⟨h1, h2⟩ := h
  refine ⟨h1, ?_⟩
  rcases h2 with h2 | ⟨g, cap, cur, hv, hg, hh, r⟩
  · exact .inl h2
  · refine .inr ⟨g, cap, cur, hv, hg, ?_, r⟩
    rw [hs g (by rw [hv]; rfl)]; exact hh
theorem Row.later {w w' : World} {base : Nat} {v : Value} {zs : List Int} (h : Row w base v zs) (k : Below w.heap.size w w') : Row w' base v zs :=
  h.of_block fun i hi => k.block i (World.ownsRow.lt h i hi).2
/-- another block behind an append -/
theorem Row.grown {w w' : World} {base b : Nat} {v : Value} {zs : List Int} {vs : Array Value} {T : TypeId} {f : Nat × Nat} (h : Row w base v zs) (hb : w.heap[b]? = some (.cells vs T f)) (hT : T ≠ 3) (k : w.grownBy w' v.ownBlock) : w'.heap[b]? = some (.cells vs T f) := by
  rw [k.block b (Hp.blk_lt hb) (fun e => h.ne hb hT e.symm)]; exact hb
theorem Row.below {w0 w w' : World} {base B0 : Nat} {v : Value} {zs : List Int} (h : Row w base v zs) (hb : B0 ≤ base) (k : w.grownBy w' v.ownBlock) (hB : Below B0 w0 w) (hs : B0 ≤ w.heap.size) : Below B0 w0 w' :=
  hB.grown k hs (fun i hi => by have := (World.ownsRow.lt h i hi).1; omega)
theorem info_int : (Try.prog.info? 3).map (fun i => (i.zero, i.size, i.bytes)) = some (some (.int .i64 0), 1, 8) := by kernel_rfl
/-- out = append(out, z) -/
theorem append_int {w : World} {ops : Array Oper} {rest : List Oper} {o : Oper} {a : Act} {Q : Exit → Act → World → Prop} {base : Nat} {v : Value} {zs : List Int} {z : Int} (hgd : o.guard = none) (s x : Operand)
    (ho : o.op = .call { callee := .builtin .append, args := #[s, x], argTypes := #[32, 32] }) (hs : a.eval s = v) (own : Row w base v zs) (ad : Addr) (hx : a.eval x = .slice (some ad) 1 1) (hc : w.cell? ad = some (.int .i64 z))
    (small : zs.length ≤ 1000000) (hb : base ≤ w.heap.size) (h : ∀ v' w', Row w' base v' (zs ++ [z]) → w.grownBy w' v.ownBlock → wpList Try.prog ops Q rest (a.put o.dst v') w') : wpList Try.prog ops Q (o :: rest) a w := by
  obtain ⟨i0, hi, hz0, hz1, hz2⟩ := info_parts info_int
  refine wpList_append_own w hgd s x 32 ho base 3 i0 (.int .i64 0) 1 8 Try.underlying32 hi hz0 hz1 hz2 rfl (by decide) v zs.length _ hs own ad 1 1 [.int .i64 z] hx rfl ?_ ?_ ?_ ?_ hb ?_
  · intro j u hj
    match j, hj with
    | 0, hj => simp at hj; subst hj; simpa [Addr.add] using hc
  · intro u hu; simp at hu; subst hu; rfl
  · unfold maxLen; omega
  · omega
  · intro v' w' h1 h2 _
    refine h v' w' ?_ h2
    unfold Row; rw [List.length_append, List.map_append]; exact h1
theorem Row.elem {w : World} {base : Nat} {v : Value} {zs : List Int} (h : Row w base v zs) {i : Nat} (hi : i < zs.length) :
    ∃ g cap, v = .slice (some ⟨g, 0, none⟩) zs.length cap ∧ base ≤ g ∧ g < w.heap.size ∧ w.cell? ⟨g, i, none⟩ = some (.int .i64 (zs.getD i 0)) := by
  rcases h.form with ⟨_, rfl⟩ | ⟨g, cap, cur, hv, hg, hh, hcap, hcur⟩
  · simp at hi
  · exact ⟨g, cap, hv, hg, (Array.getElem?_eq_some_iff.1 hh).1, Hp.blk_cell hh (hcur i hi)⟩
end Go.Proofs.Ytieggiplbghecaa.Rw
