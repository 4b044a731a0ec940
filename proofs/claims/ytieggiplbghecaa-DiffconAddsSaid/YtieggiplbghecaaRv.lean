/- Slices of slices that the call itself made: append of one slice. -/
import Derived.Test.YtieggiplbghecaaMo
import Derived.LoopTactic
import Derived.OwnWalk
set_option linter.unusedVariables false
set_option linter.unusedSimpArgs false
namespace Go.Proofs.Ytieggiplbghecaa.Rv
open Go.RowKit
/-- v is a slice of the slices vs in memory from block base on -/
structure RowV (w : World) (base : Nat) (v : Value) (vs : List Value) : Prop where
  own : w.ownsRow base 32 1 v vs.length vs
theorem RowV.form {w : World} {base : Nat} {v : Value} {vs : List Value} (h : RowV w base v vs) :
    (v = .slice none 0 0 ∧ vs = []) ∨ ∃ g cap cur, v = .slice (some ⟨g, 0, none⟩) vs.length cap ∧ base ≤ g ∧ w.heap[g]? = some (.cells cur 32 (0, 0)) ∧ vs.length ≤ cap ∧ (∀ i, i < vs.length → cur[i]? = vs[i]?) := by
  obtain ⟨_, h2⟩ := h.own
  rcases h2 with ⟨hv, hn⟩ | ⟨g, cap, cur, hv, hg, hh, hc, _, hs, ht⟩
  · exact .inl ⟨hv, List.eq_nil_of_length_eq_zero hn⟩
  · refine .inr ⟨g, cap, cur, hv, hg, hh, hc, fun i hi => ?_⟩
    have e : (cur.toList.take (vs.length * 1))[i]? = vs[i]? := by rw [ht]
    rw [List.getElem?_take, if_pos (by omega)] at e
    rw [← Array.getElem?_toList, e]
theorem RowV.nil (w : World) (base : Nat) : RowV w base (.slice none 0 0) [] := ⟨World.ownsRow_nil _ _ _ _⟩
theorem RowV.drewN {w : World} {base n : Nat} {v : Value} {vs : List Value} (h : RowV w base v vs) : RowV (w.drewN n) base v vs := ⟨h.own⟩
theorem RowV.alloc {w : World} {base : Nat} {v : Value} {vs : List Value} (h : RowV w base v vs) (o : Obj) : RowV (w.alloc o) base v vs := ⟨World.ownsRow.alloc h.own o⟩
theorem RowV.mono {w : World} {base base' : Nat} {v : Value} {zs : List Value} (h : RowV w base v zs) (hb : base' ≤ base) : RowV w base' v zs := by
  obtain ⟨h1, h2⟩ := h.own
  refine ⟨h1, ?_⟩
  rcases h2 with h2 | ⟨g, cap, cur, hv, hg, r⟩
  · exact .inl h2
  · exact .inr ⟨g, cap, cur, hv, Nat.le_trans hb hg, r⟩
/-- the slice's block is none of another type's -/
theorem RowV.ne {w : World} {base b : Nat} {v : Value} {zs : List Value} {vs : Array Value} {T : TypeId} {f : Nat × Nat} (h : RowV w base v zs) (hb : w.heap[b]? = some (.cells vs T f)) (hT : T ≠ 32) : v.ownBlock ≠ some b := by
  rcases h.form with ⟨rfl, _⟩ | ⟨g, cap, cur, rfl, _, hh, _⟩
  · intro e; cases e
  · intro e
    have e' : g = b := by simpa [Value.ownBlock] using e
    subst e'
    rw [hh] at hb
    simp at hb
    exact hT hb.2.1.symm
theorem RowV.of_block {w w' : World} {base : Nat} {v : Value} {zs : List Value} (h : RowV w base v zs) (hs : ∀ k, v.ownBlock = some k → w'.heap[k]? = w.heap[k]?) : RowV w' base v zs := by
  obtain ⟨h1, h2⟩ := h.own
  refine ⟨h1, ?_⟩
  rcases h2 with h2 | ⟨g, cap, cur, hv, hg, hh, r⟩
  · exact .inl h2
  · refine .inr ⟨g, cap, cur, hv, hg, ?_, r⟩
    rw [hs g (by rw [hv]; rfl)]; exact hh
theorem RowV.later {w w' : World} {base : Nat} {v : Value} {zs : List Value} (h : RowV w base v zs) (k : Below w.heap.size w w') : RowV w' base v zs :=
  h.of_block fun i hi => k.block i (World.ownsRow.lt h.own i hi).2
/-- a store to a block of another type -/
theorem RowV.set {w : World} {base b o : Nat} {v u : Value} {zs : List Value} {vs : Array Value} {T : TypeId} {f : Nat × Nat} (h : RowV w base v zs) (hb : w.heap[b]? = some (.cells vs T f)) (hT : T ≠ 32) : RowV (w.setCell ⟨b, o, none⟩ u) base v zs :=
  h.of_block fun i hi => by
    have hne : i ≠ b := by rintro rfl; exact h.ne hb hT hi
    have hlt := (World.ownsRow.lt h.own i hi).2
    obtain ⟨x, hx⟩ : ∃ x, w.heap[i]? = some x := ⟨w.heap[i], by simp [hlt]⟩
    rw [hx]; exact Hp.blk_set_ne hx hne
/-- another block behind an append -/
theorem RowV.grown {w w' : World} {base b : Nat} {v : Value} {zs : List Value} {vs : Array Value} {T : TypeId} {f : Nat × Nat} (h : RowV w base v zs) (hb : w.heap[b]? = some (.cells vs T f)) (hT : T ≠ 32) (k : w.grownBy w' v.ownBlock) : w'.heap[b]? = some (.cells vs T f) := by
  rw [k.block b (Hp.blk_lt hb) (fun e => h.ne hb hT e.symm)]; exact hb
theorem RowV.below {w0 w w' : World} {base B0 : Nat} {v : Value} {zs : List Value} (h : RowV w base v zs) (hb : B0 ≤ base) (k : w.grownBy w' v.ownBlock) (hB : Below B0 w0 w) (hs : B0 ≤ w.heap.size) : Below B0 w0 w' :=
  hB.grown k hs (fun i hi => by have := (World.ownsRow.lt h.own i hi).1; omega)
theorem RowV.at_ {w : World} {base : Nat} {v : Value} {vs : List Value} (h : RowV w base v vs) {i : Nat} (hi : i < vs.length) :
    ∃ g cap, v = .slice (some ⟨g, 0, none⟩) vs.length cap ∧ base ≤ g ∧ g < w.heap.size ∧ w.cell? ⟨g, i, none⟩ = vs[i]? := by
  rcases h.form with ⟨_, rfl⟩ | ⟨g, cap, cur, hv, hg, hh, hcap, hcur⟩
  · simp at hi
  · refine ⟨g, cap, hv, hg, (Array.getElem?_eq_some_iff.1 hh).1, ?_⟩
    rw [List.getElem?_eq_getElem hi]
    exact Hp.blk_cell hh (by rw [hcur i hi, List.getElem?_eq_getElem hi])
theorem RowV.at0 {w : World} {base k : Nat} {v : Value} {vs : List Value} (h : RowV w base v vs) (hl : vs.length = k) (h0 : 0 < k) : ∃ g cap, v = .slice (some ⟨g, 0, none⟩) k cap := by
  subst hl
  obtain ⟨g, cap, hv, _⟩ := h.at_ h0
  exact ⟨g, cap, hv⟩
/-- all that an append of the slice z asks -/
structure Av (W : World) (base g : Nat) (v : Value) (vs : List Value) (z : Value) : Prop where
  row : RowV W base v vs
  cell : W.cell? ⟨g, 0, none⟩ = some z
  base : base ≤ W.heap.size
theorem Av.mk' {w : World} {base : Nat} {v : Value} {vs : List Value} (R : RowV w base v vs) (hb : base ≤ w.heap.size) (z : Value) : Av (w.alloc (.cells #[z] 32)) base w.heap.size v vs z :=
  ⟨R.alloc _, Hp.blk_cell (Hp.blk_new _ _) rfl, by simp; omega⟩
/-- out = append(out, z) -/
theorem append_row {w : World} {ops : Array Oper} {rest : List Oper} {o : Oper} {a : Act} {Q : Exit → Act → World → Prop} {base : Nat} {v : Value} {vs : List Value} {za : Option Addr} {zl zc : Nat} (hgd : o.guard = none) (s x : Operand)
    (ho : o.op = .call { callee := .builtin .append, args := #[s, x], argTypes := #[25, 25] }) (hs : a.eval s = v) (own : RowV w base v vs) (ad : Addr) (hx : a.eval x = .slice (some ad) 1 1) (hc : w.cell? ad = some (.slice za zl zc))
    (small : vs.length ≤ 1000000) (hb : base ≤ w.heap.size) (h : ∀ v' w', RowV w' base v' (vs ++ [.slice za zl zc]) → w.grownBy w' v.ownBlock → wpList Try.prog ops Q rest (a.put o.dst v') w') : wpList Try.prog ops Q (o :: rest) a w := by
  obtain ⟨i0, hi, hz0, hz1, hz2⟩ := info_parts Orw.ints_info
  refine wpList_append_own w hgd s x 25 ho base 32 i0 (.slice none 0 0) 1 24 Try.underlying25 hi hz0 hz1 hz2 rfl (by decide) v vs.length _ hs own.own ad 1 1 [.slice za zl zc] hx rfl ?_ ?_ ?_ ?_ hb ?_
  · intro j u hj
    match j, hj with
    | 0, hj => simp at hj; subst hj; simpa [Addr.add] using hc
  · intro u hu; simp at hu; subst hu; rfl
  · unfold maxLen; omega
  · omega
  · intro v' w' h1 h2 _
    refine h v' w' ⟨?_⟩ h2
    rw [List.length_append]; exact h1
end Go.Proofs.Ytieggiplbghecaa.Rv
