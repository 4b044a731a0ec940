/- Appending one integer to a slice of the call's own; such a slice read. -/
import Derived.Test.YtieggiplbghecaaRo
import Derived.Test.YtieggiplbghecaaOr
set_option linter.unusedVariables false
set_option linter.unusedSimpArgs false
namespace Go.Proofs.Ytieggiplbghecaa.Orw
open Go.RowKit Ls Rw
theorem is_of_row {w : World} {base : Nat} {v : Value} {f : Nat → Int} {k : Nat} (h : Row w base v ((List.range k).map f)) : ∃ a cap, v = .slice a k cap ∧ Is w a k f := by
  rcases h.form with ⟨hv, h0⟩ | ⟨g, cap, cur, hv, _, hh, _, hc⟩
  · have : k = 0 := by have := congrArg List.length h0; simpa using this
    subst this
    exact ⟨none, 0, hv, ⟨.inl rfl⟩⟩
  · have hl : ((List.range k).map f).length = k := by simp
    rw [hl] at hv hc
    refine ⟨_, cap, hv, Is.of_block hh fun i hi => ?_⟩
    rw [hc i hi]; simp [List.getD_eq_getElem?_getD, hi]
theorem range_succ (f : Nat → Int) (k : Nat) : (List.range (k + 1)).map f = (List.range k).map f ++ [f k] := by rw [List.range_succ, List.map_append]; rfl
/-- all that an append of z asks -/
structure Ap (W : World) (base g : Nat) (v : Value) (zs : List Int) (z : Int) : Prop where
  row : Row W base v zs
  cell : W.cell? ⟨g, 0, none⟩ = some (.int .i64 z)
  base : base ≤ W.heap.size
theorem Ap.mk' {w : World} {base : Nat} {v : Value} {zs : List Int} (R : Row w base v zs) (hb : base ≤ w.heap.size) (z : Int) : Ap (w.alloc (.cells #[.int .i64 z] 3)) base w.heap.size v zs z :=
  ⟨R.alloc _, Hp.blk_cell (Hp.blk_new _ _) rfl, by simp; omega⟩
theorem Ap.mkN {w : World} {base : Nat} {v : Value} {zs : List Int} (R : Row w base v zs) (hb : base ≤ w.heap.size) (z : Int) (n : Nat) : Ap ((w.alloc (.cells #[.int .i64 z] 3)).drewN n) base w.heap.size v zs z :=
  ⟨(R.alloc _).drewN, Hp.blk_cell (Hp.blk_new _ _) rfl, (Ap.mk' R hb z).base⟩
end Go.Proofs.Ytieggiplbghecaa.Orw
