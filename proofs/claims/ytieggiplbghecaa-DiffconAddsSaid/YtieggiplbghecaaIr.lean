/- Arguments that are slices of slices of integers, opened to their numbers. -/
import Derived.Test.YtieggiplbghecaaIn
import Derived.Deep.Matrix
set_option linter.unusedVariables false
set_option linter.unusedSimpArgs false
namespace Go.Proofs.Ytieggiplbghecaa.In
open Go.ChangeShapes Go.WideShapes Go.ChangeAt Go.RowKit Go.Joins Go.Deep
section
variable {H : Type} {enc : TypeId × Value → H} {P : Program} {w : World}
/-- a slice of n rows that came in: row i has L i numbers f i j -/
def IsRows (k : IntKind) (w : World) (a : Option Addr) (n : Nat) (L : Nat → Nat) (f : Nat → Nat → Int) : Prop :=
  n = 0 ∨ ∃ (b o : Nat) (A : Nat → Option Addr) (C : Nat → Nat), a = some ⟨b, o, none⟩ ∧ b < w.heap.size ∧ ∀ i, i < n → w.cell? ⟨b, o + i, none⟩ = some (.slice (A i) (L i) (C i)) ∧
    (L i = 0 ∨ ∃ b' o', A i = some ⟨b', o', none⟩ ∧ b' < w.heap.size ∧ ∀ j, j < L i → w.cell? ⟨b', o' + j, none⟩ = some (.int k (f i j)))
theorem isRows_of {t e q : TypeId} {k : IntKind} {a : Option Addr} {len cap : Nat} {d : DataW H} {p : List MemPlace} (ht : P.underlying t = some (.slice e)) (he : P.underlying e = some (.slice q)) (hq : P.underlying q = some (.int k))
    (ce : P.cellsOf e = 1) (cq : P.cellsOf q = 1) (h : DataW.Trod enc P w 0 (fun _ => true) true t (.slice a len cap) d p) : ∃ L f, IsRows k w a len L f := by
  obtain ⟨fuel, hf⟩ := h
  rcases open_int_rows ht he hq ce cq hf with ⟨hcs, _⟩ | ⟨x, l, c, A, L, C, Z, hcs, _, hl, hm, _, hc⟩
  · simp [Value.cells] at hcs
    obtain ⟨rfl, rfl, rfl⟩ := hcs
    exact ⟨fun _ => 0, fun _ _ => 0, .inl rfl⟩
  · simp [Value.cells] at hcs
    obtain ⟨rfl, rfl, rfl⟩ := hcs
    refine ⟨L, fun i j => (Z i).getD j 0, ?_⟩
    by_cases hn : len = 0
    · exact .inl hn
    obtain ⟨b, o, rfl, hb, ha⟩ := addr_of (x := x) (n := len) (by omega) (fun i hi => ⟨_, (hc i (by omega)).1⟩)
    refine .inr ⟨b, o, A, C, rfl, hb, fun i hi => ?_⟩
    obtain ⟨c1, c2, c3, c4, c5, c6, c7⟩ := hc i (by omega)
    refine ⟨by rw [← ha]; exact c1, ?_⟩
    by_cases h0 : L i = 0
    · exact .inl h0
    right
    cases hA : A i with
    | none => have := c6 hA; omega
    | some x' =>
      obtain ⟨_, c8⟩ := c7 x' hA
      obtain ⟨b', o', rfl, hb', ha'⟩ := addr_of (x := x') (n := L i) (by omega) (fun j hj => ⟨_, c8 j (by omega)⟩)
      exact ⟨b', o', rfl, hb', fun j hj => by rw [← ha']; exact c8 j (by omega)⟩
end
end Go.Proofs.Ytieggiplbghecaa.In
