/- An argument that is a slice of structs of an int, a struct of four ints, and an int, opened. -/
import Derived.Test.YtdaedhgbkamjpaaIn
set_option linter.unusedVariables false
set_option linter.unusedSimpArgs false
namespace Go.Proofs.Ytdaedhgbkamjpaa.In
open Go.ChangeShapes Go.WideShapes Go.ChangeAt Go.RowKit Go.Joins Go.Deep
section
variable {H : Type} {enc : TypeId × Value → H} {P : Program} {w : World} {base : Nat} {spare : Nat → Bool} {held : Bool}
theorem nested_cells {e : TypeId} {fs gs : Array Field} {f0 f1 f2 : Field} {n : Nat} {l : List Value} {y : DataW H × List MemPlace} (hs : P.underlying e = some (.struct fs)) (h2 : fs = #[f0, f1, f2])
    (c0 : f0.offset = 0 ∧ P.cellsOf f0.type = 1) (c1 : f1.offset = 1 ∧ P.cellsOf f1.type = 4) (c2 : f2.offset = 5 ∧ P.cellsOf f2.type = 1)
    (u0 : P.underlying f0.type = some (.int .i64)) (u1 : P.underlying f1.type = some (.struct gs)) (u2 : P.underlying f2.type = some (.int .i64)) (hone : oneCellFields P gs = true) (hgs : gs.size = 4) (hk : IntFields P gs [.i64, .i64, .i64, .i64]) (hl : l.length = 6)
    (hf : DataW.trod enc P w base spare held n e l = some y) : ∀ (j : Nat) (k : IntKind), ([.i64, .i64, .i64, .i64, .i64, .i64] : List IntKind)[j]? = some k → ∃ z, l[j]? = some (Value.int k z) ∧ (Lit.int k z).wf = true := by
  obtain ⟨xs, n', _, hx, _, hlen, hg⟩ := DataW.trod_struct hs hf
  have g0 := hg 0 f0 (by rw [h2]; rfl)
  have g1 := hg 1 f1 (by rw [h2]; rfl)
  have g2 := hg 2 f2 (by rw [h2]; rfl)
  have hl3 : xs.length = 3 := by rw [hlen, h2]; rfl
  rw [c0.1, c0.2] at g0; rw [c1.1, c1.2] at g1; rw [c2.1, c2.2] at g2
  match l, hl, xs, hl3 with
  | [v0, v1, v2, v3, v4, v5], _, [x0, x1, x2], _ =>
    simp at g0 g1 g2
    obtain ⟨z0, e0, _, w0⟩ := DataW.trod_int u0 g0
    obtain ⟨z5, e5, _, w5⟩ := DataW.trod_int u2 g2
    have g := ints_cells u1 hone hk (by rw [hgs]; rfl) g1
    obtain ⟨z1, e1, w1⟩ := g 0 .i64 rfl
    obtain ⟨z2, e2, w2⟩ := g 1 .i64 rfl
    obtain ⟨z3, e3, w3⟩ := g 2 .i64 rfl
    obtain ⟨z4, e4, w4⟩ := g 3 .i64 rfl
    simp at e0 e5 e1 e2 e3 e4
    subst e0; subst e5; subst e1; subst e2; subst e3; subst e4
    intro j k hj
    match j, hj with
    | 0, hj => simp at hj; subst hj; exact ⟨z0, rfl, w0⟩
    | 1, hj => simp at hj; subst hj; exact ⟨z1, rfl, w1⟩
    | 2, hj => simp at hj; subst hj; exact ⟨z2, rfl, w2⟩
    | 3, hj => simp at hj; subst hj; exact ⟨z3, rfl, w3⟩
    | 4, hj => simp at hj; subst hj; exact ⟨z4, rfl, w4⟩
    | 5, hj => simp at hj; subst hj; exact ⟨z5, rfl, w5⟩
theorem isNested_of {t e : TypeId} {fs gs : Array Field} {f0 f1 f2 : Field} {a : Option Addr} {len cap : Nat} {d : DataW H} {p : List MemPlace} (ht : P.underlying t = some (.slice e)) (hs : P.underlying e = some (.struct fs)) (h2 : fs = #[f0, f1, f2])
    (c0 : f0.offset = 0 ∧ P.cellsOf f0.type = 1) (c1 : f1.offset = 1 ∧ P.cellsOf f1.type = 4) (c2 : f2.offset = 5 ∧ P.cellsOf f2.type = 1) (hC : P.cellsOf e = 6)
    (u0 : P.underlying f0.type = some (.int .i64)) (u1 : P.underlying f1.type = some (.struct gs)) (u2 : P.underlying f2.type = some (.int .i64)) (hone : oneCellFields P gs = true) (hgs : gs.size = 4) (hk : IntFields P gs [.i64, .i64, .i64, .i64])
    (h : DataW.Trod enc P w 0 (fun _ => true) true t (.slice a len cap) d p) : ∃ z, IsStructs [.i64, .i64, .i64, .i64, .i64, .i64] w a len cap z := by
  obtain ⟨fuel, hf⟩ := h
  rcases open_slice ht hf with ⟨hcs, _⟩ | ⟨x, l, c, m, n, D, Pl, hcs, _, hl, hm, hmm, _, hi⟩
  · simp [Value.cells] at hcs
    obtain ⟨rfl, rfl, rfl⟩ := hcs
    exact ⟨fun _ _ => 0, .inl ⟨rfl, rfl, rfl⟩⟩
  · simp [Value.cells] at hcs
    obtain ⟨rfl, rfl, rfl⟩ := hcs
    simp at hmm
    subst hmm
    refine ⟨fun i j => match w.cell? (x.add (i * 6 + j)) with | some (.int _ z) => z | _ => 0, .inr ⟨_, rfl, hl, hm, fun i hic j k hkj => ?_⟩⟩
    obtain ⟨cs', hc, ht'⟩ := hi i hic
    obtain ⟨_, hcl, hat⟩ := World.cells?_some hc
    obtain ⟨z, hz, wz⟩ := nested_cells hs h2 c0 c1 c2 u0 u1 u2 hone hgs hk (hcl.trans hC) ht' j k hkj
    have hj : j < 6 := (List.getElem?_eq_some_iff.1 hkj).1
    have e1 := hat j (by rw [hC]; exact hj)
    rw [add_add, hC, hz] at e1
    show w.cell? (x.add (i * 6 + j)) = _ ∧ _
    simp only [e1]
    exact ⟨trivial, wz⟩
end
end Go.Proofs.Ytdaedhgbkamjpaa.In
