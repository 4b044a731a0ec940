/- An argument that is a struct of an int and a slice of structs of integers, opened. -/
import Derived.Test.YtpkbhhconiklbaaIn
set_option linter.unusedVariables false
set_option linter.unusedSimpArgs false
namespace Go.Proofs.Ytpkbhhconiklbaa.In
open Go.ChangeShapes Go.WideShapes Go.ChangeAt Go.RowKit Go.Joins Go.Deep
section
variable {H : Type} {enc : TypeId × Value → H} {P : Program} {w : World}
theorem open_int_slice {r : Reach} {b0 : Nat} {t e : TypeId} {fs : Array Field} {f0 f1 : Field} {k : IntKind} {v : Value} {d : DataW H} {p : List MemPlace} (hs : P.underlying t = some (.struct fs)) (h2 : fs = #[f0, f1]) (hone : oneCellFields P fs = true) (hC : P.cellsOf t = fs.size)
    (u0 : P.underlying f0.type = some (.int k)) (u1 : P.underlying f1.type = some (.slice e))
    (hv : Value.okWide P w r b0 t v) (h : DataW.Trod enc P w 0 (fun _ => true) true t v d p) :
    ∃ (x : Int) (a : Option Addr) (len cap : Nat) (d1 : DataW H) (p1 : List MemPlace), v = .agg #[.int k x, .slice a len cap] ∧ (Lit.int k x).wf = true ∧ DataW.Trod enc P w 0 (fun _ => true) true f1.type (.slice a len cap) d1 p1 := by
  obtain ⟨cs, rfl, hsz⟩ := okWide_struct hs hv
  obtain ⟨l⟩ := cs
  have hl : l.length = 2 := by rw [h2] at hC; simpa [hC] using hsz
  match l, hl with
  | [v0, v1], _ =>
    obtain ⟨fuel, hf⟩ := h
    obtain ⟨xs, n, _, hx, _, hlen, hg⟩ := DataW.trod_struct hs hf
    have e0 : fs[0]? = some f0 := by rw [h2]; rfl
    have e1 : fs[1]? = some f1 := by rw [h2]; rfl
    obtain ⟨o0, k0⟩ := hone_of hone 0 f0 e0
    obtain ⟨o1, k1⟩ := hone_of hone 1 f1 e1
    have hl2 : xs.length = 2 := by rw [hlen, h2]; rfl
    have g0 := hg 0 f0 e0
    have g1 := hg 1 f1 e1
    rw [o0, k0] at g0; rw [o1, k1] at g1
    match xs, hl2 with
    | [x0, x1], _ =>
      simp [Value.cells] at g0 g1
      obtain ⟨z, hz, _, wz⟩ := DataW.trod_int u0 g0
      have hz' : v0 = .int k z := by simpa using hz
      rcases open_slice u1 g1 with ⟨hcs, hy⟩ | ⟨a, len, cap, m, n', D, Pl, hcs, _, _, _, _, hy, _⟩
      · have hc' : v1 = .slice none 0 0 := by simpa using hcs
        subst hz'; subst hc'
        exact ⟨z, none, 0, 0, x1.1, x1.2, rfl, wz, ⟨n, by simpa [Value.cells] using g1⟩⟩
      · have hc' : v1 = .slice (some a) len cap := by simpa using hcs
        subst hz'; subst hc'
        exact ⟨z, some a, len, cap, x1.1, x1.2, rfl, wz, ⟨n, by simpa [Value.cells] using g1⟩⟩
end
end Go.Proofs.Ytpkbhhconiklbaa.In
