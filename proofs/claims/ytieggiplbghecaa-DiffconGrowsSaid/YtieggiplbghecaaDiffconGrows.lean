/-
  Add of the bounds and a constraint are the bounds with this constraint in addition, or both return ErrCycle, and Add leaves its matrix alone.
  Conditions: none beyond the given statement. The frame is after the kit's proof skeleton; the walk is in the imported texts.
-/
import Derived.Test.YtieggiplbghecaaRows
import Derived.Test.YtieggiplbghecaaIn
import Derived.Test.YtieggiplbghecaaBac
import Derived.WalkKit
import Derived.ProofKit
import Derived.OpenShut
import Derived.SizedLaws
set_option linter.unusedVariables false
set_option linter.unusedSimpArgs false
namespace Go.Proofs.Ytieggiplbghecaa.diffconGrows
open Go.ChangeShapes Go.WideShapes Go.ChangeAt Go.RowKit

theorem own : ownKnob Try.prog.godebug = none := by kernel_rfl
theorem laidOut : laidOutB Try.prog = true := by kernel_rfl
set_option maxRecDepth 100000 in
theorem lifted (os : Os) (started : os.Started) (H : Type) (enc : TypeId × Value → H) :
    ReturnsInHanded {} Try.checked os 10 .any (Rows.diffconGrowsSpec.pre6 enc Try.prog Try.f10 Rows.diffconGrowsRow.domain false) (Rows.diffconGrowsSpec.post enc Try.prog Try.f10 false true false false) := by
  refine returnsInHanded_of_change_sized (C := Try.checked) own started (by kernel_rfl) Try.func10
    (ChangeSpec.witness6 (enc := enc) (C := Try.checked) false ⟨#[], #[.int .i64 0, .slice none 0 0, .agg #[.int .i64 0, .int .i64 0, .int .i64 0]], []⟩ 8 (by kernel_rfl) (by kernel_rfl) (by kernel_rfl) (by kernel_rfl)) ?_
  intro W base args ds gs before hval0 hW hcnd hsz _
  have hval : ∀ (j : Nat) t v, Try.f10.params[j]? = some t → args[j]? = some v → Value.okWide Try.prog W .any base t v := hval0
  have hW' := hW
  obtain ⟨p, q, hA0, hV, rfl, hfz, hnd⟩ := hW
  have hA : DataW.TrodAll enc Try.prog W 0 (fun _ => true) true Try.f10.params.toList args.toList ds p := hA0
  rw [Try.params10] at hA hval
  obtain ⟨v0, vs0, d0, ds0, p0, q0, hargs, rfl, rfl, h0, r0⟩ := trodAll_cons hA
  obtain ⟨v1, vs1, d1, ds1, p1, q1, rfl, rfl, rfl, h1, r1⟩ := trodAll_cons r0
  obtain ⟨v2, vs2, d2, ds2, p2, q2, rfl, rfl, rfl, h2, r2⟩ := trodAll_cons r1
  obtain ⟨rfl, rfl, rfl⟩ := trodAll_nil r2
  obtain rfl : args = #[v0, v1, v2] := by cases args; simp_all
  obtain ⟨rfl, rfl⟩ := trodVars_none hV
  have k0 := h0
  have lt0 : ∀ x ∈ p0, x.block < W.heap.size := by obtain ⟨m, hm⟩ := k0; exact DataW.trod_lt m _ _ _ hm
  have k1 := h1
  have lt1 : ∀ x ∈ p1, x.block < W.heap.size := by obtain ⟨m, hm⟩ := k1; exact DataW.trod_lt m _ _ _ hm
  have k2 := h2
  have lt2 : ∀ x ∈ p2, x.block < W.heap.size := by obtain ⟨m, hm⟩ := k2; exact DataW.trod_lt m _ _ _ hm
  obtain ⟨a0, rfl, e0, f0, w0⟩ := open_int Try.underlying3 (hval 0 3 v0 rfl rfl) h0
  obtain ⟨sa1, sl1, sc1, rfl⟩ := okWide_slice Try.underlying22 (hval 1 22 v1 rfl rfl)
  obtain ⟨z1, s1⟩ := In.isStructs_of (ks := [.i64, .i64, .i64]) Try.underlying22 Try.underlying40 (by kernel_rfl) (by kernel_rfl) (In.intFields_of (by kernel_rfl)) h1
  obtain ⟨zs2, zl2, ev2, zw2⟩ := In.open_ints_agg (ks := [.i64, .i64, .i64]) Try.underlying40 (by kernel_rfl) (by kernel_rfl) (In.intFields_of (by kernel_rfl)) (hval 2 40 v2 rfl rfl) h2
  obtain ⟨a2_0, a2_1, a2_2, rfl⟩ : ∃ a2_0 a2_1 a2_2, zs2 = [a2_0, a2_1, a2_2] := by
    match zs2, zl2 with | [a2_0, a2_1, a2_2], _ => exact ⟨a2_0, a2_1, a2_2, rfl⟩
  subst ev2
  have w2_0 : (Lit.int .i64 a2_0).wf = true := zw2 0 _ _ rfl rfl
  have w2_1 : (Lit.int .i64 a2_1).wf = true := zw2 1 _ _ rfl rfl
  have w2_2 : (Lit.int .i64 a2_2).wf = true := zw2 2 _ _ rfl rfl
  have hz1 : sl1 * 24 ≤ 140737488351232 := by
    rcases In.slice_data Try.underlying22 h1 with ⟨q1, q2⟩ | ⟨xs, ys, q1, q2, q3⟩
    · omega
    · subst q1
      have q4 := sized_slice hsz (j := 1) (t := 22) rfl rfl Try.underlying22
      rw [show Try.checked.prog.bytesOf 40 = 24 by kernel_rfl] at q4
      simp only [reachBytes] at q4
      omega
  refine (BxW.law_DiffconGrows a0 sa1 sl1 sc1 z1 a2_0 a2_1 a2_2 W s1 hz1).mono fun e W' h => ?_
  obtain ⟨he, bel⟩ := h
  subst he
  exact ⟨_, rfl, _, _, _, [], _, [], hW', trodAll_mk1 (shut_bool Try.underlying4 _), (trodAll_cons_mk (Below.trod laidOut (by kernel_rfl) (of_decide_eq_true (by kernel_rfl)) k0 bel lt0) (trodAll_cons_mk (Below.trod laidOut (by kernel_rfl) (of_decide_eq_true (by kernel_rfl)) k1 bel lt1) (trodAll_cons_mk (Below.trod laidOut (by kernel_rfl) (of_decide_eq_true (by kernel_rfl)) k2 bel lt2) trodAll_mk0))), rfl, bel.frame _, fun h => by cases h⟩

theorem over : Rows.diffconGrowsRow.holds Try.pinned (OpenSpec.ofChange Rows.diffconGrowsSpec) :=
  OpenClaim.holds_of_wide 10 Try.f10 rfl rfl rfl rfl rfl rfl rfl ⟨rfl, rfl, rfl, rfl, rfl⟩ rfl rfl rfl rfl rfl (by kernel_rfl) Try.func10 (by kernel_rfl)
    (of_decide_eq_true (by kernel_rfl)) (by unfold Func.isWrapper; first | (rw [if_pos (by decide +kernel)]; kernel_rfl) | (rw [if_neg (by decide +kernel)]; exact ⟨rfl, rfl⟩))
    (fun os started H enc _ => lifted os started H enc)

theorem proved : Rows.DiffconGrowsSaid := over
#print axioms proved
end Go.Proofs.Ytieggiplbghecaa.diffconGrows
