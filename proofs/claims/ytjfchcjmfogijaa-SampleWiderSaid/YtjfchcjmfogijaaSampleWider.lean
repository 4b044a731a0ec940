/-
  Grow keeps Offset and Delay, never makes the Bounds narrower, changes nothing without time, and growing twice differs from growing once by at most 1.
  Conditions: none beyond the given statement. The frame is after the kit's proof skeleton; the walk is in the imported texts.
-/
import Derived.Test.YtjfchcjmfogijaaRows
import Derived.Test.YtjfchcjmfogijaaIn
import Derived.Test.YtjfchcjmfogijaaSno
import Derived.WalkKit
import Derived.ProofKit
import Derived.OpenShut
set_option linter.unusedVariables false
set_option linter.unusedSimpArgs false
namespace Go.Proofs.Ytjfchcjmfogijaa.sampleWider
open Go.ChangeShapes Go.WideShapes Go.ChangeAt Go.RowKit

theorem own : ownKnob Try.prog.godebug = none := by kernel_rfl
theorem laidOut : laidOutB Try.prog = true := by kernel_rfl
set_option maxRecDepth 100000 in
theorem lifted (os : Os) (started : os.Started) (H : Type) (enc : TypeId × Value → H) :
    ReturnsInHanded {} Try.checked os 9 .any (Rows.sampleWiderSpec.pre6 enc Try.prog Try.f9 Rows.sampleWiderRow.domain false) (Rows.sampleWiderSpec.post enc Try.prog Try.f9 false true false false) := by
  refine returnsInHanded_of_change (C := Try.checked) own started (by kernel_rfl) Try.func9
    (ChangeSpec.witness6 (enc := enc) (C := Try.checked) false ⟨#[], #[.agg #[.int .u32 0, .int .u32 0, .int .u32 0, .int .i32 0, .int .i32 0, .int .i32 0], .int .u32 0, .int .u32 0, .int .u32 0], []⟩ 8 (by kernel_rfl) (by kernel_rfl) (by kernel_rfl) (by kernel_rfl)) ?_
  intro W base args ds gs before hval0 hW hcnd _
  have hval : ∀ (j : Nat) t v, Try.f9.params[j]? = some t → args[j]? = some v → Value.okWide Try.prog W .any base t v := hval0
  have hW' := hW
  obtain ⟨p, q, hA0, hV, rfl, hfz, hnd⟩ := hW
  have hA : DataW.TrodAll enc Try.prog W 0 (fun _ => true) true Try.f9.params.toList args.toList ds p := hA0
  rw [Try.params9] at hA hval
  obtain ⟨v0, vs0, d0, ds0, p0, q0, hargs, rfl, rfl, h0, r0⟩ := trodAll_cons hA
  obtain ⟨v1, vs1, d1, ds1, p1, q1, rfl, rfl, rfl, h1, r1⟩ := trodAll_cons r0
  obtain ⟨v2, vs2, d2, ds2, p2, q2, rfl, rfl, rfl, h2, r2⟩ := trodAll_cons r1
  obtain ⟨v3, vs3, d3, ds3, p3, q3, rfl, rfl, rfl, h3, r3⟩ := trodAll_cons r2
  obtain ⟨rfl, rfl, rfl⟩ := trodAll_nil r3
  obtain rfl : args = #[v0, v1, v2, v3] := by cases args; simp_all
  obtain ⟨rfl, rfl⟩ := trodVars_none hV
  have k0 := h0
  have lt0 : ∀ x ∈ p0, x.block < W.heap.size := by obtain ⟨m, hm⟩ := k0; exact DataW.trod_lt m _ _ _ hm
  have k1 := h1
  have lt1 : ∀ x ∈ p1, x.block < W.heap.size := by obtain ⟨m, hm⟩ := k1; exact DataW.trod_lt m _ _ _ hm
  have k2 := h2
  have lt2 : ∀ x ∈ p2, x.block < W.heap.size := by obtain ⟨m, hm⟩ := k2; exact DataW.trod_lt m _ _ _ hm
  have k3 := h3
  have lt3 : ∀ x ∈ p3, x.block < W.heap.size := by obtain ⟨m, hm⟩ := k3; exact DataW.trod_lt m _ _ _ hm
  obtain ⟨zs0, zl0, ev0, zw0⟩ := In.open_ints_agg (ks := [.u32, .u32, .u32, .i32, .i32, .i32]) Try.underlying39 (by kernel_rfl) (by kernel_rfl) (In.intFields_of (by kernel_rfl)) (hval 0 39 v0 rfl rfl) h0
  obtain ⟨a0_0, a0_1, a0_2, a0_3, a0_4, a0_5, rfl⟩ : ∃ a0_0 a0_1 a0_2 a0_3 a0_4 a0_5, zs0 = [a0_0, a0_1, a0_2, a0_3, a0_4, a0_5] := by
    match zs0, zl0 with | [a0_0, a0_1, a0_2, a0_3, a0_4, a0_5], _ => exact ⟨a0_0, a0_1, a0_2, a0_3, a0_4, a0_5, rfl⟩
  subst ev0
  have w0_0 : (Lit.int .u32 a0_0).wf = true := zw0 0 _ _ rfl rfl
  have w0_1 : (Lit.int .u32 a0_1).wf = true := zw0 1 _ _ rfl rfl
  have w0_2 : (Lit.int .u32 a0_2).wf = true := zw0 2 _ _ rfl rfl
  have w0_3 : (Lit.int .i32 a0_3).wf = true := zw0 3 _ _ rfl rfl
  have w0_4 : (Lit.int .i32 a0_4).wf = true := zw0 4 _ _ rfl rfl
  have w0_5 : (Lit.int .i32 a0_5).wf = true := zw0 5 _ _ rfl rfl
  obtain ⟨a1, rfl, e1, f1, w1⟩ := open_int Try.underlying37 (hval 1 37 v1 rfl rfl) h1
  obtain ⟨a2, rfl, e2, f2, w2⟩ := open_int Try.underlying37 (hval 2 37 v2 rfl rfl) h2
  obtain ⟨a3, rfl, e3, f3, w3⟩ := open_int Try.underlying37 (hval 3 37 v3 rfl rfl) h3
  refine (FxW.law_SampleWider a0_0 a0_1 a0_2 a0_3 a0_4 a0_5 a1 a2 a3 (Hp.u32_bd w0_0).1 (Hp.u32_bd w0_0).2 (Hp.u32_bd w0_1).1 (Hp.u32_bd w0_1).2 (Hp.u32_bd w0_2).1 (Hp.u32_bd w0_2).2 (Hp.i32_bd w0_4).1 (Hp.i32_bd w0_4).2 (Hp.i32_bd w0_5).1 (Hp.i32_bd w0_5).2 (Hp.u32_bd w1).1 (Hp.u32_bd w1).2 (Hp.u32_bd w2).1 (Hp.u32_bd w2).2 (Hp.u32_bd w3).1 (Hp.u32_bd w3).2 W).mono fun e W' h => ?_
  obtain ⟨he, bel⟩ := h
  subst he
  exact ⟨_, rfl, _, _, _, [], _, [], hW', trodAll_mk1 (shut_bool Try.underlying4 _), (trodAll_cons_mk (Below.trod laidOut (by kernel_rfl) (of_decide_eq_true (by kernel_rfl)) k0 bel lt0) (trodAll_cons_mk (Below.trod laidOut (by kernel_rfl) (of_decide_eq_true (by kernel_rfl)) k1 bel lt1) (trodAll_cons_mk (Below.trod laidOut (by kernel_rfl) (of_decide_eq_true (by kernel_rfl)) k2 bel lt2) (trodAll_cons_mk (Below.trod laidOut (by kernel_rfl) (of_decide_eq_true (by kernel_rfl)) k3 bel lt3) trodAll_mk0)))), rfl, bel.frame _, fun h => by cases h⟩

theorem over : Rows.sampleWiderRow.holds Try.pinned (OpenSpec.ofChange Rows.sampleWiderSpec) :=
  OpenClaim.holds_of_wide 9 Try.f9 rfl rfl rfl rfl rfl rfl rfl ⟨rfl, rfl, rfl, rfl, rfl⟩ rfl rfl rfl rfl rfl (by kernel_rfl) Try.func9 (by kernel_rfl)
    (of_decide_eq_true (by kernel_rfl)) (by unfold Func.isWrapper; first | (rw [if_pos (by decide +kernel)]; kernel_rfl) | (rw [if_neg (by decide +kernel)]; exact ⟨rfl, rfl⟩))
    (fun os started H enc _ => lifted os started H enc)

theorem proved : Rows.SampleWiderSaid := over
#print axioms proved
end Go.Proofs.Ytjfchcjmfogijaa.sampleWider
