/- The law SampleDistances of layer 21. -/
import Derived.Test.YtjfchcjmfogijaaQb
import Derived.Test.YtjfchcjmfogijaaSj
set_option linter.unusedVariables false
set_option linter.unusedSimpArgs false
namespace Go.Proofs.Ytjfchcjmfogijaa.FxW
open Go.RowKit
set_option maxHeartbeats 4000000 in
set_option maxRecDepth 100000 in
theorem law_SampleDistances (o d p t : Int) (w : World) :
    Calls Try.prog 4 #[.agg #[.int .i64 o, .int .i64 d, .int .i64 p, .int .i64 t]] w fun e w' => e = .returned (.bool true) ∧ Below w.heap.size w w' := by
  go_enter Try.func4, Try.ntmps4
  go_wp2_with (fail)
  have k0 := Qb.cell (w := w.alloc (.cells #[.int .i64 o, .int .i64 d, .int .i64 p, .int .i64 t] 25)) (b := w.heap.size) (o := 0) (v := .int .i64 o) (by simp) (by simp)
  have k1 := Qb.cell (w := w.alloc (.cells #[.int .i64 o, .int .i64 d, .int .i64 p, .int .i64 t] 25)) (b := w.heap.size) (o := 1) (v := .int .i64 d) (by simp) (by simp)
  have k2 := Qb.cell (w := w.alloc (.cells #[.int .i64 o, .int .i64 d, .int .i64 p, .int .i64 t] 25)) (b := w.heap.size) (o := 2) (v := .int .i64 p) (by simp) (by simp)
  have k3 := Qb.cell (w := w.alloc (.cells #[.int .i64 o, .int .i64 d, .int .i64 p, .int .i64 t] 25)) (b := w.heap.size) (o := 3) (v := .int .i64 t) (by simp) (by simp)
  refine Qb.region (by kernel_rfl) (by kernel_rfl) ?_
  repeat (go_big_quiet_step (first | (go_at_call 13; exact Qb.call (scheck_any _ _ _ _ _)) | (go_at_call 14; exact Qb.call (rcheck_any _ _ _ _ _)) | (go_at_call 15; exact Qb.call (sdist_any _ _ _ _ _)) | (go_at_call 16; exact Qb.call (rdist_any _ _ _ _ _)) | (go_at_call 17; exact Qb.call (sbounds_any _ _ _ _ _)) | (go_at_call 18; exact Qb.call (rbounds_any _ _ _ _ _)) | (go_at_call 12; exact Qb.call (awake21_any _))))
  refine wpQuiet_nil ?_
  rintro _ ⟨⟨w9, hb9⟩, rfl⟩
  go_wp2
  go_ret
  exact ⟨rfl, Hp.step ((Below.refl _ _).alloc (by simp) _) hb9⟩
end Go.Proofs.Ytjfchcjmfogijaa.FxW
