/- Contracts of the functions of package fixed (all but Sqrt, MulDiv and what leans on them). -/
import Derived.Test.YtbbdeagllhmdiaaRows
import Derived.Test.YtbbdeagllhmdiaaFx
import Derived.WalkKit
import Derived.ProofKit
import Derived.BigQuiet
import Derived.Deep.QuietTactic
import Derived.Lib.Hide
import Derived.Lib.Mul64
set_option linter.unusedVariables false
set_option linter.unusedSimpArgs false
namespace Go.Proofs.Ytbbdeagllhmdiaa.FxW
open Go.RowKit

theorem ret_int {k : IntKind} {a b : Int} (h : a = b) : Ending.returned (.int k a) = .returned (.int k b) := by rw [h]
theorem ret_ib {k : IntKind} {a b : Int} {c d : Bool} (h : a = b ∧ c = d) : Ending.returned (.tuple #[.int k a, .bool c]) = .returned (.tuple #[.int k b, .bool d]) := by rw [h.1, h.2]
theorem ret_uu {k : IntKind} {a b a' b' : Int} (h1 : a = a') (h2 : b = b') : Ending.returned (.tuple #[.int k a, .int k b]) = .returned (.tuple #[.int k a', .int k b']) := by rw [h1, h2]
theorem ret_bool {a b : Bool} (h : a = b) : Ending.returned (.bool a) = .returned (.bool b) := by rw [h]

theorem sg_mul (a b : Int) : Fx.sg (Fx.iabs a * Fx.iabs b) (!decide (a < 0) == decide (b < 0)) = a * b := by
  unfold Fx.sg Fx.iabs
  by_cases ha : a < 0 <;> by_cases hb : b < 0 <;> simp [ha, hb, Int.mul_neg, Int.neg_mul]
set_option maxHeartbeats 400000 in
theorem size_any (n : Int) (h1 : -9223372036854775808 ≤ n) (h2 : n ≤ 9223372036854775807) (w : World) :
    Calls Try.prog 41 #[.int .i64 n] w fun e w' => e = .returned (.int .u64 (Fx.iabs n)) ∧ w = w' := by
  by_cases h : n < 0
  · go_enter Try.func41, Try.ntmps41
    go_wp2
    go_ret
    refine ⟨ret_int ?_, rfl⟩
    unfold Fx.iabs; rw [if_pos h, IntKind.wrap_u64, IntKind.wrap_u64]; omega
  · go_enter Try.func41, Try.ntmps41
    go_wp2
    go_ret
    refine ⟨ret_int ?_, rfl⟩
    unfold Fx.iabs; rw [if_neg (by omega)]
set_option maxHeartbeats 400000 in
theorem signed_any (m : Int) (b : Bool) (h1 : 0 ≤ m) (h2 : m ≤ 18446744073709551615) (w : World) :
    Calls Try.prog 40 #[.int .u64 m, .bool b] w fun e w' => e = .returned (.tuple #[.int .i64 (Fx.fitV (Fx.sg m b)), .bool (Fx.fitOk (Fx.sg m b))]) ∧ w = w' := by
  cases b
  · by_cases h : m ≤ 9223372036854775807
    · go_enter Try.func40, Try.ntmps40
      go_wp2
      go_ret2
      exact ⟨ret_ib (Fx.fit_in (v := m) (by omega) (by omega)), rfl⟩
    · go_enter Try.func40, Try.ntmps40
      go_wp2
      go_ret2
      exact ⟨ret_ib (Fx.fit_out (v := m) (by omega)), rfl⟩
  · by_cases h : m ≤ 9223372036854775808
    · have e : wrap64 (IntKind.u64.wrap (-m)) = -m := by unfold wrap64; rw [IntKind.wrap_u64]; omega
      have E := Lib.hid e; clear e
      go_enter Try.func40, Try.ntmps40
      go_wp2
      go_ret2
      have := Fx.fit_in (v := -m) (by omega) (by omega)
      exact ⟨ret_ib ⟨E.out.trans this.1, this.2⟩, rfl⟩
    · go_enter Try.func40, Try.ntmps40
      go_wp2
      go_ret2
      exact ⟨ret_ib (Fx.fit_out (v := -m) (by omega)), rfl⟩
theorem abs_any (a : Int) (a1 : -9223372036854775808 ≤ a) (a2 : a ≤ 9223372036854775807) (w : World) :
    Calls Try.prog 29 #[.int .i64 a] w fun e w' => e = .returned (.tuple #[.int .i64 (Fx.fitV (Fx.iabs a)), .bool (Fx.fitOk (Fx.iabs a))]) ∧ w = w' := by
  have hb := Fx.iabs_bd a a1 a2
  go_enter Try.func29, Try.ntmps29
  go_wp2_with (first | (go_at_call 41; refine (size_any _ (by omega) (by omega) _).mono ?_; rintro e w' ⟨rfl, rfl⟩) | (go_at_call 40; refine (signed_any _ _ (by omega) (by omega) _).mono ?_; rintro e w' ⟨rfl, rfl⟩))
  go_ret2
  exact ⟨ret_ib ⟨rfl, rfl⟩, rfl⟩
end Go.Proofs.Ytbbdeagllhmdiaa.FxW
