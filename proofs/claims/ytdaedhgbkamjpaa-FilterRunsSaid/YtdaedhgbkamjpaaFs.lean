/- The contract of fixed.Sqrt. -/
import Derived.Test.YtdaedhgbkamjpaaFw
import Derived.LoopTactic
set_option linter.unusedVariables false
set_option linter.unusedSimpArgs false
namespace Go.Proofs.Ytdaedhgbkamjpaa.FxW
open Go.RowKit

theorem swrap {a : Nat} (h : a < 18446744073709551616) : IntKind.u64.wrap (a : Int) = (a : Int) := by rw [IntKind.wrap_u64]; omega
set_option maxHeartbeats 1000000 in
theorem sqrt_neg (n : Int) (h : n < 0) (w : World) :
    Calls Try.prog 36 #[.int .i64 n] w fun e w' => e = .returned (.tuple #[.int .i64 0, .bool false]) ∧ w = w' := by
  go_enter Try.func36, Try.ntmps36
  go_wp2
  go_ret2
  exact ⟨rfl, rfl⟩
set_option maxHeartbeats 1000000 in
theorem sqrt_any (n : Nat) (h : n ≤ 9223372036854775807) (w : World) :
    Calls Try.prog 36 #[.int .i64 n] w fun e w' => e = .returned (.tuple #[.int .i64 (Fx.isq n), .bool true]) ∧ w = w' := by
  have R0 := Fx.root_start (n := n) (by omega)
  have h' : (n : Int) ≤ 9223372036854775807 := by omega
  have hn : decide ((n : Int) < 0) = false := by simp
  have H0 := Lib.hid R0
  clear h R0
  go_enter Try.func36, Try.ntmps36
  go_wp2_with (fail)
  go_loop [4, 9] (fun a b => ∃ root i : Nat, a = .int .u64 (root : Int) ∧ b = .int .i64 (i : Int) ∧ i ≤ 32 ∧ Fx.RootAt n root (32 - i)) (fun _ b => 32 - (intOf b).toNat)
  case atStart => exact ⟨0, 0, rfl, rfl, by omega, H0.out⟩
  case round =>
    obtain ⟨root, i, rfl, rfl, hi, R⟩ := hrel
    have H := Lib.hid R
    clear R H0
    by_cases hlt : i < 32
    · obtain ⟨k, hk⟩ : ∃ k, 31 - i = k := ⟨_, rfl⟩
      have hk' : 32 - i = k + 1 := by omega
      have S := H.out
      rw [hk'] at S
      obtain ⟨s1, s2, s3, s4, s5⟩ := Fx.root_step S
      have hp : 2 ^ k < 4294967296 := by omega
      have e0 : (31 - (i : Int)) = (k : Int) := by omega
      have e1 : bits .or .u64 (root : Int) (IntKind.u64.wrap ((2 : Int) ^ k)) = ((root + 2 ^ k : Nat) : Int) := by
        have r1 : root < 18446744073709551616 := Nat.lt_of_le_of_lt (Nat.le_add_right _ _) (Nat.lt_trans s2 (by omega))
        have r2 : 2 ^ k < 18446744073709551616 := Nat.lt_trans hp (by omega)
        have r3 : IntKind.u64.wrap ((2 ^ k : Nat) : Int) = ((2 ^ k : Nat) : Int) := swrap r2
        rw [show ((2 : Int) ^ k) = ((2 ^ k : Nat) : Int) from by simp, r3, bits_or_u64_nat _ _ r1 r2, s1]
      have e3 : IntKind.u64.wrap (((root + 2 ^ k : Nat) : Int) * ((root + 2 ^ k : Nat) : Int)) = (((root + 2 ^ k) * (root + 2 ^ k) : Nat) : Int) := by
        rw [← Int.natCast_mul, IntKind.wrap_u64]; omega
      clear S s1 s2 s3 hp
      generalize root + 2 ^ k = m at *
      have S4 := Lib.hid s4
      have S5 := Lib.hid s5
      have hk2 := Lib.hid (show 32 - (i + 1) = k by omega)
      clear s4 s5 hk hk'
      generalize m * m = t at *
      by_cases c : (t : Int) ≤ (n : Int)
      · have X := Lib.hid (S4.out (by omega))
        go_wp2_with (fail)
        go_round
        case rel => exact ⟨m, i + 1, rfl, by go_num, by omega, by rw [hk2.out]; exact X.out⟩
        case measure => simp [intOf]; omega
      · have X := Lib.hid (S5.out (by omega))
        go_wp2_with (fail)
        go_round
        case rel => exact ⟨root, i + 1, rfl, by go_num, by omega, by rw [hk2.out]; exact X.out⟩
        case measure => simp [intOf]; omega
    · obtain rfl : i = 32 := by omega
      have F := Lib.hid (Fx.root_end (n := n) (root := root) H.out)
      have b : (root : Int) < 4294967296 := by have := H.out.lt; have := Nat.two_pow_pos (32 - 32); omega
      clear H hi hlt
      go_wp2_with (fail)
      go_ret2
      exact ⟨ret_ib ⟨F.out.symm, rfl⟩, rfl⟩
theorem sqrt_int (n : Int) (h0 : 0 ≤ n) (h : n ≤ 9223372036854775807) (w : World) :
    Calls Try.prog 36 #[.int .i64 n] w fun e w' => e = .returned (.tuple #[.int .i64 (Fx.isq n), .bool true]) ∧ w = w' := by
  obtain ⟨m, rfl⟩ := Int.eq_ofNat_of_zero_le h0
  exact sqrt_any m (by omega) w
end Go.Proofs.Ytdaedhgbkamjpaa.FxW
