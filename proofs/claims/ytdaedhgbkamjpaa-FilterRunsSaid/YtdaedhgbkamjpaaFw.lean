/- Contracts of the functions of package fixed (all but Sqrt, MulDiv and what leans on them). -/
import Derived.Test.YtdaedhgbkamjpaaRows
import Derived.Test.YtdaedhgbkamjpaaFx
import Derived.WalkKit
import Derived.ProofKit
import Derived.BigQuiet
import Derived.Deep.QuietTactic
import Derived.Lib.Hide
import Derived.Lib.Mul64
set_option linter.unusedVariables false
set_option linter.unusedSimpArgs false
namespace Go.Proofs.Ytdaedhgbkamjpaa.FxW
open Go.RowKit

theorem ret_int {k : IntKind} {a b : Int} (h : a = b) : Ending.returned (.int k a) = .returned (.int k b) := by rw [h]
theorem ret_ib {k : IntKind} {a b : Int} {c d : Bool} (h : a = b ∧ c = d) : Ending.returned (.tuple #[.int k a, .bool c]) = .returned (.tuple #[.int k b, .bool d]) := by rw [h.1, h.2]
theorem ret_uu {k : IntKind} {a b a' b' : Int} (h1 : a = a') (h2 : b = b') : Ending.returned (.tuple #[.int k a, .int k b]) = .returned (.tuple #[.int k a', .int k b']) := by rw [h1, h2]
theorem ret_bool {a b : Bool} (h : a = b) : Ending.returned (.bool a) = .returned (.bool b) := by rw [h]

theorem sg_mul (a b : Int) : Fx.sg (Fx.iabs a * Fx.iabs b) (!decide (a < 0) == decide (b < 0)) = a * b := by
  unfold Fx.sg Fx.iabs
  by_cases ha : a < 0 <;> by_cases hb : b < 0 <;> simp [ha, hb, Int.mul_neg, Int.neg_mul]
set_option maxHeartbeats 400000 in
theorem size_any (n : Int) (h1 : -9223372036854775808 ≤ n) (h2 : n ≤ 9223372036854775807) (w : World) :
    Calls Try.prog 57 #[.int .i64 n] w fun e w' => e = .returned (.int .u64 (Fx.iabs n)) ∧ w = w' := by
  by_cases h : n < 0
  · go_enter Try.func57, Try.ntmps57
    go_wp2
    go_ret
    refine ⟨ret_int ?_, rfl⟩
    unfold Fx.iabs; rw [if_pos h, IntKind.wrap_u64, IntKind.wrap_u64]; omega
  · go_enter Try.func57, Try.ntmps57
    go_wp2
    go_ret
    refine ⟨ret_int ?_, rfl⟩
    unfold Fx.iabs; rw [if_neg (by omega)]
set_option maxHeartbeats 400000 in
theorem signed_any (m : Int) (b : Bool) (h1 : 0 ≤ m) (h2 : m ≤ 18446744073709551615) (w : World) :
    Calls Try.prog 56 #[.int .u64 m, .bool b] w fun e w' => e = .returned (.tuple #[.int .i64 (Fx.fitV (Fx.sg m b)), .bool (Fx.fitOk (Fx.sg m b))]) ∧ w = w' := by
  cases b
  · by_cases h : m ≤ 9223372036854775807
    · go_enter Try.func56, Try.ntmps56
      go_wp2
      go_ret2
      exact ⟨ret_ib (Fx.fit_in (v := m) (by omega) (by omega)), rfl⟩
    · go_enter Try.func56, Try.ntmps56
      go_wp2
      go_ret2
      exact ⟨ret_ib (Fx.fit_out (v := m) (by omega)), rfl⟩
  · by_cases h : m ≤ 9223372036854775808
    · have e : wrap64 (IntKind.u64.wrap (-m)) = -m := by unfold wrap64; rw [IntKind.wrap_u64]; omega
      have E := Lib.hid e; clear e
      go_enter Try.func56, Try.ntmps56
      go_wp2
      go_ret2
      have := Fx.fit_in (v := -m) (by omega) (by omega)
      exact ⟨ret_ib ⟨E.out.trans this.1, this.2⟩, rfl⟩
    · go_enter Try.func56, Try.ntmps56
      go_wp2
      go_ret2
      exact ⟨ret_ib (Fx.fit_out (v := -m) (by omega)), rfl⟩
namespace M64
theorem maskN (a : Nat) (ha : a < 18446744073709551616) : bits .and .u64 (a : Int) 4294967295 = ((a % 4294967296 : Nat) : Int) := by
  have h := bits_and_u64_nat a 4294967295 ha (by omega)
  have e : a &&& 4294967295 = a % 4294967296 := Nat.and_two_pow_sub_one_eq_mod a 32
  rw [e] at h
  exact h
theorem divN (a : Nat) : (a : Int) / 4294967296 = ((a / 4294967296 : Nat) : Int) := by omega
theorem mulN (a b : Nat) : (a : Int) * (b : Int) = ((a * b : Nat) : Int) := (Int.natCast_mul a b).symm
theorem addN (a b : Nat) : (a : Int) + (b : Int) = ((a + b : Nat) : Int) := (Int.natCast_add a b).symm
theorem wrapN (a : Nat) (ha : a < 18446744073709551616) : IntKind.u64.wrap (a : Int) = (a : Int) := by rw [IntKind.wrap_u64]; omega
theorem wrapM (a : Nat) : IntKind.u64.wrap (a : Int) = ((a % 18446744073709551616 : Nat) : Int) := by rw [IntKind.wrap_u64]; omega
end M64
set_option maxHeartbeats 1000000 in
/-- the high and the low word of the product -/
theorem mul64_nat (x y : Nat) (hx : x < 18446744073709551616) (hy : y < 18446744073709551616) (w : World) :
    Calls Try.prog 58 #[.int .u64 x, .int .u64 y] w fun e w' => e = .returned (.tuple #[.int .u64 ((x * y / 18446744073709551616 : Nat) : Int), .int .u64 ((x * y % 18446744073709551616 : Nat) : Int)]) ∧ w = w' := by
  obtain ⟨bd, bt, bw, hhi⟩ := Lib.mul64_hi x y hx hy
  have ba := Lib.half_mul_le (a := x / 4294967296) (b := y / 4294967296) (by omega) (by omega)
  have bb := Lib.half_mul_le (a := x / 4294967296) (b := y % 4294967296) (by omega) (by omega)
  have bc := Lib.half_mul_le (a := x % 4294967296) (b := y / 4294967296) (by omega) (by omega)
  have ba' : x / 4294967296 * (y / 4294967296) < 18446744073709551616 := by omega
  have bb' : x / 4294967296 * (y % 4294967296) < 18446744073709551616 := by omega
  have bc' : x % 4294967296 * (y / 4294967296) < 18446744073709551616 := by omega
  have bh1 : x / 4294967296 * (y / 4294967296) + (x / 4294967296 * (y % 4294967296) + x % 4294967296 * (y % 4294967296) / 4294967296) / 4294967296 < 18446744073709551616 := by omega
  have bh : x / 4294967296 * (y / 4294967296) + (x / 4294967296 * (y % 4294967296) + x % 4294967296 * (y % 4294967296) / 4294967296) / 4294967296 + ((x / 4294967296 * (y % 4294967296) + x % 4294967296 * (y % 4294967296) / 4294967296) % 4294967296 + x % 4294967296 * (y / 4294967296)) / 4294967296 < 18446744073709551616 := by omega
  go_enter Try.func58, Try.ntmps58
  go_wp2
  simp only [M64.maskN x hx, M64.maskN y hy, M64.divN, M64.mulN, M64.addN, M64.wrapN _ bd, M64.wrapN _ bb', M64.wrapN _ bt, M64.maskN _ bt, M64.wrapN _ bc', M64.wrapN _ bw, M64.wrapN _ ba', M64.wrapN _ bh1, M64.wrapN _ bh, M64.wrapM (x * y)]
  rw [hhi]
  go_ret2
  exact ⟨rfl, rfl⟩
theorem mul64_any (x y : Int) (hx0 : 0 ≤ x) (hx : x ≤ 18446744073709551615) (hy0 : 0 ≤ y) (hy : y ≤ 18446744073709551615) (w : World) :
    Calls Try.prog 58 #[.int .u64 x, .int .u64 y] w fun e w' => e = .returned (.tuple #[.int .u64 (x * y / 18446744073709551616), .int .u64 (x * y % 18446744073709551616)]) ∧ w = w' := by
  obtain ⟨a, rfl⟩ := Int.eq_ofNat_of_zero_le hx0
  obtain ⟨b, rfl⟩ := Int.eq_ofNat_of_zero_le hy0
  have h := mul64_nat a b (by omega) (by omega) w
  rw [Int.natCast_ediv, Int.natCast_emod, Int.natCast_mul] at h
  exact h
theorem abs_any (a : Int) (a1 : -9223372036854775808 ≤ a) (a2 : a ≤ 9223372036854775807) (w : World) :
    Calls Try.prog 50 #[.int .i64 a] w fun e w' => e = .returned (.tuple #[.int .i64 (Fx.fitV (Fx.iabs a)), .bool (Fx.fitOk (Fx.iabs a))]) ∧ w = w' := by
  have hb := Fx.iabs_bd a a1 a2
  go_enter Try.func50, Try.ntmps50
  go_wp2_with (first | (go_at_call 57; refine (size_any _ (by omega) (by omega) _).mono ?_; rintro e w' ⟨rfl, rfl⟩) | (go_at_call 56; refine (signed_any _ _ (by omega) (by omega) _).mono ?_; rintro e w' ⟨rfl, rfl⟩))
  go_ret2
  exact ⟨ret_ib ⟨rfl, rfl⟩, rfl⟩
def clamp (n lo hi : Int) : Int := if n < lo then lo else if hi < n then hi else n
set_option maxHeartbeats 400000 in
theorem clamp_any (n lo hi : Int) (w : World) :
    Calls Try.prog 40 #[.int .i64 n, .int .i64 lo, .int .i64 hi] w fun e w' => e = .returned (.int .i64 (clamp n lo hi)) ∧ w = w' := by
  by_cases h : n < lo
  · go_enter Try.func40, Try.ntmps40
    go_wp2
    go_ret
    exact ⟨ret_int (by unfold clamp; rw [if_pos h]), rfl⟩
  · by_cases h2 : hi < n
    · go_enter Try.func40, Try.ntmps40
      go_wp2
      go_ret
      exact ⟨ret_int (by unfold clamp; rw [if_neg (by omega), if_pos h2]), rfl⟩
    · go_enter Try.func40, Try.ntmps40
      go_wp2
      go_ret
      exact ⟨ret_int (by unfold clamp; rw [if_neg (by omega), if_neg (by omega)]), rfl⟩
end Go.Proofs.Ytdaedhgbkamjpaa.FxW
