/- Contracts of the reference of layer 1 (all but divide). -/
import Derived.Test.YtdaedhgbkamjpaaRd
set_option linter.unusedVariables false
set_option linter.unusedSimpArgs false
namespace Go.Proofs.Ytdaedhgbkamjpaa.FxW
open Go.RowKit

set_option maxHeartbeats 400000 in
theorem rsize_any (n : Int) (h1 : -9223372036854775808 ≤ n) (h2 : n ≤ 9223372036854775807) (w : World) :
    Calls Try.prog 71 #[.int .i64 n] w fun e w' => e = .returned (.int .u64 (Fx.iabs n)) ∧ w = w' := by
  by_cases h : n < 0
  · go_enter Try.func71, Try.ntmps71
    go_wp2
    go_ret
    refine ⟨ret_int ?_, rfl⟩
    unfold Fx.iabs; rw [if_pos h]; omega
  · go_enter Try.func71, Try.ntmps71
    go_wp2
    go_ret
    refine ⟨ret_int ?_, rfl⟩
    unfold Fx.iabs; rw [if_neg (by omega)]
set_option maxHeartbeats 1000000 in
/-- the integer of two words and a sign -/
theorem rsigned_any (b : Bool) (hi lo : Int) (h0 : 0 ≤ hi) (h1 : hi ≤ 18446744073709551615) (l0 : 0 ≤ lo) (l1 : lo ≤ 18446744073709551615) (w : World) :
    Calls Try.prog 73 #[.bool b, .int .u64 hi, .int .u64 lo] w fun e w' => e = .returned (.tuple #[.int .i64 (Fx.fitV (Fx.sg (hi * 18446744073709551616 + lo) b)), .bool (Fx.fitOk (Fx.sg (hi * 18446744073709551616 + lo) b))]) ∧ w = w' := by
  by_cases h : 0 < hi
  · have F := Lib.hid (Fx.fit_out (v := Fx.sg (hi * 18446744073709551616 + lo) b) (by unfold Fx.sg; split <;> omega))
    go_enter Try.func73, Try.ntmps73
    go_wp2
    go_ret2
    exact ⟨ret_ib F.out, rfl⟩
  · obtain rfl : hi = 0 := by omega
    rw [Int.zero_mul, Int.zero_add]
    by_cases h2 : 9223372036854775808 < lo
    · have F := Lib.hid (Fx.fit_out (v := Fx.sg lo b) (by unfold Fx.sg; split <;> omega))
      go_enter Try.func73, Try.ntmps73
      go_wp2
      go_ret2
      exact ⟨ret_ib F.out, rfl⟩
    · by_cases h3 : lo = 9223372036854775808
      · have h3' : (lo == 9223372036854775808) = true := by simp [h3]
        cases b
        · have F := Lib.hid (Fx.fit_out (v := Fx.sg lo false) (by unfold Fx.sg; rw [if_neg (by decide)]; omega))
          clear h3
          go_enter Try.func73, Try.ntmps73
          go_wp2
          go_ret2
          exact ⟨ret_ib F.out, rfl⟩
        · have F := Lib.hid (Fx.fit_in (v := Fx.sg lo true) (by unfold Fx.sg; rw [if_pos rfl]; omega) (by unfold Fx.sg; rw [if_pos rfl]; omega))
          have z : (lo == 0) = false := by simp; omega
          have z2 : ¬ lo < 9223372036854775808 := by omega
          clear h3
          go_enter Try.func73, Try.ntmps73
          go_wp2
          go_ret2
          refine ⟨ret_ib ⟨?_, F.out.2⟩, rfl⟩
          rw [← F.out.1]; unfold Fx.sg; rw [if_pos rfl]; first | omega | (unfold wrap64; omega)
      · have h3' : (lo == 9223372036854775808) = false := by simp [h3]
        cases b
        · have F := Lib.hid (Fx.fit_in (v := lo) (by omega) (by omega))
          have z3 : lo ≤ 9223372036854775807 := by omega
          clear h3
          go_enter Try.func73, Try.ntmps73
          go_wp2
          go_ret2
          exact ⟨ret_ib F.out, rfl⟩
        · by_cases z : lo = 0
          · subst z
            go_enter Try.func73, Try.ntmps73
            go_wp2
            go_ret2
            exact ⟨rfl, rfl⟩
          · have z' : (lo == 0) = false := by simp [z]
            have F := Lib.hid (Fx.fit_in (v := -lo) (by omega) (by omega))
            have z2 : 1 ≤ lo := by omega
            clear h3 z
            go_enter Try.func73, Try.ntmps73
            go_wp2
            go_ret2
            refine ⟨ret_ib ⟨?_, F.out.2⟩, rfl⟩
            exact Eq.trans (by omega) F.out.1
/-- the words of a product by halves -/
theorem prod_words (x y : Nat) (hx : x < 18446744073709551616) (hy : y < 18446744073709551616) :
    x % 4294967296 * (y % 4294967296) < 18446744073709551616 ∧
    x / 4294967296 * (y % 4294967296) < 18446744073709551616 ∧
    x / 4294967296 * (y % 4294967296) + x % 4294967296 * (y % 4294967296) / 4294967296 < 18446744073709551616 ∧
    x % 4294967296 * (y / 4294967296) < 18446744073709551616 ∧
    x % 4294967296 * (y / 4294967296) + (x / 4294967296 * (y % 4294967296) + x % 4294967296 * (y % 4294967296) / 4294967296) % 4294967296 < 18446744073709551616 ∧
    x / 4294967296 * (y / 4294967296) < 18446744073709551616 ∧
    x / 4294967296 * (y / 4294967296) + (x / 4294967296 * (y % 4294967296) + x % 4294967296 * (y % 4294967296) / 4294967296) / 4294967296 < 18446744073709551616 ∧
    x / 4294967296 * (y / 4294967296) + (x / 4294967296 * (y % 4294967296) + x % 4294967296 * (y % 4294967296) / 4294967296) / 4294967296 + (x % 4294967296 * (y / 4294967296) + (x / 4294967296 * (y % 4294967296) + x % 4294967296 * (y % 4294967296) / 4294967296) % 4294967296) / 4294967296 = x * y / 18446744073709551616 ∧
    (x % 4294967296 * (y / 4294967296) + (x / 4294967296 * (y % 4294967296) + x % 4294967296 * (y % 4294967296) / 4294967296) % 4294967296) % 4294967296 * 4294967296 + x % 4294967296 * (y % 4294967296) % 4294967296 = x * y % 18446744073709551616 := by
  have e : x * y = (x / 4294967296) * (y / 4294967296) * (4294967296 * 4294967296) + ((x / 4294967296) * (y % 4294967296) + (x % 4294967296) * (y / 4294967296)) * 4294967296 + (x % 4294967296) * (y % 4294967296) := by
    rw [← Lib.split_mul, Nat.div_add_mod' x 4294967296, Nat.div_add_mod' y 4294967296]
  have ha := Lib.half_mul_le (a := x / 4294967296) (b := y / 4294967296) (by omega) (by omega)
  have hb := Lib.half_mul_le (a := x / 4294967296) (b := y % 4294967296) (by omega) (by omega)
  have hc := Lib.half_mul_le (a := x % 4294967296) (b := y / 4294967296) (by omega) (by omega)
  have hd := Lib.half_mul_le (a := x % 4294967296) (b := y % 4294967296) (by omega) (by omega)
  rw [e]
  generalize (x / 4294967296) * (y / 4294967296) = a at *
  generalize (x / 4294967296) * (y % 4294967296) = b at *
  generalize (x % 4294967296) * (y / 4294967296) = c at *
  generalize (x % 4294967296) * (y % 4294967296) = d at *
  refine ⟨by omega, by omega, by omega, by omega, by omega, by omega, by omega, by omega, by omega⟩
theorem modN (a : Nat) : (a : Int) % 4294967296 = ((a % 4294967296 : Nat) : Int) := by omega
theorem lowN {a b : Nat} (h : b < 4294967296) (h2 : a < 4294967296) : (a : Int) * 4294967296 + (b : Int) = ((a * 4294967296 + b : Nat) : Int) := by omega
set_option maxHeartbeats 1000000 in
theorem product_nat (x y : Nat) (hx : x < 18446744073709551616) (hy : y < 18446744073709551616) (w : World) :
    Calls Try.prog 70 #[.int .u64 x, .int .u64 y] w fun e w' => e = .returned (.tuple #[.int .u64 ((x * y / 18446744073709551616 : Nat) : Int), .int .u64 ((x * y % 18446744073709551616 : Nat) : Int)]) ∧ w = w' := by
  obtain ⟨p1, p2, p3, p4, p5, p6, p7, p8, p9⟩ := prod_words x y hx hy
  have hx' : (x : Int) ≤ 18446744073709551615 := by omega
  have hy' : (y : Int) ≤ 18446744073709551615 := by omega
  have e1 : IntKind.u64.wrap ((x : Int) % 4294967296 * ((y : Int) % 4294967296)) = ((x % 4294967296 * (y % 4294967296) : Nat) : Int) := by rw [modN, modN, M64.mulN, M64.wrapN _ p1]
  have e2 : IntKind.u64.wrap ((x : Int) / 4294967296 * ((y : Int) % 4294967296)) = ((x / 4294967296 * (y % 4294967296) : Nat) : Int) := by rw [modN, M64.divN, M64.mulN, M64.wrapN _ p2]
  have e3 : IntKind.u64.wrap ((x : Int) % 4294967296 * ((y : Int) / 4294967296)) = ((x % 4294967296 * (y / 4294967296) : Nat) : Int) := by rw [modN, M64.divN, M64.mulN, M64.wrapN _ p4]
  have e4 : IntKind.u64.wrap ((x : Int) / 4294967296 * ((y : Int) / 4294967296)) = ((x / 4294967296 * (y / 4294967296) : Nat) : Int) := by rw [M64.divN, M64.divN, M64.mulN, M64.wrapN _ p6]
  have P8 := Lib.hid p8
  have P9 := Lib.hid p9
  clear p8 p9 hx hy
  generalize (x / 4294967296) * (y / 4294967296) = a at *
  generalize (x / 4294967296) * (y % 4294967296) = b at *
  generalize (x % 4294967296) * (y / 4294967296) = c at *
  generalize (x % 4294967296) * (y % 4294967296) = d at *
  have q1 : (d : Int) < 18446744073709551616 := by omega
  have q3 : (b : Int) + (d : Int) / 4294967296 < 18446744073709551616 := by omega
  have q5 : (c : Int) + ((b : Int) + (d : Int) / 4294967296) % 4294967296 < 18446744073709551616 := by omega
  have q7 : (a : Int) + ((b : Int) + (d : Int) / 4294967296) / 4294967296 < 18446744073709551616 := by omega
  have q8 : (a : Int) + ((b : Int) + (d : Int) / 4294967296) / 4294967296 + ((c : Int) + ((b : Int) + (d : Int) / 4294967296) % 4294967296) / 4294967296 < 18446744073709551616 := by
    have := P8.out; have : x * y / 18446744073709551616 < 18446744073709551616 := by rw [Nat.div_lt_iff_lt_mul (by omega)]; exact Nat.lt_of_le_of_lt (Nat.mul_le_mul (show x ≤ 18446744073709551615 by omega) (show y ≤ 18446744073709551615 by omega)) (by omega)
    omega
  clear p1 p2 p3 p4 p5 p6 p7
  go_enter Try.func70, Try.ntmps70
  go_wp2
  go_ret2
  refine ⟨ret_uu ?_ ?_, rfl⟩
  · rw [← P8.out]; simp
  · rw [← P9.out]; simp
theorem product_any (x y : Int) (hx0 : 0 ≤ x) (hx : x ≤ 18446744073709551615) (hy0 : 0 ≤ y) (hy : y ≤ 18446744073709551615) (w : World) :
    Calls Try.prog 70 #[.int .u64 x, .int .u64 y] w fun e w' => e = .returned (.tuple #[.int .u64 (x * y / 18446744073709551616), .int .u64 (x * y % 18446744073709551616)]) ∧ w = w' := by
  obtain ⟨a, rfl⟩ := Int.eq_ofNat_of_zero_le hx0
  obtain ⟨b, rfl⟩ := Int.eq_ofNat_of_zero_le hy0
  have h := product_nat a b (by omega) (by omega) w
  rw [Int.natCast_ediv, Int.natCast_emod, Int.natCast_mul] at h
  exact h
end Go.Proofs.Ytdaedhgbkamjpaa.FxW
