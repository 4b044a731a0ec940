/- The contract of the reference's divide: the quotient of two words by one, bit by bit. -/
import Derived.Test.YtdaedhgbkamjpaaFw
import Derived.LoopTactic
set_option linter.unusedVariables false
set_option linter.unusedSimpArgs false
namespace Go.Proofs.Ytdaedhgbkamjpaa.FxW
open Go.RowKit

namespace Bd
/-- what the rounds keep -/
structure St (N c i hi lo q1 q0 r : Nat) : Prop where
  sum : N * 2 ^ i = ((q1 * 18446744073709551616 + q0) * c + r) * 340282366920938463463374607431768211456 + (hi * 18446744073709551616 + lo)
  rc : r < c
  bd : (q1 * 18446744073709551616 + q0) * c + r < 2 ^ i
  bh : hi < 18446744073709551616
  bl : lo < 18446744073709551616
  b1 : q1 < 18446744073709551616
  b0 : q0 < 18446744073709551616
theorem start {hi lo c : Nat} (hc : 0 < c) (bh : hi < 18446744073709551616) (bl : lo < 18446744073709551616) : St (hi * 18446744073709551616 + lo) c 0 hi lo 0 0 0 :=
  ⟨by omega, hc, by simp, bh, bl, by omega, by omega⟩
theorem fin {N c hi lo q1 q0 r : Nat} (H : St N c 128 hi lo q1 q0 r) (hN : N < 340282366920938463463374607431768211456) : q1 * 18446744073709551616 + q0 = N / c ∧ r = N % c := by
  have s := H.sum
  have bh := H.bh
  have bl := H.bl
  have e : (2 : Nat) ^ 128 = 340282366920938463463374607431768211456 := by decide
  rw [e] at s
  have hs : N = (q1 * 18446744073709551616 + q0) * c + r := by
    generalize (q1 * 18446744073709551616 + q0) * c = t at *
    omega
  have hc : 0 < c := by have := H.rc; omega
  have := (Nat.div_mod_unique hc (a := N) (c := r) (d := q1 * 18446744073709551616 + q0)).2 ⟨by rw [hs, Nat.mul_comm]; omega, H.rc⟩
  exact ⟨this.1.symm, this.2.symm⟩
theorem core_step (X t r c k T T' P : Nat) (s : X = (t + r) * 340282366920938463463374607431768211456 + T) (rc : r < c) (bd : t + r < P) (hk : k ≤ 1) (eT : 2 * T = k * 340282366920938463463374607431768211456 + T') :
    (c ≤ 2 * r + k → (2 * r + k - c < c ∧ 2 * X = (2 * t + c + (2 * r + k - c)) * 340282366920938463463374607431768211456 + T' ∧ 2 * t + c + (2 * r + k - c) < 2 * P)) ∧
    (¬ c ≤ 2 * r + k → (2 * r + k < c ∧ 2 * X = (2 * t + (2 * r + k)) * 340282366920938463463374607431768211456 + T' ∧ 2 * t + (2 * r + k) < 2 * P)) := by
  constructor
  · intro h; exact ⟨by omega, by omega, by omega⟩
  · intro h; exact ⟨by omega, by omega, by omega⟩
theorem step {N c i hi lo q1 q0 r : Nat} (H : St N c i hi lo q1 q0 r) (hi128 : i < 128) :
    (c ≤ 2 * r + hi / 9223372036854775808 → St N c (i + 1) ((hi * 2) % 18446744073709551616 + lo / 9223372036854775808) (lo * 2 % 18446744073709551616) (q1 * 2 % 18446744073709551616 + q0 / 9223372036854775808) (q0 * 2 % 18446744073709551616 + 1) (2 * r + hi / 9223372036854775808 - c)) ∧
    (¬ c ≤ 2 * r + hi / 9223372036854775808 → St N c (i + 1) ((hi * 2) % 18446744073709551616 + lo / 9223372036854775808) (lo * 2 % 18446744073709551616) (q1 * 2 % 18446744073709551616 + q0 / 9223372036854775808) (q0 * 2 % 18446744073709551616) (2 * r + hi / 9223372036854775808)) := by
  obtain ⟨s, rc, bd, bh, bl, b1, b0⟩ := H
  have p1 : 2 ^ (i + 1) = 2 * 2 ^ i := by rw [Nat.pow_succ]; omega
  have hc : 0 < c := by omega
  have hQ : q1 * 18446744073709551616 + q0 < 2 ^ i := by
    have := Nat.le_mul_of_pos_right (q1 * 18446744073709551616 + q0) hc
    omega
  have h127 : 2 ^ i ≤ 2 ^ 127 := Nat.pow_le_pow_right (by omega) (by omega)
  have e127 : (2 : Nat) ^ 127 = 170141183460469231731687303715884105728 := by decide
  have hq1 : q1 < 9223372036854775808 := by omega
  have eq1 : q1 * 2 % 18446744073709551616 = q1 * 2 := by omega
  have eQ : (q1 * 2 + q0 / 9223372036854775808) * 18446744073709551616 + q0 * 2 % 18446744073709551616 = 2 * (q1 * 18446744073709551616 + q0) := by omega
  have s2 : N * 2 ^ (i + 1) = 2 * (N * 2 ^ i) := by rw [p1, Nat.mul_left_comm]
  have eT : 2 * (hi * 18446744073709551616 + lo) = hi / 9223372036854775808 * 340282366920938463463374607431768211456 + ((hi * 2 % 18446744073709551616 + lo / 9223372036854775808) * 18446744073709551616 + lo * 2 % 18446744073709551616) := by omega
  have c1 : hi / 9223372036854775808 ≤ 1 := by omega
  have l1 : hi * 2 % 18446744073709551616 + lo / 9223372036854775808 < 18446744073709551616 := by omega
  have l2 : q1 * 2 % 18446744073709551616 + q0 / 9223372036854775808 < 18446744073709551616 := by omega
  have l3 : q0 * 2 % 18446744073709551616 + 1 < 18446744073709551616 := by omega
  have l4 : lo * 2 % 18446744073709551616 < 18446744073709551616 := by omega
  clear h127 e127 hQ hq1 bh bl b1 b0
  have core := core_step _ _ r c _ _ _ _ s rc bd c1 eT
  have m1 : (q1 * 2 % 18446744073709551616 + q0 / 9223372036854775808) * 18446744073709551616 + q0 * 2 % 18446744073709551616 = 2 * (q1 * 18446744073709551616 + q0) := by rw [eq1]; exact eQ
  have m2 : (q1 * 2 % 18446744073709551616 + q0 / 9223372036854775808) * 18446744073709551616 + (q0 * 2 % 18446744073709551616 + 1) = 2 * (q1 * 18446744073709551616 + q0) + 1 := (Nat.add_assoc _ _ _).symm.trans (congrArg (fun x => x + 1) m1)
  refine ⟨fun h => ?_, fun h => ?_⟩
  · obtain ⟨k1, k2, k3⟩ := core.1 h
    refine ⟨?_, k1, ?_, l1, l4, l2, l3⟩
    · rw [s2, m2, Nat.add_mul _ 1 c, Nat.mul_assoc 2, Nat.one_mul]; exact k2
    · rw [p1, m2, Nat.add_mul _ 1 c, Nat.mul_assoc 2, Nat.one_mul]; exact k3
  · obtain ⟨k1, k2, k3⟩ := core.2 h
    refine ⟨?_, k1, ?_, l1, l4, l2, Nat.lt_of_succ_lt l3⟩
    · rw [s2, m1, Nat.mul_assoc 2]; exact k2
    · rw [p1, m1, Nat.mul_assoc 2]; exact k3
theorem even_or (a b : Nat) (ha : a % 2 = 0) (hb : b < 2) : a ||| b = a + b := by
  have := Nat.two_pow_add_eq_or_of_lt (i := 1) (show b < 2 ^ 1 by omega) (a / 2)
  rw [show 2 ^ 1 * (a / 2) = a by omega] at this
  exact this.symm
theorem or_any (a b : Nat) (ha : a % 2 = 0) (ha' : a < 18446744073709551616) (hb : b < 2) : bits .or .u64 (a : Int) (b : Int) = ((a + b : Nat) : Int) := by
  rw [bits_or_u64_nat _ _ ha' (by omega), even_or a b ha hb]
end Bd

set_option maxRecDepth 100000 in
set_option maxHeartbeats 2000000 in
theorem rdivide_nat (hi0 lo0 c : Nat) (bh : hi0 ≤ 18446744073709551615) (bl : lo0 ≤ 18446744073709551615) (c0 : 0 < c) (c1 : c ≤ 9223372036854775808) (w : World) :
    Calls Try.prog 72 #[.int .u64 hi0, .int .u64 lo0, .int .u64 c] w fun e w' => (∃ q1 q0 r : Nat, e = .returned (.tuple #[.int .u64 q1, .int .u64 q0, .int .u64 r]) ∧ q1 ≤ 18446744073709551615 ∧ q0 ≤ 18446744073709551615 ∧
      q1 * 18446744073709551616 + q0 = (hi0 * 18446744073709551616 + lo0) / c ∧ r = (hi0 * 18446744073709551616 + lo0) % c) ∧ w = w' := by
  have S0 := Lib.hid (Bd.start (hi := hi0) (lo := lo0) (c := c) c0 (by omega) (by omega))
  have bN : hi0 * 18446744073709551616 + lo0 < 340282366920938463463374607431768211456 := by omega
  have cc1 : (c : Int) ≤ 9223372036854775808 := by omega
  have BN := Lib.hid bN
  clear bN bh bl c0 c1
  obtain ⟨N, hN⟩ : ∃ N, N = hi0 * 18446744073709551616 + lo0 := ⟨_, rfl⟩
  rw [← hN] at S0 BN
  rw [← hN]
  clear hN
  go_enter Try.func72, Try.ntmps72
  go_wp2_with (fail)
  go_loop [0, 1, 9, 10, 11, 12] (fun a b d e f g => ∃ hi lo q1 q0 r i : Nat, a = .int .u64 hi ∧ b = .int .u64 lo ∧ d = .int .u64 q1 ∧ e = .int .u64 q0 ∧ f = .int .u64 r ∧ g = .int .i64 i ∧ i ≤ 128 ∧ Bd.St N c i hi lo q1 q0 r) (fun _ _ _ _ _ g => 128 - (intOf g).toNat)
  case atStart => exact ⟨hi0, lo0, 0, 0, 0, 0, rfl, rfl, rfl, rfl, rfl, rfl, by omega, S0.out⟩
  case round =>
    obtain ⟨hi, lo, q1, q0, r, i, rfl, rfl, rfl, rfl, rfl, rfl, hi128, H0⟩ := hrel
    have H := Lib.hid H0
    clear S0
    by_cases hlt : i < 128
    · have T := Bd.step H0 hlt
      have rc' : (r : Int) < (c : Int) := by have := H0.rc; omega
      have bh' : (hi : Int) ≤ 18446744073709551615 := by have := H0.bh; omega
      have bl' : (lo : Int) ≤ 18446744073709551615 := by have := H0.bl; omega
      have b1' : (q1 : Int) ≤ 18446744073709551615 := by have := H0.b1; omega
      have b0' : (q0 : Int) ≤ 18446744073709551615 := by have := H0.b0; omega
      have r0 : ((r : Int) / 9223372036854775808 == 1) = false := by simp; omega
      have n1 : hi < 18446744073709551616 := H0.bh
      have n2 : lo < 18446744073709551616 := H0.bl
      have n3 : q1 < 18446744073709551616 := H0.b1
      have n4 : q0 < 18446744073709551616 := H0.b0
      have n5 : r < 9223372036854775808 := by omega
      have e1 : bits .or .u64 ((r : Int) * 2) ((hi : Int) / 9223372036854775808) = ((2 * r + hi / 9223372036854775808 : Nat) : Int) := by
        rw [show ((r : Int) * 2) = ((2 * r : Nat) : Int) by omega, show ((hi : Int) / 9223372036854775808) = ((hi / 9223372036854775808 : Nat) : Int) by omega]
        exact Bd.or_any _ _ (by omega) (by omega) (by omega)
      have e2 : bits .or .u64 (IntKind.u64.wrap ((hi : Int) * 2)) ((lo : Int) / 9223372036854775808) = ((hi * 2 % 18446744073709551616 + lo / 9223372036854775808 : Nat) : Int) := by
        rw [show IntKind.u64.wrap ((hi : Int) * 2) = ((hi * 2 % 18446744073709551616 : Nat) : Int) by rw [IntKind.wrap_u64]; omega, show ((lo : Int) / 9223372036854775808) = ((lo / 9223372036854775808 : Nat) : Int) by omega]
        exact Bd.or_any _ _ (by omega) (by omega) (by omega)
      have e3 : bits .or .u64 (IntKind.u64.wrap ((q1 : Int) * 2)) ((q0 : Int) / 9223372036854775808) = ((q1 * 2 % 18446744073709551616 + q0 / 9223372036854775808 : Nat) : Int) := by
        rw [show IntKind.u64.wrap ((q1 : Int) * 2) = ((q1 * 2 % 18446744073709551616 : Nat) : Int) by rw [IntKind.wrap_u64]; omega, show ((q0 : Int) / 9223372036854775808) = ((q0 / 9223372036854775808 : Nat) : Int) by omega]
        exact Bd.or_any _ _ (by omega) (by omega) (by omega)
      have e4 : IntKind.u64.wrap ((lo : Int) * 2) = ((lo * 2 % 18446744073709551616 : Nat) : Int) := by rw [IntKind.wrap_u64]; omega
      have e5 : IntKind.u64.wrap ((q0 : Int) * 2) = ((q0 * 2 % 18446744073709551616 : Nat) : Int) := by rw [IntKind.wrap_u64]; omega
      have e6 : bits .or .u64 ((q0 * 2 % 18446744073709551616 : Nat) : Int) 1 = ((q0 * 2 % 18446744073709551616 + 1 : Nat) : Int) := Bd.or_any _ 1 (by omega) (by omega) (by omega)
      have rb : ((2 * r + hi / 9223372036854775808 : Nat) : Int) ≤ 18446744073709551615 := by omega
      have TA := fun h => T.1 h
      have TB := fun h => T.2 h
      clear T H0 n1 n2 n3 n4 n5
      generalize 2 * r + hi / 9223372036854775808 = r' at *
      generalize hi * 2 % 18446744073709551616 + lo / 9223372036854775808 = hi' at *
      generalize lo * 2 % 18446744073709551616 = lo' at *
      generalize q1 * 2 % 18446744073709551616 + q0 / 9223372036854775808 = q1' at *
      generalize q0 * 2 % 18446744073709551616 = q0' at *
      by_cases hc : (c : Int) ≤ (r' : Int)
      · have X := Lib.hid (TA (by omega))
        clear TA TB
        go_wp2_with (fail)
        go_round
        case rel => exact ⟨hi', lo', q1', q0' + 1, r' - c, i + 1, rfl, rfl, rfl, rfl, by go_num, by go_num, by omega, X.out⟩
        case measure => simp [intOf]; omega
      · have X := Lib.hid (TB (by omega))
        clear TA TB
        go_wp2_with (fail)
        go_round
        case rel => exact ⟨hi', lo', q1', q0', r', i + 1, rfl, rfl, rfl, rfl, rfl, by go_num, by omega, X.out⟩
        case measure => simp [intOf]; omega
    · obtain rfl : i = 128 := by omega
      have F := Lib.hid (Bd.fin H0 BN.out)
      have x1 := Lib.hid H0.b1
      have x0 := Lib.hid H0.b0
      clear H0 H hi128 hlt
      go_wp2_with (fail)
      go_ret3
      refine ⟨⟨q1, q0, r, rfl, ?_, ?_, F.out⟩, rfl⟩
      · have := x1.out; omega
      · have := x0.out; omega
end Go.Proofs.Ytdaedhgbkamjpaa.FxW
