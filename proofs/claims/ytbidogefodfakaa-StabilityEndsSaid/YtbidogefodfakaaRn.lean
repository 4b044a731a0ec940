/- Contracts of the reference of layer 1: Ceil, Near, Sqrt. -/
import Derived.Test.YtbidogefodfakaaRm
import Derived.Test.YtbidogefodfakaaFs
set_option linter.unusedVariables false
set_option linter.unusedSimpArgs false
namespace Go.Proofs.Ytbidogefodfakaa.FxW
open Go.RowKit

set_option maxHeartbeats 1000000 in
theorem rsqrt_neg (n : Int) (h : n < 0) (w : World) :
    Calls Try.prog 46 #[.int .i64 n] w fun e w' => e = .returned (.tuple #[.int .i64 0, .bool false]) ∧ w = w' := by
  go_enter Try.func46, Try.ntmps46
  go_wp2
  go_ret2
  exact ⟨rfl, rfl⟩
set_option maxHeartbeats 1000000 in
theorem rsqrt_nat (n : Nat) (h : n ≤ 9223372036854775807) (w : World) :
    Calls Try.prog 46 #[.int .i64 n] w fun e w' => e = .returned (.tuple #[.int .i64 (Fx.isq n), .bool true]) ∧ w = w' := by
  have R0 := Fx.root_start (n := n) (by omega)
  have h' : (n : Int) ≤ 9223372036854775807 := by omega
  have hn : decide ((n : Int) < 0) = false := by simp
  have H0 := Lib.hid R0
  clear h R0
  go_enter Try.func46, Try.ntmps46
  go_wp2_with (fail)
  go_loop [4, 5] (fun a b => ∃ root k bit : Nat, a = .int .i64 (root : Int) ∧ b = .int .i64 (bit : Int) ∧ k ≤ 32 ∧ bit = 2 ^ k / 2 ∧ Fx.RootAt n root k) (fun _ b => (intOf b).toNat)
  case atStart => exact ⟨0, 32, 2147483648, rfl, rfl, by omega, by decide, H0.out⟩
  case round =>
    obtain ⟨root, k, bit, rfl, rfl, hk, hbit, R⟩ := hrel
    have H := Lib.hid R
    clear H0
    cases k with
    | zero =>
      obtain rfl : bit = 0 := hbit
      have F := Lib.hid (Fx.root_end (n := n) (root := root) R)
      clear R H hk
      go_wp2_with (fail)
      go_ret2
      exact ⟨ret_ib ⟨F.out.symm, rfl⟩, rfl⟩
    | succ k =>
      have hb : bit = 2 ^ k := by rw [hbit, Nat.pow_succ, Nat.mul_div_cancel _ (by omega)]
      have hp := Nat.two_pow_pos k
      obtain ⟨s1, s2, s3, s4, s5⟩ := Fx.root_step R
      rw [← hb] at s2 s3 s4 s5 hp
      have half : bit / 2 = 2 ^ k / 2 := by rw [hb]
      have HF := Lib.hid half
      have bp : 1 ≤ (bit : Int) := by omega
      have sm : (root : Int) + (bit : Int) < 4294967296 := by omega
      have S4 := Lib.hid s4
      have S5 := Lib.hid s5
      have M := Lib.hid (fun w => rmul_any ((root : Int) + (bit : Int)) ((root : Int) + (bit : Int)) (by omega) (by omega) (by omega) (by omega) w)
      have e3 : ((root : Int) + (bit : Int)) * ((root : Int) + (bit : Int)) = (((root + bit) * (root + bit) : Nat) : Int) := by simp
      have hk2 := Lib.hid (show k ≤ 32 by omega)
      clear R hbit hb hp s1 s2 s4 s5 half hk
      obtain ⟨rr, hrr⟩ : ∃ x : Int, (root : Int) = x := ⟨_, rfl⟩
      obtain ⟨bb, hbb⟩ : ∃ x : Int, (bit : Int) = x := ⟨_, rfl⟩
      have HR := Lib.hid hrr; have HBt := Lib.hid hbb
      have rr0 : 0 ≤ rr := by omega
      by_cases c : (root + bit) * (root + bit) ≤ n
      · have X := Lib.hid (S4.out c)
        have f := Fx.fit_in (v := ((root : Int) + (bit : Int)) * ((root : Int) + (bit : Int))) (by rw [e3]; omega) (by rw [e3]; omega)
        have M' : ∀ w, Calls Try.prog 49 #[.int .i64 ((root : Int) + (bit : Int)), .int .i64 ((root : Int) + (bit : Int))] w fun e w' => e = .returned (.tuple #[.int .i64 (((root + bit) * (root + bit) : Nat) : Int), .bool true]) ∧ w = w' := fun w => by
          have := M.out w; rw [← f.1, ← f.2, e3] at this; exact this
        have c' : ((((root + bit) * (root + bit) : Nat) : Int)) ≤ (n : Int) := by omega
        obtain ⟨t, ht⟩ : ∃ t : Int, (((root + bit) * (root + bit) : Nat) : Int) = t := ⟨_, rfl⟩
        rw [ht] at c' M'
        rw [hrr, hbb] at M'
        have M2 := Lib.hid M'
        rw [hrr, hbb] at sm; rw [hbb] at bp
        rw [hrr, hbb]
        clear M M' f e3 s3 c S4 S5 ht hrr hbb
        go_wp2_with (go_at_call 49; refine (M2.out _).mono ?_; rintro e w' ⟨rfl, rfl⟩)
        go_round
        case rel => exact ⟨root + bit, k, bit / 2, by rw [← HR.out, ← HBt.out]; simp, by rw [← HBt.out]; simp, hk2.out, HF.out, X.out⟩
        case measure => simp [intOf]; omega
      · have X := Lib.hid (S5.out c)
        by_cases ft : (root + bit) * (root + bit) ≤ 9223372036854775807
        · have f := Fx.fit_in (v := ((root : Int) + (bit : Int)) * ((root : Int) + (bit : Int))) (by rw [e3]; omega) (by rw [e3]; omega)
          have M' : ∀ w, Calls Try.prog 49 #[.int .i64 ((root : Int) + (bit : Int)), .int .i64 ((root : Int) + (bit : Int))] w fun e w' => e = .returned (.tuple #[.int .i64 (((root + bit) * (root + bit) : Nat) : Int), .bool true]) ∧ w = w' := fun w => by
            have := M.out w; rw [← f.1, ← f.2, e3] at this; exact this
          have c' : ¬ ((((root + bit) * (root + bit) : Nat) : Int)) ≤ (n : Int) := by omega
          obtain ⟨t, ht⟩ : ∃ t : Int, (((root + bit) * (root + bit) : Nat) : Int) = t := ⟨_, rfl⟩
          rw [ht] at c' M'
          rw [hrr, hbb] at M'
          have M2 := Lib.hid M'
          rw [hrr, hbb] at sm; rw [hbb] at bp
          rw [hrr, hbb]
          clear M M' f e3 s3 c S4 S5 ft ht hrr hbb
          go_wp2_with (go_at_call 49; refine (M2.out _).mono ?_; rintro e w' ⟨rfl, rfl⟩)
          go_round
          case rel => exact ⟨root, k, bit / 2, by rw [← HR.out], by rw [← HBt.out]; simp, hk2.out, HF.out, X.out⟩
          case measure => simp [intOf]; omega
        · have f := Fx.fit_out (v := ((root : Int) + (bit : Int)) * ((root : Int) + (bit : Int))) (by rw [e3]; omega)
          have M' : ∀ w, Calls Try.prog 49 #[.int .i64 ((root : Int) + (bit : Int)), .int .i64 ((root : Int) + (bit : Int))] w fun e w' => e = .returned (.tuple #[.int .i64 0, .bool false]) ∧ w = w' := fun w => by
            have := M.out w; rw [← f.1, ← f.2] at this; exact this
          rw [hrr, hbb] at M'
          have M2 := Lib.hid M'
          rw [hrr, hbb] at sm; rw [hbb] at bp
          rw [hrr, hbb]
          clear M M' f e3 s3 c S4 S5 ft hrr hbb
          go_wp2_with (go_at_call 49; refine (M2.out _).mono ?_; rintro e w' ⟨rfl, rfl⟩)
          go_round
          case rel => exact ⟨root, k, bit / 2, by rw [← HR.out], by rw [← HBt.out]; simp, hk2.out, HF.out, X.out⟩
          case measure => simp [intOf]; omega
theorem rsqrt_int (n : Int) (h0 : 0 ≤ n) (h : n ≤ 9223372036854775807) (w : World) :
    Calls Try.prog 46 #[.int .i64 n] w fun e w' => e = .returned (.tuple #[.int .i64 (Fx.isq n), .bool true]) ∧ w = w' := by
  obtain ⟨m, rfl⟩ := Int.eq_ofNat_of_zero_le h0
  exact rsqrt_nat m (by omega) w
end Go.Proofs.Ytbidogefodfakaa.FxW
