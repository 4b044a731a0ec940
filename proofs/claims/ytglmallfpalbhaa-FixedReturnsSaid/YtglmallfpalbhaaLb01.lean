/- The laws FixedRoots, FixedReturns, FixedBack of layer 1: their walks. -/
import Derived.Test.YtglmallfpalbhaaAw01
set_option linter.unusedVariables false
namespace Go.Proofs.Ytglmallfpalbhaa.FxW
open Go.RowKit

set_option maxHeartbeats 4000000 in
set_option maxRecDepth 100000 in
theorem law_FixedRoots (n : Int) (n1 : -9223372036854775808 ≤ n) (n2 : n ≤ 9223372036854775807) (w : World) :
    Calls Try.prog 7 #[.int .i64 n] w fun e w' => e = .returned (.bool true) ∧ ∃ n, w' = w.drewN n := by
  by_cases h : n < 0
  · go_enter Try.func7, Try.ntmps7
    go_wp2_with (first | (go_at_call 25; refine (sqrt_neg _ (by omega) _).mono ?_; rintro e w' ⟨rfl, rfl⟩) | (go_at_call 16; refine (awake_any _).mono ?_; rintro e w' ⟨rfl, na, rfl⟩))
    go_ret
    exact ⟨rfl, _, rfl⟩
  · have S := Fx.isq_spec (n := n) (by omega)
    have s0 := Fx.isq_nonneg n
    have s1 := Fx.isq_le (n := n) (r := 4294967295) (by omega) (by omega) (by omega)
    have C := Lib.hid (fun w => sqrt_int n (by omega) n2 w)
    generalize Fx.isq n = s at *
    have sq : 0 ≤ s * s := Int.mul_nonneg s0 s0
    have f1 := Fx.fit_in (v := s * s) (by omega) (by omega)
    have o1 : Fx.fitOk (s * s) = true := f1.2.symm
    have v1 : Fx.fitV (s * s) ≤ n := by rw [← f1.1]; exact S.1
    have v2 : Fx.fitOk ((s + 1) * (s + 1)) = true → n < Fx.fitV ((s + 1) * (s + 1)) := fun h => by rw [Fx.fitV_of h]; exact S.2
    clear S f1 sq
    by_cases o2 : Fx.fitOk ((s + 1) * (s + 1)) = true
    · have v3 := v2 o2
      clear v2
      go_enter Try.func7, Try.ntmps7
      go_wp2_with (first | (go_at_call 25; refine (C.out _).mono ?_; rintro e w' ⟨rfl, rfl⟩) | (go_at_call 26; refine (mul_any _ _ (by omega) (by omega) (by omega) (by omega) _).mono ?_; rintro e w' ⟨rfl, rfl⟩) | (go_at_call 16; refine (awake_any _).mono ?_; rintro e w' ⟨rfl, na, rfl⟩))
      go_ret
      exact ⟨rfl, _, rfl⟩
    · have o2 : Fx.fitOk ((s + 1) * (s + 1)) = false := by simpa using o2
      clear v2
      go_enter Try.func7, Try.ntmps7
      go_wp2_with (first | (go_at_call 25; refine (C.out _).mono ?_; rintro e w' ⟨rfl, rfl⟩) | (go_at_call 26; refine (mul_any _ _ (by omega) (by omega) (by omega) (by omega) _).mono ?_; rintro e w' ⟨rfl, rfl⟩) | (go_at_call 16; refine (awake_any _).mono ?_; rintro e w' ⟨rfl, na, rfl⟩))
      go_ret
      exact ⟨rfl, _, rfl⟩

theorem ret_no_sc (w : World) : Calls Try.prog 19 #[.int .i64 1, .int .i64 500001] w fun e w' => e = .returned (.tuple #[.int .i64 0, .bool false]) ∧ ∃ n, w' = w.drewN n :=
  quiet_calls (scale_any 1 500001 (by omega) (by omega) (by omega) (by omega) w) (val_ib (by decide) (by decide))
theorem ret_no_un (w : World) : Calls Try.prog 21 #[.int .i64 1, .int .i64 (-500001)] w fun e w' => e = .returned (.tuple #[.int .i64 0, .bool false]) ∧ ∃ n, w' = w.drewN n :=
  quiet_calls (unscale_any 1 (-500001) (by omega) (by omega) (by omega) (by omega) w) (val_ib (by decide) (by decide))
set_option maxHeartbeats 4000000 in
set_option maxRecDepth 100000 in
theorem law_FixedReturns (n p : Int) (n1 : -9223372036854775808 ≤ n) (n2 : n ≤ 9223372036854775807) (p1 : -9223372036854775808 ≤ p) (p2 : p ≤ 9223372036854775807) (w : World) :
    Calls Try.prog 6 #[.int .i64 n, .int .i64 p] w fun e w' => e = .returned (.bool true) ∧ ∃ n, w' = w.drewN n := by
  by_cases g1 : n < -1152921504606846976
  · go_enter Try.func6, Try.ntmps6
    go_wp2_with (first | ((with_reducible refine (ret_no_sc _).mono ?_); rintro e w' ⟨rfl, na, rfl⟩) | ((with_reducible refine (ret_no_un _).mono ?_); rintro e w' ⟨rfl, na, rfl⟩) | (go_at_call 16; refine (awake_any _).mono ?_; rintro e w' ⟨rfl, na, rfl⟩))
    go_ret
    exact ⟨rfl, _, rfl⟩
  by_cases g2 : 1152921504606846976 < n
  · go_enter Try.func6, Try.ntmps6
    go_wp2_with (first | ((with_reducible refine (ret_no_sc _).mono ?_); rintro e w' ⟨rfl, na, rfl⟩) | ((with_reducible refine (ret_no_un _).mono ?_); rintro e w' ⟨rfl, na, rfl⟩) | (go_at_call 16; refine (awake_any _).mono ?_; rintro e w' ⟨rfl, na, rfl⟩))
    go_ret
    exact ⟨rfl, _, rfl⟩
  by_cases g3 : p < -500000
  · go_enter Try.func6, Try.ntmps6
    go_wp2_with (first | ((with_reducible refine (ret_no_sc _).mono ?_); rintro e w' ⟨rfl, na, rfl⟩) | ((with_reducible refine (ret_no_un _).mono ?_); rintro e w' ⟨rfl, na, rfl⟩) | (go_at_call 16; refine (awake_any _).mono ?_; rintro e w' ⟨rfl, na, rfl⟩))
    go_ret
    exact ⟨rfl, _, rfl⟩
  by_cases g4 : 500000 < p
  · go_enter Try.func6, Try.ntmps6
    go_wp2_with (first | ((with_reducible refine (ret_no_sc _).mono ?_); rintro e w' ⟨rfl, na, rfl⟩) | ((with_reducible refine (ret_no_un _).mono ?_); rintro e w' ⟨rfl, na, rfl⟩) | (go_at_call 16; refine (awake_any _).mono ?_; rintro e w' ⟨rfl, na, rfl⟩))
    go_ret
    exact ⟨rfl, _, rfl⟩
  obtain ⟨r1, r2, r3, r4, r5, r6, r7, r8⟩ := Fx.returns n p (by omega) (by omega) (by omega) (by omega)
  have C := Lib.hid (fun w => scale_any n p n1 n2 p1 p2 w)
  generalize hs : Fx.scV n p = s at *
  generalize hu : Fx.unV s p = u at *
  have D := Lib.hid (fun w => unscale_any s p (by omega) (by omega) p1 p2 w)
  rw [hu] at D
  clear hs hu
  by_cases m1 : n < 0
  · clear r5 r6
    go_enter Try.func6, Try.ntmps6
    go_wp2_with (first | (go_at_call 19; refine (C.out _).mono ?_; rintro e w' ⟨rfl, nq, rfl⟩) | (go_at_call 21; refine (D.out _).mono ?_; rintro e w' ⟨rfl, nq2, rfl⟩) | (go_at_call 16; refine (awake_any _).mono ?_; rintro e w' ⟨rfl, na, rfl⟩))
    go_ret
    exact ⟨rfl, _, rfl⟩
  · by_cases m2 : p < 0
    · have r7' := r6 (by omega) (by omega)
      clear r5 r6
      go_enter Try.func6, Try.ntmps6
      go_wp2_with (first | (go_at_call 19; refine (C.out _).mono ?_; rintro e w' ⟨rfl, nq, rfl⟩) | (go_at_call 21; refine (D.out _).mono ?_; rintro e w' ⟨rfl, nq2, rfl⟩) | (go_at_call 16; refine (awake_any _).mono ?_; rintro e w' ⟨rfl, na, rfl⟩))
      go_ret
      exact ⟨rfl, _, rfl⟩
    · have r7' := r5 (by omega) (by omega)
      by_cases m3 : 0 < p
      · clear r5 r6
        go_enter Try.func6, Try.ntmps6
        go_wp2_with (first | (go_at_call 19; refine (C.out _).mono ?_; rintro e w' ⟨rfl, nq, rfl⟩) | (go_at_call 21; refine (D.out _).mono ?_; rintro e w' ⟨rfl, nq2, rfl⟩) | (go_at_call 16; refine (awake_any _).mono ?_; rintro e w' ⟨rfl, na, rfl⟩))
        go_ret
        exact ⟨rfl, _, rfl⟩
      · have r8' := r6 (by omega) (by omega)
        clear r5 r6
        go_enter Try.func6, Try.ntmps6
        go_wp2_with (first | (go_at_call 19; refine (C.out _).mono ?_; rintro e w' ⟨rfl, nq, rfl⟩) | (go_at_call 21; refine (D.out _).mono ?_; rintro e w' ⟨rfl, nq2, rfl⟩) | (go_at_call 16; refine (awake_any _).mono ?_; rintro e w' ⟨rfl, na, rfl⟩))
        go_ret
        exact ⟨rfl, _, rfl⟩
end Go.Proofs.Ytglmallfpalbhaa.FxW
