/- The contracts of fixed.MulDiv and what leans on it. -/
import Derived.Test.YtdaedhgbkamjpaaFd
set_option linter.unusedVariables false
set_option linter.unusedSimpArgs false
namespace Go.Proofs.Ytdaedhgbkamjpaa.FxW
open Go.RowKit

set_option maxHeartbeats 1000000 in
theorem muldiv_any (a b c : Int) (a1 : -9223372036854775808 ≤ a) (a2 : a ≤ 9223372036854775807) (b1 : -9223372036854775808 ≤ b) (b2 : b ≤ 9223372036854775807)
    (c1 : -9223372036854775808 ≤ c) (c2 : c ≤ 9223372036854775807) (w : World) :
    Calls Try.prog 51 #[.int .i64 a, .int .i64 b, .int .i64 c] w fun e w' => e = .returned (.tuple #[.int .i64 (Fx.qV c (Fx.fl (a * b) c)), .bool (Fx.qOk c (Fx.fl (a * b) c))]) ∧ ∃ n, w' = w.drewN n := by
  have ha := Fx.iabs_bd a a1 a2
  have hb := Fx.iabs_bd b b1 b2
  have hc := Fx.iabs_bd c c1 c2
  have hp : 0 ≤ Fx.iabs a * Fx.iabs b := Int.mul_nonneg ha.1 hb.1
  have hP : Fx.iabs a * Fx.iabs b ≤ 9223372036854775808 * 9223372036854775808 := Int.mul_le_mul ha.2 hb.2 hb.1 (by omega)
  have hh : 0 ≤ Fx.iabs a * Fx.iabs b / 18446744073709551616 := by omega
  have hl : 0 ≤ Fx.iabs a * Fx.iabs b % 18446744073709551616 ∧ Fx.iabs a * Fx.iabs b % 18446744073709551616 ≤ 18446744073709551615 := by omega
  by_cases h : Fx.iabs a * Fx.iabs b / 18446744073709551616 < Fx.iabs c
  · have E := Lib.hid (show Fx.iabs a * Fx.iabs b / 18446744073709551616 * 18446744073709551616 + Fx.iabs a * Fx.iabs b % 18446744073709551616 = Fx.iabs a * Fx.iabs b by omega)
    have hcc : c ≠ 0 := by intro e; subst e; have : Fx.iabs 0 = 0 := rfl; omega
    have hcp := Fx.iabs_pos hcc
    have q0 : 0 ≤ Fx.iabs a * Fx.iabs b / Fx.iabs c := Int.ediv_nonneg hp hc.1
    have q1 : Fx.iabs a * Fx.iabs b / Fx.iabs c ≤ 18446744073709551615 := by
      have : Fx.iabs a * Fx.iabs b / Fx.iabs c < 18446744073709551616 := by rw [Int.ediv_lt_iff_lt_mul hcp]; omega
      omega
    by_cases hn : (decide (a < 0) == decide (b < 0)) = decide (c < 0)
    · have F := Fx.muldiv_neg a b c hcc hn
      by_cases hr : (Fx.iabs a * Fx.iabs b) % Fx.iabs c = 0
      · have f := Lib.hid (F.1 hr)
        have hr' : (Fx.iabs a * Fx.iabs b % Fx.iabs c != 0) = false := by simp [hr]
        clear hp hP F hr
        go_enter Try.func51, Try.ntmps51
        go_wp2_with (first | (go_at_call 57; refine (size_any _ (by omega) (by omega) _).mono ?_; rintro e w' ⟨rfl, rfl⟩) | (go_at_call 58; refine (mul64_any _ _ (by omega) (by omega) (by omega) (by omega) _).mono ?_; rintro e w' ⟨rfl, rfl⟩) | (go_at_call 59; refine (div64_any _ _ _ (by omega) (by omega) (by omega) (by omega) (by omega) _).mono ?_; rw [E.out]; rintro e w' ⟨rfl, nq, rfl⟩) | (go_at_call 56; refine (signed_any _ _ (by omega) (by omega) _).mono ?_; rintro e w' ⟨rfl, rfl⟩))
        go_ret2
        refine ⟨ret_ib ?_, nq, rfl⟩
        rw [f.out]; exact Fx.q_fit hcc
      · have f := Lib.hid (F.2 hr)
        have hr' : (Fx.iabs a * Fx.iabs b % Fx.iabs c != 0) = true := by simp [hr]
        by_cases hm : Fx.iabs a * Fx.iabs b / Fx.iabs c = 18446744073709551615
        · have hm' : (Fx.iabs a * Fx.iabs b / Fx.iabs c == 18446744073709551615) = true := by simp [hm]
          have G := Lib.hid (Fx.q_out (b := c) (v := Fx.fl (a * b) c) (.inr (by rw [f.out]; omega)))
          clear hp hP F hr hm
          go_enter Try.func51, Try.ntmps51
          go_wp2_with (first | (go_at_call 57; refine (size_any _ (by omega) (by omega) _).mono ?_; rintro e w' ⟨rfl, rfl⟩) | (go_at_call 58; refine (mul64_any _ _ (by omega) (by omega) (by omega) (by omega) _).mono ?_; rintro e w' ⟨rfl, rfl⟩) | (go_at_call 59; refine (div64_any _ _ _ (by omega) (by omega) (by omega) (by omega) (by omega) _).mono ?_; rw [E.out]; rintro e w' ⟨rfl, nq, rfl⟩) | (go_at_call 56; refine (signed_any _ _ (by omega) (by omega) _).mono ?_; rintro e w' ⟨rfl, rfl⟩))
          go_ret2
          exact ⟨ret_ib G.out, nq, rfl⟩
        · have hm' : (Fx.iabs a * Fx.iabs b / Fx.iabs c == 18446744073709551615) = false := by simp [hm]
          have q2 : Fx.iabs a * Fx.iabs b / Fx.iabs c + 1 ≤ 18446744073709551615 := by omega
          clear hp hP F hr hm
          go_enter Try.func51, Try.ntmps51
          go_wp2_with (first | (go_at_call 57; refine (size_any _ (by omega) (by omega) _).mono ?_; rintro e w' ⟨rfl, rfl⟩) | (go_at_call 58; refine (mul64_any _ _ (by omega) (by omega) (by omega) (by omega) _).mono ?_; rintro e w' ⟨rfl, rfl⟩) | (go_at_call 59; refine (div64_any _ _ _ (by omega) (by omega) (by omega) (by omega) (by omega) _).mono ?_; rw [E.out]; rintro e w' ⟨rfl, nq, rfl⟩) | (go_at_call 56; refine (signed_any _ _ (by omega) (by omega) _).mono ?_; rintro e w' ⟨rfl, rfl⟩))
          go_ret2
          refine ⟨ret_ib ?_, nq, rfl⟩
          rw [f.out]; exact Fx.q_fit hcc
    · have f := Lib.hid (Fx.muldiv_pos a b c hcc hn)
      clear hp hP
      go_enter Try.func51, Try.ntmps51
      go_wp2_with (first | (go_at_call 57; refine (size_any _ (by omega) (by omega) _).mono ?_; rintro e w' ⟨rfl, rfl⟩) | (go_at_call 58; refine (mul64_any _ _ (by omega) (by omega) (by omega) (by omega) _).mono ?_; rintro e w' ⟨rfl, rfl⟩) | (go_at_call 59; refine (div64_any _ _ _ (by omega) (by omega) (by omega) (by omega) (by omega) _).mono ?_; rw [E.out]; rintro e w' ⟨rfl, nq, rfl⟩) | (go_at_call 56; refine (signed_any _ _ (by omega) (by omega) _).mono ?_; rintro e w' ⟨rfl, rfl⟩))
      go_ret2
      refine ⟨ret_ib ?_, nq, rfl⟩
      have e : (!((!(decide (a < 0) == decide (b < 0))) == decide (c < 0))) = false := by
        revert hn; cases decide (a < 0) <;> cases decide (b < 0) <;> cases decide (c < 0) <;> simp
      first | rw [e] | (revert hn; cases decide (a < 0) <;> cases decide (b < 0) <;> cases decide (c < 0) <;> simp)
      rw [f.out]; exact Fx.q_fit hcc
  · have G := Lib.hid (Fx.q_out (Fx.muldiv_far a b c (by omega)))
    clear hp hP
    go_enter Try.func51, Try.ntmps51
    go_wp2_with (first | (go_at_call 57; refine (size_any _ (by omega) (by omega) _).mono ?_; rintro e w' ⟨rfl, rfl⟩) | (go_at_call 58; refine (mul64_any _ _ (by omega) (by omega) (by omega) (by omega) _).mono ?_; rintro e w' ⟨rfl, rfl⟩))
    go_ret2
    exact ⟨ret_ib G.out, 0, rfl⟩
end Go.Proofs.Ytdaedhgbkamjpaa.FxW
