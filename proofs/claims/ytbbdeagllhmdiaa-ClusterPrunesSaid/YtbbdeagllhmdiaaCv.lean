/- Contracts: choose.valid, timesyncref24.within, right. -/
import Derived.Test.YtbbdeagllhmdiaaCx
import Derived.LoopTactic
set_option linter.unusedVariables false
set_option linter.unusedSimpArgs false
namespace Go.Proofs.Ytbbdeagllhmdiaa.CxW
open Go.RowKit
set_option maxHeartbeats 4000000 in
theorem valid_any (a b c d e : Int) (w : World) : Calls Try.prog 35 #[.agg #[.int .i64 a, .int .i64 b, .int .i64 c, .int .i64 d, .int .i64 e]] w fun e' w' => e' = .returned (.bool (Cx.okC a b c d e)) ∧ Below w.heap.size w w' := by
  rcases Cx.parts a b c d e with h | ⟨h, h1⟩ | ⟨h, h1, h2⟩ | ⟨h, h1, h2, h3⟩ | ⟨h, h1, h2, h3, h4⟩ | ⟨h, h1, h2, h3, h4, h5⟩ | ⟨h, h1, h2, h3, h4, h5, h6⟩ | ⟨h, h1, h2, h3, h4, h5, h6, h7⟩ | ⟨h, h1, h2, h3, h4, h5, h6, h7, h8⟩ | ⟨h, h1, h2, h3, h4, h5, h6, h7, h8, h9⟩ | ⟨h, h1, h2, h3, h4, h5, h6, h7, h8, h9⟩
  all_goals
    go_enter Try.func35, Try.ntmps35
    go_wp2
    go_ret
    refine ⟨Hp.ret_bool ?_, by (repeat (first | exact Below.refl _ _ | refine Below.drew ?_ | refine Hp.drewN ?_ _ | refine Below.setCell ?_ (by first | (simp; done) | (simp; omega) | omega) _ | refine Below.alloc ?_ (by first | (simp; done) | (simp; omega) | omega) _ | (refine Hp.step ?_ (by assumption))))⟩
    first | (symm; exact Cx.okC_no (by omega)) | (symm; exact Cx.okC_iff.2 (by omega)) | (rw [Bool.eq_iff_iff, Cx.okC_iff]; simp; omega)
theorem within_any (n lo hi : Int) (w : World) : Calls Try.prog 53 #[.int .i64 n, .int .i64 lo, .int .i64 hi] w fun e w' => e = .returned (.bool (decide (lo ≤ n ∧ n ≤ hi))) ∧ w = w' := by
  by_cases h : lo ≤ n
  · by_cases h2 : n ≤ hi
    · go_enter Try.func53, Try.ntmps53
      go_wp2
      go_ret
      exact ⟨Hp.ret_bool (by simp [h, h2]), rfl⟩
    · go_enter Try.func53, Try.ntmps53
      go_wp2
      go_ret
      exact ⟨Hp.ret_bool (by rw [Bool.eq_iff_iff]; simp; omega), rfl⟩
  · go_enter Try.func53, Try.ntmps53
    go_wp2
    go_ret
    exact ⟨Hp.ret_bool (by rw [Bool.eq_iff_iff]; simp; omega), rfl⟩
theorem within_at (n lo hi : Int) (r : Bool) (h : Hid (decide (lo ≤ n ∧ n ≤ hi) = r)) (w : World) : Calls Try.prog 53 #[.int .i64 n, .int .i64 lo, .int .i64 hi] w fun e w' => e = .returned (.bool r) ∧ w = w' := by
  rw [← h.out]; exact within_any n lo hi w
set_option maxHeartbeats 4000000 in
theorem right_any (a b c d e : Int) (w : World) : Calls Try.prog 39 #[.agg #[.int .i64 a, .int .i64 b, .int .i64 c, .int .i64 d, .int .i64 e]] w fun e' w' => e' = .returned (.bool (Cx.okC a b c d e)) ∧ Below w.heap.size w w' := by
  obtain ⟨r0, h0⟩ : ∃ r, decide (0 ≤ a ∧ a ≤ 2147483647) = r := ⟨_, rfl⟩
  obtain ⟨r1, h1⟩ : ∃ r, decide (-4503599627370496 ≤ b ∧ b ≤ 4503599627370496) = r := ⟨_, rfl⟩
  obtain ⟨r2, h2⟩ : ∃ r, decide (0 ≤ c ∧ c ≤ 9007199254740992) = r := ⟨_, rfl⟩
  obtain ⟨r3, h3⟩ : ∃ r, decide (0 ≤ d ∧ d ≤ 9007199254740992) = r := ⟨_, rfl⟩
  obtain ⟨r4, h4⟩ : ∃ r, decide (1 ≤ e ∧ e ≤ 16) = r := ⟨_, rfl⟩
  have q0 := Lib.hid h0; have q1 := Lib.hid h1; have q2 := Lib.hid h2; have q3 := Lib.hid h3; have q4 := Lib.hid h4
  have hr : Hid (Cx.okC a b c d e = (r0 && r1 && r2 && r3 && r4)) := by
    refine Lib.hid ?_
    rw [← h0, ← h1, ← h2, ← h3, ← h4, Bool.eq_iff_iff, Cx.okC_iff]
    simp only [Bool.and_eq_true, decide_eq_true_eq]
    omega
  clear h0 h1 h2 h3 h4
  cases r0 <;> cases r1 <;> cases r2 <;> cases r3 <;> cases r4
  all_goals
    go_enter Try.func39, Try.ntmps39
    go_wp2_with (first | (go_at_call 53; refine (within_at _ _ _ _ (by assumption) _).mono ?_; rintro e w' ⟨rfl, rfl⟩))
    go_ret
    exact ⟨Hp.ret_bool (by rw [hr.out]; rfl), by (repeat (first | exact Below.refl _ _ | refine Below.drew ?_ | refine Hp.drewN ?_ _ | refine Below.setCell ?_ (by first | (simp; done) | (simp; omega) | omega) _ | refine Below.alloc ?_ (by first | (simp; done) | (simp; omega) | omega) _ | (refine Hp.step ?_ (by assumption))))⟩
end Go.Proofs.Ytbbdeagllhmdiaa.CxW
