/- The law FixedBack of layer 1: its walk. -/
import Derived.Test.YtglmallfpalbhaaAw01
set_option linter.unusedVariables false
namespace Go.Proofs.Ytglmallfpalbhaa.FxW
open Go.RowKit

/-- the facts on a sum, for either outcome -/
def SumFacts (x : Int) : Prop := (Fx.fitOk x = true ∧ Fx.fitV x = x ∧ -9223372036854775808 ≤ x ∧ x ≤ 9223372036854775807) ∨ Fx.fitOk x = false
theorem sumFacts (x : Int) : SumFacts x := by
  by_cases h : Fx.fitOk x = true
  · have := Fx.fitOk_iff.1 h
    exact .inl ⟨h, Fx.fitV_of h, this.1, this.2⟩
  · exact .inr (by simpa using h)
set_option maxHeartbeats 8000000 in
set_option maxRecDepth 100000 in
theorem back_zero (a : Int) (a1 : -9223372036854775808 ≤ a) (a2 : a ≤ 9223372036854775807) (w : World) :
    Calls Try.prog 8 #[.int .i64 a, .int .i64 0] w fun e w' => e = .returned (.bool true) ∧ ∃ n, w' = w.drewN n := by
  have ta : Fx.fitV a = a := (Fx.fit_in a1 a2).1.symm
  have tb : Fx.fitOk a = true := (Fx.fit_in a1 a2).2.symm
  go_enter Try.func8, Try.ntmps8
  go_wp2_with (first | (go_at_call 27; refine (add_any _ _ (by omega) (by omega) (by omega) (by omega) _).mono ?_; rintro e w' ⟨rfl, rfl⟩) | (go_at_call 28; refine (sub_any _ _ (by omega) (by omega) (by omega) (by omega) _).mono ?_; rintro e w' ⟨rfl, rfl⟩) | (go_at_call 17; refine (muldiv_any _ _ _ (by omega) (by omega) (by omega) (by omega) (by omega) (by omega) _).mono ?_; rintro e w' ⟨rfl, nq, rfl⟩) | (go_at_call 26; refine (mul_any _ _ (by omega) (by omega) (by omega) (by omega) _).mono ?_; rintro e w' ⟨rfl, rfl⟩) | (go_at_call 10; refine (floor_any _ _ (by omega) (by omega) (by omega) (by omega) _).mono ?_; rintro e w' ⟨rfl, nq, rfl⟩) | (go_at_call 12; refine (ceil_any _ _ (by omega) (by omega) (by omega) (by omega) _).mono ?_; rintro e w' ⟨rfl, nq, rfl⟩) | (go_at_call 14; refine (near_any _ _ (by omega) (by omega) (by omega) (by omega) _).mono ?_; rintro e w' ⟨rfl, nq, rfl⟩) | (go_at_call 16; refine (awake_any _).mono ?_; rintro e w' ⟨rfl, na, rfl⟩))
  go_ret
  exact ⟨rfl, _, rfl⟩
set_option maxHeartbeats 16000000 in
set_option maxRecDepth 100000 in
theorem back_none (b a : Int) (ea : a = -9223372036854775808) (eb : b = -1) (w : World) :
    Calls Try.prog 8 #[.int .i64 a, .int .i64 b] w fun e w' => e = .returned (.bool true) ∧ ∃ n, w' = w.drewN n := by
  have a1 : -9223372036854775808 ≤ a := by omega
  have a2 : a ≤ 9223372036854775807 := by omega
  have ta : Fx.fitV a = a := (Fx.fit_in a1 a2).1.symm
  have tb : Fx.fitOk a = true := (Fx.fit_in a1 a2).2.symm
  have hb : b ≠ 0 := by omega
  have hz : (b == 0) = false := by simp [hb]
  have md : Fx.qV b (Fx.fl (a * b) b) = a := by rw [Fx.fl_mul a b hb]; exact (Fx.q_in hb a1 a2).1.symm
  have mo : Fx.qOk b (Fx.fl (a * b) b) = true := by rw [Fx.fl_mul a b hb]; exact (Fx.q_in hb a1 a2).2.symm
  have f1 := (Fx.q_out (Fx.fl_none (.inr ⟨ea, eb⟩))).2.symm
  have f2 := (Fx.q_out (Fx.ce_none (.inr ⟨ea, eb⟩))).2.symm
  have f3 := (Fx.q_out (Fx.nr_none (.inr ⟨ea, eb⟩))).2.symm
  have x1 : Fx.fitOk (a + b) = false := by rw [ea, eb]; decide
  have y1 := (Fx.fit_in (v := a - b) (by omega) (by omega)).1.symm
  have y2 := (Fx.fit_in (v := a - b) (by omega) (by omega)).2.symm
  have z1 : Fx.fitOk (a * b) = false := by rw [ea, eb]; decide
  have sa : (a == -9223372036854775808) = true := by simp [ea]
  have sb : (b == -1) = true := by simp [eb]
  have b1 : -1 ≤ b := by omega
  have b2 : b ≤ -1 := by omega
  have a3 : a ≤ -9223372036854775808 := by omega
  clear ea eb hb
  go_enter Try.func8, Try.ntmps8
  go_wp2_with (first | (go_at_call 27; refine (add_any _ _ (by omega) (by omega) (by omega) (by omega) _).mono ?_; rintro e w' ⟨rfl, rfl⟩) | (go_at_call 28; refine (sub_any _ _ (by omega) (by omega) (by omega) (by omega) _).mono ?_; rintro e w' ⟨rfl, rfl⟩) | (go_at_call 17; refine (muldiv_any _ _ _ (by omega) (by omega) (by omega) (by omega) (by omega) (by omega) _).mono ?_; rintro e w' ⟨rfl, nq, rfl⟩) | (go_at_call 26; refine (mul_any _ _ (by omega) (by omega) (by omega) (by omega) _).mono ?_; rintro e w' ⟨rfl, rfl⟩) | (go_at_call 10; refine (floor_any _ _ (by omega) (by omega) (by omega) (by omega) _).mono ?_; rintro e w' ⟨rfl, nq, rfl⟩) | (go_at_call 12; refine (ceil_any _ _ (by omega) (by omega) (by omega) (by omega) _).mono ?_; rintro e w' ⟨rfl, nq, rfl⟩) | (go_at_call 14; refine (near_any _ _ (by omega) (by omega) (by omega) (by omega) _).mono ?_; rintro e w' ⟨rfl, nq, rfl⟩) | (go_at_call 16; refine (awake_any _).mono ?_; rintro e w' ⟨rfl, na, rfl⟩))
  go_ret
  exact ⟨rfl, _, rfl⟩
set_option maxHeartbeats 16000000 in
set_option maxRecDepth 100000 in
theorem back_some (a b f c n : Int) (a1 : -9223372036854775808 ≤ a) (a2 : a ≤ 9223372036854775807) (b1 : -9223372036854775808 ≤ b) (b2 : b ≤ 9223372036854775807) (hb : b ≠ 0)
    (e1 : Fx.qV b (Fx.fl a b) = f) (e2 : Fx.qOk b (Fx.fl a b) = true) (e3 : Fx.qV b (Fx.ce a b) = c) (e4 : Fx.qOk b (Fx.ce a b) = true) (e5 : Fx.qV b (Fx.nr a b) = n) (e6 : Fx.qOk b (Fx.nr a b) = true)
    (u1 : f ≤ c) (u2 : c - f ≤ 1) (u3 : (n == f) = true ∨ ((n == f) = false ∧ (n == c) = true)) (u4 : -9223372036854775808 ≤ f) (u5 : c ≤ 9223372036854775807)
    (X : SumFacts (a + b)) (Y : SumFacts (a - b)) (Z : SumFacts (a * b)) (w : World) :
    Calls Try.prog 8 #[.int .i64 a, .int .i64 b] w fun e w' => e = .returned (.bool true) ∧ ∃ n, w' = w.drewN n := by
  have ta : Fx.fitV a = a := (Fx.fit_in a1 a2).1.symm
  have tb : Fx.fitOk a = true := (Fx.fit_in a1 a2).2.symm
  have hz : (b == 0) = false := by simp [hb]
  have md : Fx.qV b (Fx.fl (a * b) b) = a := by rw [Fx.fl_mul a b hb]; exact (Fx.q_in hb a1 a2).1.symm
  have mo : Fx.qOk b (Fx.fl (a * b) b) = true := by rw [Fx.fl_mul a b hb]; exact (Fx.q_in hb a1 a2).2.symm
  clear hb
  rcases u3 with u3 | ⟨u3, u6⟩ <;> rcases X with ⟨x1, x2, x3, x4⟩ | x1 <;> rcases Y with ⟨y1, y2, y3, y4⟩ | y1 <;> rcases Z with ⟨z1, z2, z3, z4⟩ | z1
  all_goals
    go_enter Try.func8, Try.ntmps8
    go_wp2_with (first | (go_at_call 27; refine (add_any _ _ (by omega) (by omega) (by omega) (by omega) _).mono ?_; rintro e w' ⟨rfl, rfl⟩) | (go_at_call 28; refine (sub_any _ _ (by omega) (by omega) (by omega) (by omega) _).mono ?_; rintro e w' ⟨rfl, rfl⟩) | (go_at_call 17; refine (muldiv_any _ _ _ (by omega) (by omega) (by omega) (by omega) (by omega) (by omega) _).mono ?_; rintro e w' ⟨rfl, nq, rfl⟩) | (go_at_call 26; refine (mul_any _ _ (by omega) (by omega) (by omega) (by omega) _).mono ?_; rintro e w' ⟨rfl, rfl⟩) | (go_at_call 10; refine (floor_any _ _ (by omega) (by omega) (by omega) (by omega) _).mono ?_; rintro e w' ⟨rfl, nq, rfl⟩) | (go_at_call 12; refine (ceil_any _ _ (by omega) (by omega) (by omega) (by omega) _).mono ?_; rintro e w' ⟨rfl, nq, rfl⟩) | (go_at_call 14; refine (near_any _ _ (by omega) (by omega) (by omega) (by omega) _).mono ?_; rintro e w' ⟨rfl, nq, rfl⟩) | (go_at_call 16; refine (awake_any _).mono ?_; rintro e w' ⟨rfl, na, rfl⟩))
    go_ret
    exact ⟨rfl, _, rfl⟩
theorem law_FixedBack (a b : Int) (a1 : -9223372036854775808 ≤ a) (a2 : a ≤ 9223372036854775807) (b1 : -9223372036854775808 ≤ b) (b2 : b ≤ 9223372036854775807) (w : World) :
    Calls Try.prog 8 #[.int .i64 a, .int .i64 b] w fun e w' => e = .returned (.bool true) ∧ ∃ n, w' = w.drewN n := by
  by_cases hb : b = 0
  · subst hb; exact back_zero a a1 a2 w
  · by_cases sp : a = -9223372036854775808 ∧ b = -1
    · exact back_none b a sp.1 sp.2 w
    · obtain ⟨f, c, n, e1, e2, e3, e4, e5, e6, u1, u2, u3, u4, u5⟩ := Fx.neighbours a b a1 a2 hb sp
      refine back_some a b f c n a1 a2 b1 b2 hb e1 e2 e3 e4 e5 e6 u1 u2 ?_ u4 u5 (sumFacts _) (sumFacts _) (sumFacts _) w
      by_cases k : n = f
      · exact .inl (beq_iff_eq.2 k)
      · rcases u3 with u3 | u3
        · exact absurd u3 k
        · exact .inr ⟨beq_eq_false_iff_ne.2 k, beq_iff_eq.2 u3⟩
end Go.Proofs.Ytglmallfpalbhaa.FxW
