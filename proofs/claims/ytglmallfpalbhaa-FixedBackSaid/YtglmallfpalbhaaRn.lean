/- Contracts of the reference of layer 1: Ceil, Near, Sqrt. -/
import Derived.Test.YtglmallfpalbhaaRm
set_option linter.unusedVariables false
namespace Go.Proofs.Ytglmallfpalbhaa.FxW
open Go.RowKit

set_option maxHeartbeats 1000000 in
theorem rceil_any (a b : Int) (a1 : -9223372036854775808 ≤ a) (a2 : a ≤ 9223372036854775807) (b1 : -9223372036854775808 ≤ b) (b2 : b ≤ 9223372036854775807) (w : World) :
    Calls Try.prog 13 #[.int .i64 a, .int .i64 b] w fun e w' => e = .returned (.tuple #[.int .i64 (Fx.qV b (Fx.ce a b)), .bool (Fx.qOk b (Fx.ce a b))]) ∧ w = w' := by
  by_cases h : b = 0 ∨ (a = -9223372036854775808 ∧ b = -1)
  · have H := Lib.hid (Fx.q_out (Fx.ce_none h))
    have z := (Fx.q_out (Fx.fl_none h)).2.symm
    clear h
    go_enter Try.func13, Try.ntmps13
    go_wp2_with (go_at_call 11; refine (rfloor_any a b a1 a2 b1 b2 _).mono ?_; rintro e w' ⟨rfl, rfl⟩)
    go_ret2
    exact ⟨ret_ib H.out, rfl⟩
  · have h0 : b ≠ 0 := fun e => h (.inl e)
    have h1 := fun e => h (.inr e)
    have fb := Fx.fl_bd a b a1 a2 h0 h1
    obtain ⟨q, r, hq, hqr, hr⟩ := Fx.fl_facts a b h0
    have hn := Fx.ce_of_fl hqr hr
    have C := fun w => rfloor_any a b a1 a2 b1 b2 w
    rw [hq] at C fb
    obtain ⟨e1, e2⟩ := Fx.q_in h0 fb.1 fb.2
    rw [← e1, ← e2] at C
    have D := Lib.hid C
    clear C e1 e2 h h1
    by_cases hz : r = 0
    · have hp : q * b = a := by omega
      have M : Fx.fitOk (q * b) = true := by rw [hp]; exact Fx.fitOk_true a1 a2
      have M2 : (Fx.fitV (q * b) == a) = true := by rw [Fx.fitV_of M, hp]; simp
      have F := Lib.hid (Fx.q_in' (b := b) (x := q) (v := Fx.ce a b) h0 (hn.1 hz).symm (by omega) (by omega))
      clear hn hq hqr hz hp hr
      go_enter Try.func13, Try.ntmps13
      go_wp2_with (first | (go_at_call 11; refine (D.out _).mono ?_; rintro e w' ⟨rfl, rfl⟩) | (go_at_call 31; refine (rmul_any _ _ (by omega) (by omega) (by omega) (by omega) _).mono ?_; rintro e w' ⟨rfl, rfl⟩))
      go_ret2
      exact ⟨ret_ib F.out, rfl⟩
    · have up : q + 1 ≤ 9223372036854775807 := Fx.nr_up a1 a2 h0 hq hz (by unfold Fx.iabs; split <;> split <;> omega)
      have F := Lib.hid (Fx.q_in' (b := b) (x := q + 1) (v := Fx.ce a b) h0 (hn.2 hz).symm (by omega) (by omega))
      have G := Lib.hid (Fx.fit_in (v := q + 1) (by omega) (by omega))
      have hp : q * b ≠ a := by omega
      by_cases M : Fx.fitOk (q * b) = true
      · have M2 : (Fx.fitV (q * b) == a) = false := by rw [Fx.fitV_of M]; simpa using hp
        clear hn hq hqr hz hp hr
        go_enter Try.func13, Try.ntmps13
        go_wp2_with (first | (go_at_call 11; refine (D.out _).mono ?_; rintro e w' ⟨rfl, rfl⟩) | (go_at_call 31; refine (rmul_any _ _ (by omega) (by omega) (by omega) (by omega) _).mono ?_; rintro e w' ⟨rfl, rfl⟩) | (go_at_call 29; refine (radd_any _ _ (by omega) (by omega) (by omega) (by omega) _).mono ?_; rintro e w' ⟨rfl, rfl⟩))
        go_ret2
        exact ⟨ret_ib ⟨G.out.1.symm.trans F.out.1, G.out.2.symm.trans F.out.2⟩, rfl⟩
      · have M : Fx.fitOk (q * b) = false := by simpa using M
        clear hn hq hqr hz hp hr
        go_enter Try.func13, Try.ntmps13
        go_wp2_with (first | (go_at_call 11; refine (D.out _).mono ?_; rintro e w' ⟨rfl, rfl⟩) | (go_at_call 31; refine (rmul_any _ _ (by omega) (by omega) (by omega) (by omega) _).mono ?_; rintro e w' ⟨rfl, rfl⟩) | (go_at_call 29; refine (radd_any _ _ (by omega) (by omega) (by omega) (by omega) _).mono ?_; rintro e w' ⟨rfl, rfl⟩))
        go_ret2
        exact ⟨ret_ib ⟨G.out.1.symm.trans F.out.1, G.out.2.symm.trans F.out.2⟩, rfl⟩
theorem near_closed {a b q r : Int} (h0 : b ≠ 0) (N : Fx.nr a b = if Fx.iabs b < 2 * Fx.iabs r ∨ Fx.iabs b = 2 * Fx.iabs r ∧ q % 2 ≠ 0 then q + 1 else q) (q1 : -9223372036854775808 ≤ q) (q2 : q ≤ 9223372036854775807)
    (up : r ≠ 0 → q + 1 ≤ 9223372036854775807) (ir : 0 ≤ Fx.iabs r ∧ Fx.iabs r < Fx.iabs b) :
    ((Fx.iabs b < 2 * Fx.iabs r ∨ Fx.iabs b = 2 * Fx.iabs r ∧ q % 2 ≠ 0) → q + 1 ≤ 9223372036854775807 ∧ q + 1 = Fx.qV b (Fx.nr a b) ∧ true = Fx.qOk b (Fx.nr a b)) ∧
    (¬ (Fx.iabs b < 2 * Fx.iabs r ∨ Fx.iabs b = 2 * Fx.iabs r ∧ q % 2 ≠ 0) → q = Fx.qV b (Fx.nr a b) ∧ true = Fx.qOk b (Fx.nr a b)) := by
  constructor
  · intro h
    have up := up (by intro e; subst e; have : Fx.iabs 0 = 0 := rfl; omega)
    exact ⟨up, Fx.q_in' h0 (by rw [N, if_pos h]) (by omega) up⟩
  · intro h; exact Fx.q_in' h0 (by rw [N, if_neg h]) q1 q2
set_option maxHeartbeats 4000000 in
theorem rnear_any (a b : Int) (a1 : -9223372036854775808 ≤ a) (a2 : a ≤ 9223372036854775807) (b1 : -9223372036854775808 ≤ b) (b2 : b ≤ 9223372036854775807) (w : World) :
    Calls Try.prog 15 #[.int .i64 a, .int .i64 b] w fun e w' => e = .returned (.tuple #[.int .i64 (Fx.qV b (Fx.nr a b)), .bool (Fx.qOk b (Fx.nr a b))]) ∧ w = w' := by
  by_cases h : b = 0 ∨ (a = -9223372036854775808 ∧ b = -1)
  · have H := Lib.hid (Fx.q_out (Fx.nr_none h))
    have z := (Fx.q_out (Fx.fl_none h)).2.symm
    clear h
    go_enter Try.func15, Try.ntmps15
    go_wp2_with (go_at_call 11; refine (rfloor_any a b a1 a2 b1 b2 _).mono ?_; rintro e w' ⟨rfl, rfl⟩)
    go_ret2
    exact ⟨ret_ib H.out, rfl⟩
  · have h0 : b ≠ 0 := fun e => h (.inl e)
    have h1 := fun e => h (.inr e)
    have fb := Fx.fl_bd a b a1 a2 h0 h1
    obtain ⟨q, r, hq, hqr, hr⟩ := Fx.fl_facts a b h0
    have C := fun w => rfloor_any a b a1 a2 b1 b2 w
    rw [hq] at C fb
    obtain ⟨e1, e2⟩ := Fx.q_in h0 fb.1 fb.2
    rw [← e1, ← e2] at C
    have D := Lib.hid C
    have ir : 0 ≤ Fx.iabs r ∧ Fx.iabs r < Fx.iabs b := by unfold Fx.iabs; split <;> split <;> omega
    have ib := Fx.iabs_bd b b1 b2
    have ia := Fx.iabs_bd a a1 a2
    have ibp := Fx.iabs_pos h0
    have up : r ≠ 0 → q + 1 ≤ 9223372036854775807 := fun e => Fx.nr_up a1 a2 h0 hq e ir.2
    have NC := near_closed h0 (Fx.nr_eq hq hqr) fb.1 fb.2 up ir
    have R := Fx.near_rem h0 hqr hr
    have em := Int.emod_nonneg (Fx.iabs a) (b := Fx.iabs b) (by omega)
    have el := Int.emod_lt_of_pos (Fx.iabs a) ibp
    have qm : (q.tmod 2 != 0) = decide (q % 2 ≠ 0) := by
      have l1 : (q.tmod 2).natAbs = q.natAbs % 2 := Int.natAbs_tmod q 2
      by_cases hz : q.tmod 2 = 0
      · have : q % 2 = 0 := by omega
        simp [hz, this]
      · have : q % 2 ≠ 0 := by omega
        simp [hz, this]
    have Da := fun (w : World) => rdivide_any 0 (Fx.iabs a) (Fx.iabs b) (by omega) (by omega) (by omega) (by omega) ibp (by omega) w
    simp only [Int.zero_mul, Int.zero_add] at Da
    have DD := Lib.hid Da
    obtain ⟨R1, R2, R3⟩ := R
    clear C e1 e2 h h1 hq hqr hr up Da
    generalize Fx.iabs a % Fx.iabs b = x at *
    -- what is left above the quotient: y
    obtain ⟨y, hy⟩ : ∃ y, y = Fx.iabs r := ⟨_, rfl⟩
    rw [← hy] at NC R1 R2 R3 ir
    clear hy
    have key : (x = y ∧ decide (0 < x) = false) ∨ (x = y ∧ decide (0 < x) = true ∧ (decide (a < 0) == decide (b < 0)) = true) ∨ (Fx.iabs b - x = y ∧ 0 < x ∧ (decide (a < 0) == decide (b < 0)) = false) := by
      by_cases hx : x = 0
      · left; exact ⟨by have := R2 hx; omega, decide_eq_false (by omega)⟩
      · by_cases hs : (decide (a < 0) == decide (b < 0)) = true
        · right; left; exact ⟨R1 hs, decide_eq_true (by omega), hs⟩
        · right; right; have hs : (decide (a < 0) == decide (b < 0)) = false := by simpa using hs
          exact ⟨R3 hs (by omega), by omega, hs⟩
    clear R1 R2 R3
    have up2 : (Fx.iabs b < 2 * y ∨ Fx.iabs b = 2 * y ∧ q % 2 ≠ 0) ∨ ¬ (Fx.iabs b < 2 * y ∨ Fx.iabs b = 2 * y ∧ q % 2 ≠ 0) := Classical.em _
    -- the three ways to the distance y
    have main : ∀ x : Int, 0 ≤ x → x < Fx.iabs b → Hid (∀ (w : World), Calls Try.prog 36 #[.int .u64 0, .int .u64 (Fx.iabs a), .int .u64 (Fx.iabs b)] w fun e w' => e = .returned (.tuple #[.int .u64 (Fx.iabs a / Fx.iabs b / 18446744073709551616), .int .u64 (Fx.iabs a / Fx.iabs b % 18446744073709551616), .int .u64 x]) ∧ w = w') →
        ((x = y ∧ decide (0 < x) = false) ∨ (x = y ∧ decide (0 < x) = true ∧ (!decide (a < 0) == decide (b < 0)) = false) ∨ (Fx.iabs b - x = y ∧ decide (0 < x) = true ∧ (!decide (a < 0) == decide (b < 0)) = true)) →
        Calls Try.prog 15 #[.int .i64 a, .int .i64 b] w fun e w' => e = .returned (.tuple #[.int .i64 (Fx.qV b (Fx.nr a b)), .bool (Fx.qOk b (Fx.nr a b))]) ∧ w = w' := by
      intro x x0 x1 DX hk
      clear DD em el key
      rcases up2 with c | c
      · obtain ⟨u, F0⟩ := NC.1 c
        have F := Lib.hid F0
        clear F0
        have G := Lib.hid (Fx.fit_in (v := q + 1) (by omega) u)
        clear NC
        by_cases c1 : Fx.iabs b < 2 * y
        · clear c qm
          rcases hk with ⟨rfl, k⟩ | ⟨rfl, k2, k⟩ | ⟨rfl, k2, k3⟩
          all_goals
            go_enter Try.func15, Try.ntmps15
            go_wp2_with (first | (go_at_call 11; refine (D.out _).mono ?_; rintro e w' ⟨rfl, rfl⟩) | (go_at_call 37; refine (rsize_any _ (by omega) (by omega) _).mono ?_; rintro e w' ⟨rfl, rfl⟩) | (go_at_call 36; refine (DX.out _).mono ?_; rintro e w' ⟨rfl, rfl⟩) | (go_at_call 29; refine (radd_any _ _ (by omega) (by omega) (by omega) (by omega) _).mono ?_; rintro e w' ⟨rfl, rfl⟩))
            go_ret2
            exact ⟨ret_ib ⟨G.out.1.symm.trans F.out.1, G.out.2.symm.trans F.out.2⟩, rfl⟩
        · have c2 : Fx.iabs b = 2 * y := by omega
          have c3 : (q.tmod 2 != 0) = true := by rw [qm]; exact decide_eq_true (by omega)
          have hk2 : (decide (0 < x) = false) ∨ (decide (0 < x) = true ∧ (!decide (a < 0) == decide (b < 0)) = false) ∨ (decide (0 < x) = true ∧ (!decide (a < 0) == decide (b < 0)) = true) := by
            rcases hk with ⟨_, k⟩ | ⟨_, k2, k⟩ | ⟨_, k2, k3⟩
            · exact .inl k
            · exact .inr (.inl ⟨k2, k⟩)
            · exact .inr (.inr ⟨k2, k3⟩)
          obtain rfl : x = y := by rcases hk with ⟨k, _⟩ | ⟨k, _⟩ | ⟨k, _⟩ <;> omega
          have DX1 := DX.out
          rw [c2] at DX1
          have DX2 := Lib.hid DX1
          clear hk DX DX1
          rw [c2] at ibp ir ib x1
          have c6 : 2 * x - x = x := by omega
          clear c qm c1
          rcases hk2 with k | ⟨k2, k⟩ | ⟨k2, k⟩
          all_goals
            go_enter Try.func15, Try.ntmps15
            go_wp2_with (first | (go_at_call 11; refine (D.out _).mono ?_; rintro e w' ⟨rfl, rfl⟩) | (go_at_call 37; refine (rsize_any _ (by omega) (by omega) _).mono ?_; (try rw [c2]); rintro e w' ⟨rfl, rfl⟩) | (go_at_call 36; refine (DX2.out _).mono ?_; rintro e w' ⟨rfl, rfl⟩) | (go_at_call 29; refine (radd_any _ _ (by omega) (by omega) (by omega) (by omega) _).mono ?_; rintro e w' ⟨rfl, rfl⟩))
            go_ret2
            exact ⟨ret_ib ⟨G.out.1.symm.trans F.out.1, G.out.2.symm.trans F.out.2⟩, rfl⟩
      · have F := Lib.hid (NC.2 c)
        clear NC
        have c4 : ¬ Fx.iabs b - y < y := by omega
        by_cases c5 : y = Fx.iabs b - y
        · have c2 : Fx.iabs b = 2 * y := by omega
          have c3 : (q.tmod 2 != 0) = false := by rw [qm]; exact decide_eq_false (by omega)
          have hk2 : (decide (0 < x) = false) ∨ (decide (0 < x) = true ∧ (!decide (a < 0) == decide (b < 0)) = false) ∨ (decide (0 < x) = true ∧ (!decide (a < 0) == decide (b < 0)) = true) := by
            rcases hk with ⟨_, k⟩ | ⟨_, k2, k⟩ | ⟨_, k2, k3⟩
            · exact .inl k
            · exact .inr (.inl ⟨k2, k⟩)
            · exact .inr (.inr ⟨k2, k3⟩)
          obtain rfl : x = y := by rcases hk with ⟨k, _⟩ | ⟨k, _⟩ | ⟨k, _⟩ <;> omega
          have DX1 := DX.out
          rw [c2] at DX1
          have DX2 := Lib.hid DX1
          clear hk DX DX1
          rw [c2] at ibp ir ib x1
          have c6 : 2 * x - x = x := by omega
          clear c qm c4 c5
          rcases hk2 with k | ⟨k2, k⟩ | ⟨k2, k⟩
          all_goals
            go_enter Try.func15, Try.ntmps15
            go_wp2_with (first | (go_at_call 11; refine (D.out _).mono ?_; rintro e w' ⟨rfl, rfl⟩) | (go_at_call 37; refine (rsize_any _ (by omega) (by omega) _).mono ?_; (try rw [c2]); rintro e w' ⟨rfl, rfl⟩) | (go_at_call 36; refine (DX2.out _).mono ?_; rintro e w' ⟨rfl, rfl⟩) | (go_at_call 29; refine (radd_any _ _ (by omega) (by omega) (by omega) (by omega) _).mono ?_; rintro e w' ⟨rfl, rfl⟩))
            go_ret2
            exact ⟨ret_ib F.out, rfl⟩
        · have c2' : y < Fx.iabs b - y := by omega
          clear c qm c5
          rcases hk with ⟨rfl, k⟩ | ⟨rfl, k2, k⟩ | ⟨rfl, k2, k3⟩
          all_goals
            go_enter Try.func15, Try.ntmps15
            go_wp2_with (first | (go_at_call 11; refine (D.out _).mono ?_; rintro e w' ⟨rfl, rfl⟩) | (go_at_call 37; refine (rsize_any _ (by omega) (by omega) _).mono ?_; rintro e w' ⟨rfl, rfl⟩) | (go_at_call 36; refine (DX.out _).mono ?_; rintro e w' ⟨rfl, rfl⟩))
            go_ret2
            exact ⟨ret_ib F.out, rfl⟩
    refine main x em el DD ?_
    rcases key with ⟨k1, k2⟩ | ⟨k1, k2, k3⟩ | ⟨k1, k2, k3⟩
    · exact .inl ⟨k1, k2⟩
    · exact .inr (.inl ⟨k1, k2, by revert k3; cases decide (a < 0) <;> cases decide (b < 0) <;> simp⟩)
    · exact .inr (.inr ⟨k1, decide_eq_true k2, by revert k3; cases decide (a < 0) <;> cases decide (b < 0) <;> simp⟩)
end Go.Proofs.Ytglmallfpalbhaa.FxW
