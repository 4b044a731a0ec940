/- The contract of fixed.Near. -/
import Derived.Test.YtglmallfpalbhaaFw
set_option linter.unusedVariables false
namespace Go.Proofs.Ytglmallfpalbhaa.FxW
open Go.RowKit

theorem and_one (q : Int) : bits .and .i64 q 1 = q % 2 := by
  have e : (BitVec.ofInt 64 q &&& BitVec.ofInt 64 1).toNat = (q % 2).toNat := by
    rw [BitVec.toNat_and]
    have h1 : (BitVec.ofInt 64 1).toNat = 1 := by decide
    rw [h1, Nat.and_one_is_mod, BitVec.toNat_ofInt]; omega
  show IntKind.i64.wrap ((BitVec.ofInt 64 q &&& BitVec.ofInt 64 1).toNat : Int) = _
  rw [e, IntKind.wrap_i64]; omega
set_option maxHeartbeats 1000000 in
theorem near_any (a b : Int) (a1 : -9223372036854775808 ≤ a) (a2 : a ≤ 9223372036854775807) (b1 : -9223372036854775808 ≤ b) (b2 : b ≤ 9223372036854775807) (w : World) :
    Calls Try.prog 14 #[.int .i64 a, .int .i64 b] w fun e w' => e = .returned (.tuple #[.int .i64 (Fx.qV b (Fx.nr a b)), .bool (Fx.qOk b (Fx.nr a b))]) ∧ ∃ n, w' = w.drewN n := by
  by_cases h : b = 0 ∨ (a = -9223372036854775808 ∧ b = -1)
  · have H := Lib.hid (Fx.q_out (Fx.nr_none h))
    have z := (Fx.q_out (Fx.fl_none h)).2.symm
    clear h
    go_enter Try.func14, Try.ntmps14
    go_wp2_with (go_at_call 10; refine (floor_any a b a1 a2 b1 b2 _).mono ?_; rintro e w' ⟨rfl, nq, rfl⟩)
    go_ret2
    exact ⟨ret_ib H.out, nq, rfl⟩
  · have h0 : b ≠ 0 := fun e => h (.inl e)
    have h1 := fun e => h (.inr e)
    have fb := Fx.fl_bd a b a1 a2 h0 h1
    obtain ⟨q, r, hq, hqr, hr⟩ := Fx.fl_facts a b h0
    have hn := Fx.nr_eq hq hqr
    have C := fun w => floor_any a b a1 a2 b1 b2 w
    rw [hq] at C fb
    obtain ⟨e1, e2⟩ := Fx.q_in h0 fb.1 fb.2
    rw [← e1, ← e2] at C
    have hm : wrap64 (a - wrap64 (q * b)) = r := by unfold wrap64; omega
    have D := Lib.hid C
    have M := Lib.hid hm
    have N := Lib.hid hn
    have QR := Lib.hid hqr
    have ir : 0 ≤ Fx.iabs r ∧ Fx.iabs r < Fx.iabs b := by unfold Fx.iabs; split <;> split <;> omega
    have ib := Fx.iabs_bd b b1 b2
    have rb : -9223372036854775808 ≤ r ∧ r ≤ 9223372036854775807 := by omega
    have up : r ≠ 0 → q + 1 ≤ 9223372036854775807 := fun e => Fx.nr_up a1 a2 h0 hq e ir.2
    have par : q % 2 = 0 ∨ q % 2 = 1 := by omega
    clear C hm e1 e2 h h1 hq hn hqr
    have A := Lib.hid (and_one q)
    by_cases k : Fx.iabs b < 2 * Fx.iabs r
    · have up := up (by intro e; subst e; unfold Fx.iabs at k; omega)
      have F := Lib.hid (Fx.q_in' (b := b) (x := q + 1) (v := Fx.nr a b) h0 (by rw [N.out, if_pos (.inl k)]) (by omega) up)
      clear hr
      go_enter Try.func14, Try.ntmps14
      go_wp2_with (first | (go_at_call 10; refine (D.out _).mono ?_; rintro e w' ⟨rfl, nq, rfl⟩) | (go_at_call 35; first | rw [M.out] | skip; refine (size_any _ (by omega) (by omega) _).mono ?_; rintro e w' ⟨rfl, rfl⟩))
      go_ret2
      exact ⟨ret_ib F.out, nq, rfl⟩
    · by_cases k2 : Fx.iabs b = 2 * Fx.iabs r
      · have up := up (by intro e; subst e; unfold Fx.iabs at k2; split at k2 <;> omega)
        have k3 : ¬ (Fx.iabs b - Fx.iabs r < Fx.iabs r) := by omega
        have k4 : (Fx.iabs r == Fx.iabs b - Fx.iabs r) = true := by simp; omega
        by_cases k5 : q % 2 ≠ 0
        · have F := Lib.hid (Fx.q_in' (b := b) (x := q + 1) (v := Fx.nr a b) h0 (by rw [N.out, if_pos (.inr ⟨k2, k5⟩)]) (by omega) up)
          have A' : (bits .and .i64 q 1 != 0) = true := by rw [A.out]; simpa using k5
          clear hr k2 k par k5
          go_enter Try.func14, Try.ntmps14
          go_wp2_with (first | (go_at_call 10; refine (D.out _).mono ?_; rintro e w' ⟨rfl, nq, rfl⟩) | (go_at_call 35; first | rw [M.out] | skip; refine (size_any _ (by omega) (by omega) _).mono ?_; rintro e w' ⟨rfl, rfl⟩))
          go_ret2
          exact ⟨ret_ib F.out, nq, rfl⟩
        · have F := Lib.hid (Fx.q_in' (b := b) (x := q) (v := Fx.nr a b) h0 (by rw [N.out, if_neg (by omega)]) (by omega) (by omega))
          have A' : (bits .and .i64 q 1 != 0) = false := by rw [A.out]; simpa using k5
          clear hr k2 k par k5
          go_enter Try.func14, Try.ntmps14
          go_wp2_with (first | (go_at_call 10; refine (D.out _).mono ?_; rintro e w' ⟨rfl, nq, rfl⟩) | (go_at_call 35; first | rw [M.out] | skip; refine (size_any _ (by omega) (by omega) _).mono ?_; rintro e w' ⟨rfl, rfl⟩))
          go_ret2
          exact ⟨ret_ib F.out, nq, rfl⟩
      · have F := Lib.hid (Fx.q_in' (b := b) (x := q) (v := Fx.nr a b) h0 (by rw [N.out, if_neg (by omega)]) (by omega) (by omega))
        have k3 : ¬ (Fx.iabs b - Fx.iabs r < Fx.iabs r) := by omega
        have k4 : (Fx.iabs r == Fx.iabs b - Fx.iabs r) = false := by simp; omega
        clear hr k2 k par up
        go_enter Try.func14, Try.ntmps14
        go_wp2_with (first | (go_at_call 10; refine (D.out _).mono ?_; rintro e w' ⟨rfl, nq, rfl⟩) | (go_at_call 35; first | rw [M.out] | skip; refine (size_any _ (by omega) (by omega) _).mono ?_; rintro e w' ⟨rfl, rfl⟩))
        go_ret2
        exact ⟨ret_ib F.out, nq, rfl⟩
end Go.Proofs.Ytglmallfpalbhaa.FxW
