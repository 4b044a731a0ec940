/- Contracts of the reference of layer 1: MulDiv and what leans on it; sums. -/
import Derived.Test.YtdaedhgbkamjpaaRw
set_option linter.unusedVariables false
set_option linter.unusedSimpArgs false
namespace Go.Proofs.Ytdaedhgbkamjpaa.FxW
open Go.RowKit

theorem rdivide_any (hi lo c : Int) (h0 : 0 ≤ hi) (h1 : hi ≤ 18446744073709551615) (l0 : 0 ≤ lo) (l1 : lo ≤ 18446744073709551615) (c0 : 0 < c) (c1 : c ≤ 9223372036854775808) (w : World) :
    Calls Try.prog 72 #[.int .u64 hi, .int .u64 lo, .int .u64 c] w fun e w' => e = .returned (.tuple #[.int .u64 ((hi * 18446744073709551616 + lo) / c / 18446744073709551616), .int .u64 ((hi * 18446744073709551616 + lo) / c % 18446744073709551616), .int .u64 ((hi * 18446744073709551616 + lo) % c)]) ∧ w = w' := by
  obtain ⟨a, rfl⟩ := Int.eq_ofNat_of_zero_le h0
  obtain ⟨b, rfl⟩ := Int.eq_ofNat_of_zero_le l0
  obtain ⟨d, rfl⟩ := Int.eq_ofNat_of_zero_le (show 0 ≤ c by omega)
  have e : (a : Int) * 18446744073709551616 + (b : Int) = ((a * 18446744073709551616 + b : Nat) : Int) := by simp
  rw [e, ← Int.natCast_ediv, ← Int.natCast_emod]
  refine (rdivide_nat a b d (by omega) (by omega) (by omega) (by omega) w).mono ?_
  rintro e w' ⟨⟨q1, q0, r, rfl, k1, k0, hq, hr⟩, rfl⟩
  rw [← hq, ← hr]
  have m1 : ((q1 * 18446744073709551616 + q0 : Nat) : Int) / 18446744073709551616 = q1 := by omega
  have m0 : ((q1 * 18446744073709551616 + q0 : Nat) : Int) % 18446744073709551616 = q0 := by omega
  rw [m1, m0]
  exact ⟨rfl, rfl⟩
set_option maxHeartbeats 1000000 in
theorem rmuldiv_any (a b c : Int) (a1 : -9223372036854775808 ≤ a) (a2 : a ≤ 9223372036854775807) (b1 : -9223372036854775808 ≤ b) (b2 : b ≤ 9223372036854775807)
    (c1 : -9223372036854775808 ≤ c) (c2 : c ≤ 9223372036854775807) (w : World) :
    Calls Try.prog 55 #[.int .i64 a, .int .i64 b, .int .i64 c] w fun e w' => e = .returned (.tuple #[.int .i64 (Fx.qV c (Fx.fl (a * b) c)), .bool (Fx.qOk c (Fx.fl (a * b) c))]) ∧ w = w' := by
  by_cases hcc : c = 0
  · subst hcc
    go_enter Try.func55, Try.ntmps55
    go_wp2
    go_ret2
    exact ⟨rfl, rfl⟩
  have hz : (c == 0) = false := by simp [hcc]
  have ha := Fx.iabs_bd a a1 a2
  have hb := Fx.iabs_bd b b1 b2
  have hc := Fx.iabs_bd c c1 c2
  have hp : 0 ≤ Fx.iabs a * Fx.iabs b := Int.mul_nonneg ha.1 hb.1
  have hP : Fx.iabs a * Fx.iabs b ≤ 9223372036854775808 * 9223372036854775808 := Int.mul_le_mul ha.2 hb.2 hb.1 (by omega)
  have hh : 0 ≤ Fx.iabs a * Fx.iabs b / 18446744073709551616 ∧ Fx.iabs a * Fx.iabs b / 18446744073709551616 ≤ 18446744073709551615 := by omega
  have hl : 0 ≤ Fx.iabs a * Fx.iabs b % 18446744073709551616 ∧ Fx.iabs a * Fx.iabs b % 18446744073709551616 ≤ 18446744073709551615 := by omega
  have E := Lib.hid (show Fx.iabs a * Fx.iabs b / 18446744073709551616 * 18446744073709551616 + Fx.iabs a * Fx.iabs b % 18446744073709551616 = Fx.iabs a * Fx.iabs b by omega)
  have hcp := Fx.iabs_pos hcc
  have q0 : 0 ≤ Fx.iabs a * Fx.iabs b / Fx.iabs c := Int.ediv_nonneg hp hc.1
  have q1 : Fx.iabs a * Fx.iabs b / Fx.iabs c ≤ 85070591730234615865843651857942052864 := by
    have := Int.ediv_le_self (Fx.iabs c) hp; omega
  have qq : 0 ≤ Fx.iabs a * Fx.iabs b / Fx.iabs c / 18446744073709551616 ∧ Fx.iabs a * Fx.iabs b / Fx.iabs c / 18446744073709551616 ≤ 18446744073709551614 := by omega
  have qr : 0 ≤ Fx.iabs a * Fx.iabs b / Fx.iabs c % 18446744073709551616 ∧ Fx.iabs a * Fx.iabs b / Fx.iabs c % 18446744073709551616 ≤ 18446744073709551615 := by omega
  have QS := Lib.hid (show Fx.iabs a * Fx.iabs b / Fx.iabs c / 18446744073709551616 * 18446744073709551616 + Fx.iabs a * Fx.iabs b / Fx.iabs c % 18446744073709551616 = Fx.iabs a * Fx.iabs b / Fx.iabs c by omega)
  have rr := Int.emod_nonneg (Fx.iabs a * Fx.iabs b) (b := Fx.iabs c) (by omega)
  by_cases hn : (decide (a < 0) == decide (b < 0)) = decide (c < 0)
  · have F := Fx.muldiv_neg a b c hcc hn
    by_cases hr : (Fx.iabs a * Fx.iabs b) % Fx.iabs c = 0
    · have f := Lib.hid (F.1 hr)
      have hr' : ¬ 0 < Fx.iabs a * Fx.iabs b % Fx.iabs c := by omega
      clear hp hP F hr q0 q1
      go_enter Try.func55, Try.ntmps55
      go_wp2_with (first | (go_at_call 71; refine (rsize_any _ (by omega) (by omega) _).mono ?_; rintro e w' ⟨rfl, rfl⟩) | (go_at_call 70; refine (product_any _ _ (by omega) (by omega) (by omega) (by omega) _).mono ?_; rintro e w' ⟨rfl, rfl⟩) | (go_at_call 72; refine (rdivide_any _ _ _ (by omega) (by omega) (by omega) (by omega) (by omega) (by omega) _).mono ?_; rw [E.out]; rintro e w' ⟨rfl, rfl⟩) | (go_at_call 73; refine (rsigned_any _ _ _ (by omega) (by omega) (by omega) (by omega) _).mono ?_; rintro e w' ⟨rfl, rfl⟩))
      go_ret2
      refine ⟨ret_ib ?_, rfl⟩
      rw [QS.out, f.out]; exact Fx.q_fit hcc
    · have f := Lib.hid (F.2 hr)
      have hr' : 0 < Fx.iabs a * Fx.iabs b % Fx.iabs c := by omega
      by_cases hm : Fx.iabs a * Fx.iabs b / Fx.iabs c % 18446744073709551616 = 18446744073709551615
      · have hm' : IntKind.u64.wrap (Fx.iabs a * Fx.iabs b / Fx.iabs c % 18446744073709551616 + 1) = 0 := by rw [hm]; rfl
        have S := Lib.hid (show (Fx.iabs a * Fx.iabs b / Fx.iabs c / 18446744073709551616 + 1) * 18446744073709551616 = Fx.iabs a * Fx.iabs b / Fx.iabs c + 1 by omega)
        clear hp hP F hr hm q0 q1
        go_enter Try.func55, Try.ntmps55
        go_wp2_with (first | (go_at_call 71; refine (rsize_any _ (by omega) (by omega) _).mono ?_; rintro e w' ⟨rfl, rfl⟩) | (go_at_call 70; refine (product_any _ _ (by omega) (by omega) (by omega) (by omega) _).mono ?_; rintro e w' ⟨rfl, rfl⟩) | (go_at_call 72; refine (rdivide_any _ _ _ (by omega) (by omega) (by omega) (by omega) (by omega) (by omega) _).mono ?_; rw [E.out]; rintro e w' ⟨rfl, rfl⟩) | (go_at_call 73; refine (rsigned_any _ _ _ (by omega) (by omega) (by omega) (by omega) _).mono ?_; rintro e w' ⟨rfl, rfl⟩))
        go_ret2
        refine ⟨ret_ib ?_, rfl⟩
        rw [S.out, f.out]; exact Fx.q_fit hcc
      · have hm' : Fx.iabs a * Fx.iabs b / Fx.iabs c % 18446744073709551616 + 1 ≤ 18446744073709551615 := by omega
        have hm2 : (Fx.iabs a * Fx.iabs b / Fx.iabs c % 18446744073709551616 + 1 == 0) = false := by simp; omega
        have S := Lib.hid (show Fx.iabs a * Fx.iabs b / Fx.iabs c / 18446744073709551616 * 18446744073709551616 + (Fx.iabs a * Fx.iabs b / Fx.iabs c % 18446744073709551616 + 1) = Fx.iabs a * Fx.iabs b / Fx.iabs c + 1 by omega)
        clear hp hP F hr hm q0 q1
        go_enter Try.func55, Try.ntmps55
        go_wp2_with (first | (go_at_call 71; refine (rsize_any _ (by omega) (by omega) _).mono ?_; rintro e w' ⟨rfl, rfl⟩) | (go_at_call 70; refine (product_any _ _ (by omega) (by omega) (by omega) (by omega) _).mono ?_; rintro e w' ⟨rfl, rfl⟩) | (go_at_call 72; refine (rdivide_any _ _ _ (by omega) (by omega) (by omega) (by omega) (by omega) (by omega) _).mono ?_; rw [E.out]; rintro e w' ⟨rfl, rfl⟩) | (go_at_call 73; refine (rsigned_any _ _ _ (by omega) (by omega) (by omega) (by omega) _).mono ?_; rintro e w' ⟨rfl, rfl⟩))
        go_ret2
        refine ⟨ret_ib ?_, rfl⟩
        rw [S.out, f.out]; exact Fx.q_fit hcc
  · have f := Lib.hid (Fx.muldiv_pos a b c hcc hn)
    clear hp hP q0 q1
    go_enter Try.func55, Try.ntmps55
    go_wp2_with (first | (go_at_call 71; refine (rsize_any _ (by omega) (by omega) _).mono ?_; rintro e w' ⟨rfl, rfl⟩) | (go_at_call 70; refine (product_any _ _ (by omega) (by omega) (by omega) (by omega) _).mono ?_; rintro e w' ⟨rfl, rfl⟩) | (go_at_call 72; refine (rdivide_any _ _ _ (by omega) (by omega) (by omega) (by omega) (by omega) (by omega) _).mono ?_; rw [E.out]; rintro e w' ⟨rfl, rfl⟩) | (go_at_call 73; refine (rsigned_any _ _ _ (by omega) (by omega) (by omega) (by omega) _).mono ?_; rintro e w' ⟨rfl, rfl⟩))
    go_ret2
    refine ⟨ret_ib ?_, rfl⟩
    have e : (!((!(decide (a < 0) == decide (b < 0))) == decide (c < 0))) = false := by
      revert hn; cases decide (a < 0) <;> cases decide (b < 0) <;> cases decide (c < 0) <;> simp
    rw [e, QS.out, f.out]; exact Fx.q_fit hcc
end Go.Proofs.Ytdaedhgbkamjpaa.FxW
