/- Contracts of layer 48: Add64, Rms. -/
import Derived.Test.YtbidogefodfakaaYr
import Derived.Test.YtbidogefodfakaaFs
import Derived.Test.YtbidogefodfakaaFd
import Derived.Laws.Externs
import Derived.Outline
set_option linter.unusedVariables false
set_option linter.unusedSimpArgs false
namespace Go.Proofs.Ytbidogefodfakaa.YxW
open Go.RowKit Ls
/-- the sum of two words, without a carry to begin with -/
theorem add64_run (x y : Int) (x0 : 0 ≤ x) (y0 : 0 ≤ y) (w : World) :
    (callFunc 42 #[.int .u64 x, .int .u64 y, .int .u64 0]).run Try.prog w = .ok (.value (.tuple #[.int .u64 ((x + y) % 18446744073709551616), .int .u64 ((x + y) / 18446744073709551616)])) w := by
  rw [run_callFunc_extern Try.func42 (by kernel_rfl) (by kernel_rfl) (by kernel_rfl) (e := add64Entry) (by kernel_rfl), run_add64 x y 0 x0 y0 (by omega) (by omega)]
  simp only [Result.andThen, Int.add_zero]
theorem rms_t (x : Nat → Int) (len : Nat) (h : 0 < len) : 0 ≤ Yx.rmsT x len / len ∧ Yx.rmsT x len / len ≤ 1152921504606846976 := by
  have b := Yx.rmsT_bd x len
  refine ⟨Int.ediv_nonneg b.1 (by omega), Int.ediv_le_of_le_mul (by omega) (by rw [Int.mul_comm]; exact b.2)⟩
def rms (len : Nat) (x : Nat → Int) : Int := if Yx.chk len x = 0 ∧ 0 < len then Fx.isq (Yx.rmsT x len / len) else 0
theorem div64_at {hi lo y q : Int} (h0 : 0 ≤ hi) (h1 : hi < y) (l0 : 0 ≤ lo) (l1 : lo ≤ 18446744073709551615) (y1 : y ≤ 18446744073709551615) (h : Hid ((hi * 18446744073709551616 + lo) / y = q)) (w : World) :
    Calls Try.prog 43 #[.int .u64 hi, .int .u64 lo, .int .u64 y] w fun e w' => ∃ r, e = .returned (.tuple #[.int .u64 q, .int .u64 r]) ∧ ∃ n, w' = w.drewN n :=
  (FxW.div64_any hi lo y h0 h1 l0 l1 y1 w).mono fun e w' ⟨he, hn⟩ => ⟨(hi * 18446744073709551616 + lo) % y, by rw [he, h.out], hn⟩
set_option maxHeartbeats 4000000 in
theorem rms_no (a : Option Addr) (len cap : Nat) (x : Nat → Int) (w : World) (S : Is w a len x) (h : ¬ (Yx.chk len x = 0 ∧ 0 < len)) :
    Calls Try.prog 29 #[.slice a len cap] w fun e w' => e = .returned (.int .i64 0) ∧ w = w' := by
  have hS := Lib.hid S
  by_cases h0 : len = 0
  · subst h0
    clear S h
    go_enter Try.func29, Try.ntmps29
    go_wp2_with (fail)
    go_ret
    exact ⟨rfl, rfl⟩
  · have hl : ((len : Int) == 0) = false := by simp; omega
    obtain ⟨r, hr⟩ : ∃ r, Yx.chk len x = r := ⟨_, rfl⟩
    have C := Lib.hid hr
    have hq : (r != 0) = true := by rw [hr] at h; simp; omega
    clear S hr h
    go_enter Try.func29, Try.ntmps29
    go_wp2_with (go_at_call 16; refine (check_at hS.out C).mono ?_; rintro e w' ⟨rfl, rfl⟩)
    go_ret
    exact ⟨rfl, rfl⟩
set_option maxHeartbeats 8000000 in
theorem rms_yes (a : Option Addr) (len cap : Nat) (x : Nat → Int) (w : World) (S : Is w a len x) (hc : Yx.chk len x = 0) (h0 : 0 < len) :
    Calls Try.prog 29 #[.slice a len cap] w fun e w' => e = .returned (.int .i64 (Fx.isq (Yx.rmsT x len / len))) ∧ ∃ n, w' = w.drewN n := by
  obtain ⟨hl, hB⟩ := Yx.chk_ok hc
  have hS := Lib.hid S; have C := Lib.hid hc; have HB := Lib.hid hB
  have hl0 : ((len : Int) == 0) = false := by simp; omega
  have hl3 : (len : Int) ≤ 1024 := by omega
  clear S hc hB
  go_enter Try.func29, Try.ntmps29
  go_wp2_with (go_at_call 16; refine (check_at hS.out C).mono ?_; rintro e w' ⟨rfl, rfl⟩)
  go_loop [23, 3, 4] (fun c h l => ∃ k : Nat, k ≤ len ∧ c = .int .i64 k ∧ h = .int .u64 (Yx.rmsT x k / 18446744073709551616) ∧ l = .int .u64 (Yx.rmsT x k % 18446744073709551616)) (fun c _ _ => len - (intOf c).toNat)
  case atStart => exact ⟨0, by omega, rfl, by simp [Yx.rmsT, Yx.sum], by simp [Yx.rmsT, Yx.sum]⟩
  case round =>
    obtain ⟨k, hk, rfl, rfl, rfl⟩ := hrel
    have bT := Yx.rmsT_bd x k
    by_cases hlt : k < len
    · obtain ⟨b, o, rfl, _, c0⟩ := hS.out.elem hlt
      have bk := HB.out k hlt
      have HSs := Lib.hid (show Yx.rmsT x (k + 1) = Yx.rmsT x k + Yx.cut (x k) * Yx.cut (x k) from rfl)
      obtain ⟨v, hv⟩ : ∃ v, x k = v := ⟨_, rfl⟩
      have HV := Lib.hid hv
      rw [hv] at c0 bk
      have v1 := bk.1; have v2 := bk.2
      have cb := Yx.cut_bd v
      have cs := Yx.cut_sq v
      have hmul : IntKind.u64.wrap (min (max v (-v)) 1073741824 * min (max v (-v)) 1073741824) = Yx.cut v * Yx.cut v := by
        show IntKind.u64.wrap (Yx.cut v * Yx.cut v) = _
        rw [IntKind.wrap_u64]; omega
      obtain ⟨s, hs⟩ : ∃ s, Yx.cut v * Yx.cut v = s := ⟨_, rfl⟩
      have HS2 := Lib.hid hs
      rw [hs] at cs hmul
      obtain ⟨T, hT⟩ : ∃ T, Yx.rmsT x k = T := ⟨_, rfl⟩
      have HT := Lib.hid hT
      rw [hT] at bT
      rw [hT]
      obtain ⟨H, hH⟩ : ∃ H, T / 18446744073709551616 = H := ⟨_, rfl⟩
      obtain ⟨L, hL⟩ : ∃ H, T % 18446744073709551616 = H := ⟨_, rfl⟩
      obtain ⟨H', hH'⟩ : ∃ H, (T + s) / 18446744073709551616 = H := ⟨_, rfl⟩
      obtain ⟨L', hL'⟩ : ∃ H, (T + s) % 18446744073709551616 = H := ⟨_, rfl⟩
      obtain ⟨cy, hcy⟩ : ∃ H, (L + s) / 18446744073709551616 = H := ⟨_, rfl⟩
      have e1 : (L + s) % 18446744073709551616 = L' := by omega
      have e2 : H + cy = H' := by omega
      have b1 : 0 ≤ H ∧ H ≤ 64 ∧ 0 ≤ cy ∧ cy ≤ 1 := by omega
      have hadd := fun w => add64_run L s (by omega) (by omega) w
      rw [e1, hcy] at hadd
      rw [hH, hL]
      have HH' := Lib.hid hH'; have HL' := Lib.hid hL'; have E2 := Lib.hid e2
      have p1 := b1.1; have p2 := b1.2.1; have p3 := b1.2.2.1; have p4 := b1.2.2.2
      clear hv hs hT hH hL hH' hL' hcy e1 e2 b1 bT bk cb cs
      go_wp2_with (fail)
      go_round
      case rel => exact ⟨k + 1, by omega, by go_num, by rw [HSs.out, HV.out, HS2.out, HT.out, HH'.out]; exact int_eq E2.out, by rw [HSs.out, HV.out, HS2.out, HT.out, HL'.out]⟩
      case measure => simp [intOf]; omega
    · obtain rfl : k = len := by omega
      have rt := rms_t x k h0
      obtain ⟨T, hT⟩ : ∃ T, Yx.rmsT x k = T := ⟨_, rfl⟩
      rw [hT] at bT rt
      rw [hT]
      obtain ⟨H, hH⟩ : ∃ H, T / 18446744073709551616 = H := ⟨_, rfl⟩
      obtain ⟨L, hL⟩ : ∃ H, T % 18446744073709551616 = H := ⟨_, rfl⟩
      obtain ⟨Q, hQ⟩ : ∃ H, T / (k : Int) = H := ⟨_, rfl⟩
      have d1 : (H * 18446744073709551616 + L) / (k : Int) = Q := by rw [← hQ]; congr 1; omega
      have D1 := Lib.hid d1
      have b1 : 0 ≤ H ∧ H < k ∧ 0 ≤ L ∧ L ≤ 18446744073709551615 := by omega
      rw [hQ] at rt
      have HQQ := Lib.hid (show Yx.rmsT x k / (k : Int) = Q by rw [hT]; exact hQ)
      rw [hH, hL]
      have p1 := b1.1; have p2 := b1.2.1; have p3 := b1.2.2.1; have p4 := b1.2.2.2
      have r1 := rt.1; have r2 := rt.2
      have uk : IntKind.u64.wrap (k : Int) = (k : Int) := by rw [IntKind.wrap_u64]; omega
      clear hT hH hL hQ d1 b1 bT rt
      go_wp2_with (first | (go_at_call 43; refine (div64_at p1 p2 p3 p4 (by omega) D1 _).mono ?_; rintro e w' ⟨r, rfl, nq, rfl⟩) | (go_at_call 44; refine (FxW.sqrt_int Q r1 (by omega) _).mono ?_; rintro e w' ⟨rfl, rfl⟩))
      go_ret
      exact ⟨Hp.ret_int (by rw [HQQ.out]), nq, rfl⟩
theorem rms_any (a : Option Addr) (len cap : Nat) (x : Nat → Int) (w : World) (S : Is w a len x) :
    Calls Try.prog 29 #[.slice a len cap] w fun e w' => e = .returned (.int .i64 (rms len x)) ∧ ∃ n, w' = w.drewN n := by
  unfold rms
  by_cases h : Yx.chk len x = 0 ∧ 0 < len
  · rw [if_pos h]; exact rms_yes a len cap x w S h.1 h.2
  · rw [if_neg h]; exact (rms_no a len cap x w S h).mono fun e w' ⟨he, hw⟩ => ⟨he, 0, by rw [← hw]; rfl⟩
end Go.Proofs.Ytbidogefodfakaa.YxW
