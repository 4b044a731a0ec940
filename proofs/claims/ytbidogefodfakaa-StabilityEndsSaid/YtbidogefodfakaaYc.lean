/- Contracts of layer 48: Check, second (both). -/
import Derived.Test.YtbidogefodfakaaYx
import Derived.Test.YtbidogefodfakaaLs
import Derived.Test.YtbidogefodfakaaQb
import Derived.LoopTactic
import Derived.BigQuiet
import Derived.Deep.QuietTactic
set_option linter.unusedVariables false
set_option linter.unusedSimpArgs false
namespace Go.Proofs.Ytbidogefodfakaa.YxW
open Go.RowKit Ls
theorem okE_lo {v : Int} (h : v < -1099511627776) : Yx.okE v = false := decide_eq_false (by omega)
theorem okE_hi {v : Int} (h : 1099511627776 < v) : Yx.okE v = false := decide_eq_false (by omega)
set_option maxHeartbeats 4000000 in
theorem check_any (a : Option Addr) (n cap : Nat) (x : Nat → Int) (w : World) (S : Is w a n x) :
    Calls Try.prog 16 #[.slice a n cap] w fun e w' => e = .returned (.int .i64 (Yx.chk n x)) ∧ w = w' := by
  by_cases h1 : 1024 < n
  · have E : Hid (Yx.chk n x = 6) := Lib.hid (by unfold Yx.chk; rw [if_pos h1])
    have h1' : (1024 : Int) < (n : Int) := by omega
    clear S h1
    go_enter Try.func16, Try.ntmps16
    go_wp2
    go_ret
    exact ⟨by rw [E.out] <;> rfl, rfl⟩
  · have E : Hid (Yx.chk n x = Yx.scan x n) := Lib.hid (by unfold Yx.chk; rw [if_neg h1])
    have h1' : ¬ (1024 : Int) < (n : Int) := by omega
    have hS := Lib.hid S
    clear S h1
    go_enter Try.func16, Try.ntmps16
    go_wp2
    go_loop [10] (fun c => ∃ k : Nat, k ≤ n ∧ c = .int .i64 k ∧ Yx.scan x k = 0) (fun c => n - (intOf c).toNat)
    case atStart => exact ⟨0, by omega, rfl, rfl⟩
    case round =>
      obtain ⟨k, hk, rfl, hs⟩ := hrel
      have HS := Lib.hid hs
      clear hs
      by_cases hlt : k < n
      · obtain ⟨b, o, rfl, hb, c0⟩ := hS.out.elem hlt
        by_cases g1 : x k < -1099511627776
        · have e := Lib.hid (Yx.scan_no (okE_lo g1) n hlt)
          go_wp2
          go_ret
          exact ⟨by rw [E.out, e.out] <;> rfl, rfl⟩
        · by_cases g2 : 1099511627776 < x k
          · have e := Lib.hid (Yx.scan_no (okE_hi g2) n hlt)
            go_wp2
            go_ret
            exact ⟨by rw [E.out, e.out] <;> rfl, rfl⟩
          · have e := Lib.hid (Yx.scan_go HS.out (Yx.okE_iff.2 ⟨by omega, by omega⟩))
            go_wp2
            go_round
            case rel => exact ⟨k + 1, by omega, by go_num, e.out⟩
            case measure => simp [intOf]; omega
      · go_wp2
        go_ret
        exact ⟨by rw [E.out, ← show k = n by omega, HS.out] <;> rfl, rfl⟩
set_option maxHeartbeats 4000000 in
theorem rcheck_any (a : Option Addr) (n cap : Nat) (x : Nat → Int) (w : World) (S : Is w a n x) :
    Calls Try.prog 17 #[.slice a n cap] w fun e w' => e = .returned (.int .i64 (Yx.chk n x)) ∧ w = w' := by
  by_cases h1 : 1024 < n
  · have E : Hid (Yx.chk n x = 6) := Lib.hid (by unfold Yx.chk; rw [if_pos h1])
    have h1' : (1024 : Int) < (n : Int) := by omega
    clear S h1
    go_enter Try.func17, Try.ntmps17
    go_wp2
    go_ret
    exact ⟨by rw [E.out] <;> rfl, rfl⟩
  · have E : Hid (Yx.chk n x = Yx.scan x n) := Lib.hid (by unfold Yx.chk; rw [if_neg h1])
    have h1' : ¬ (1024 : Int) < (n : Int) := by omega
    have hS := Lib.hid S
    clear S h1
    go_enter Try.func17, Try.ntmps17
    go_wp2
    go_loop [3] (fun c => ∃ k : Nat, k ≤ n ∧ c = .int .i64 k ∧ Yx.scan x k = 0) (fun c => n - (intOf c).toNat)
    case atStart => exact ⟨0, by omega, rfl, rfl⟩
    case round =>
      obtain ⟨k, hk, rfl, hs⟩ := hrel
      have HS := Lib.hid hs
      clear hs
      by_cases hlt : k < n
      · obtain ⟨b, o, rfl, hb, c0⟩ := hS.out.elem hlt
        by_cases g1 : x k < -1099511627776
        · have e := Lib.hid (Yx.scan_no (okE_lo g1) n hlt)
          go_wp2
          go_ret
          exact ⟨by rw [E.out, e.out] <;> rfl, rfl⟩
        · by_cases g2 : 1099511627776 < x k
          · have e := Lib.hid (Yx.scan_no (okE_hi g2) n hlt)
            go_wp2
            go_ret
            exact ⟨by rw [E.out, e.out] <;> rfl, rfl⟩
          · have e := Lib.hid (Yx.scan_go HS.out (Yx.okE_iff.2 ⟨by omega, by omega⟩))
            go_wp2
            go_round
            case rel => exact ⟨k + 1, by omega, by go_num, e.out⟩
            case measure => simp [intOf]; omega
      · go_wp2
        go_ret
        exact ⟨by rw [E.out, ← show k = n by omega, HS.out] <;> rfl, rfl⟩
/-- all numbers are small -/
def Sm (n : Nat) (x : Nat → Int) : Prop := ∀ i, i < n → -1099511627776 ≤ x i ∧ x i ≤ 1099511627776
set_option maxHeartbeats 4000000 in
theorem second_any (a : Option Addr) (len cap : Nat) (x : Nat → Int) (i n : Nat) (w : World) (S : Is w a len x) (B : Sm len x) (h : i + 2 * n < len) (hl : len ≤ 1024) :
    Calls Try.prog 34 #[.slice a len cap, .int .i64 i, .int .i64 n] w fun e w' => e = .returned (.int .i64 (Yx.sd x n i)) ∧ ∃ q, w' = w.drewN q := by
  obtain ⟨b, o, rfl, hb, hc⟩ := S.addr (by omega)
  have c0 := hc i (by omega); have c1 := hc (i + n) (by omega); have c2 := hc (i + 2 * n) (by omega)
  have b0 := B i (by omega); have b1 := B (i + n) (by omega); have b2 := B (i + 2 * n) (by omega)
  have E : Hid (Yx.sd x n i = x (i + 2 * n) - 2 * x (i + n) + x i) := Lib.hid rfl
  obtain ⟨p, hp⟩ : ∃ p, x i = p := ⟨_, rfl⟩
  obtain ⟨q, hq⟩ : ∃ p, x (i + n) = p := ⟨_, rfl⟩
  obtain ⟨r, hr⟩ : ∃ p, x (i + 2 * n) = p := ⟨_, rfl⟩
  rw [hp] at b0 c0; rw [hq] at b1 c1; rw [hr] at b2 c2
  have E2 : Hid (Yx.sd x n i = r - 2 * q + p) := Lib.hid (by rw [E.out, hp, hq, hr])
  clear S B hc hp hq hr E
  have b00 := b0.1; have b01 := b0.2; have b10 := b1.1; have b11 := b1.2; have b20 := b2.1; have b21 := b2.2
  clear b0 b1 b2
  have i0 : (0 : Int) ≤ (i : Int) := by omega
  have i1 : (i : Int) < (len : Int) := by omega
  have n0 : (0 : Int) ≤ (n : Int) := by omega
  have n1 : (i : Int) + 2 * (n : Int) < (len : Int) := by omega
  have m1 : i < len := by omega
  have m2 : i + n < len := by omega
  have W1 : IntKind.i64.wrap (2 * (n : Int)) = 2 * (n : Int) := IntWalk.i64_in _ (by omega)
  have W2 : IntKind.i64.wrap ((i : Int) + 2 * (n : Int)) = (i : Int) + 2 * (n : Int) := IntWalk.i64_in _ (by omega)
  have W3 : IntKind.i64.wrap ((i : Int) + (n : Int)) = (i : Int) + (n : Int) := IntWalk.i64_in _ (by omega)
  have W4 : IntKind.i64.wrap (2 * q) = 2 * q := IntWalk.i64_in _ (by omega)
  have W5 : IntKind.i64.wrap (r - 2 * q) = r - 2 * q := IntWalk.i64_in _ (by omega)
  have W6 : IntKind.i64.wrap (r - 2 * q + p) = r - 2 * q + p := IntWalk.i64_in _ (by omega)
  have T2 : ((i : Int) + 2 * (n : Int)).toNat = i + 2 * n := by omega
  have T3 : ((i : Int) + (n : Int)).toNat = i + n := by omega
  go_enter Try.func34, Try.ntmps34
  go_wp2_with (fail)
  go_quiet (fail)
  go_wp2_with (fail)
  go_ret
  exact ⟨by rw [E2.out]; rfl, _, rfl⟩
set_option maxHeartbeats 4000000 in
theorem rsecond_any (a : Option Addr) (len cap : Nat) (x : Nat → Int) (i n : Nat) (w : World) (S : Is w a len x) (B : Sm len x) (h : i + 2 * n < len) (hl : len ≤ 1024) :
    Calls Try.prog 37 #[.slice a len cap, .int .i64 i, .int .i64 n] w fun e w' => e = .returned (.int .i64 (Yx.sd x n i)) ∧ ∃ q, w' = w.drewN q := by
  obtain ⟨b, o, rfl, hb, hc⟩ := S.addr (by omega)
  have c0 := hc i (by omega); have c1 := hc (i + n) (by omega); have c2 := hc (i + 2 * n) (by omega)
  have b0 := B i (by omega); have b1 := B (i + n) (by omega); have b2 := B (i + 2 * n) (by omega)
  have E : Hid (Yx.sd x n i = x (i + 2 * n) - 2 * x (i + n) + x i) := Lib.hid rfl
  obtain ⟨p, hp⟩ : ∃ p, x i = p := ⟨_, rfl⟩
  obtain ⟨q, hq⟩ : ∃ p, x (i + n) = p := ⟨_, rfl⟩
  obtain ⟨r, hr⟩ : ∃ p, x (i + 2 * n) = p := ⟨_, rfl⟩
  rw [hp] at b0 c0; rw [hq] at b1 c1; rw [hr] at b2 c2
  have E2 : Hid (Yx.sd x n i = r - 2 * q + p) := Lib.hid (by rw [E.out, hp, hq, hr])
  clear S B hc hp hq hr E
  have b00 := b0.1; have b01 := b0.2; have b10 := b1.1; have b11 := b1.2; have b20 := b2.1; have b21 := b2.2
  clear b0 b1 b2
  have i0 : (0 : Int) ≤ (i : Int) := by omega
  have i1 : (i : Int) < (len : Int) := by omega
  have n0 : (0 : Int) ≤ (n : Int) := by omega
  have n1 : (i : Int) + 2 * (n : Int) < (len : Int) := by omega
  have m1 : i < len := by omega
  have m2 : i + n < len := by omega
  have W1 : IntKind.i64.wrap (2 * (n : Int)) = 2 * (n : Int) := IntWalk.i64_in _ (by omega)
  have W2 : IntKind.i64.wrap ((i : Int) + 2 * (n : Int)) = (i : Int) + 2 * (n : Int) := IntWalk.i64_in _ (by omega)
  have W3 : IntKind.i64.wrap ((i : Int) + (n : Int)) = (i : Int) + (n : Int) := IntWalk.i64_in _ (by omega)
  have W4 : IntKind.i64.wrap (2 * q) = 2 * q := IntWalk.i64_in _ (by omega)
  have W5 : IntKind.i64.wrap (r - 2 * q) = r - 2 * q := IntWalk.i64_in _ (by omega)
  have W6 : IntKind.i64.wrap (r - 2 * q + p) = r - 2 * q + p := IntWalk.i64_in _ (by omega)
  have T2 : ((i : Int) + 2 * (n : Int)).toNat = i + 2 * n := by omega
  have T3 : ((i : Int) + (n : Int)).toNat = i + n := by omega
  go_enter Try.func37, Try.ntmps37
  go_wp2_with (fail)
  go_quiet (fail)
  go_wp2_with (fail)
  go_ret
  exact ⟨by rw [E2.out]; rfl, _, rfl⟩
end Go.Proofs.Ytbidogefodfakaa.YxW
