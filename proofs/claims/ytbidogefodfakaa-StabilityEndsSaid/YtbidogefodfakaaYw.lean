/- Contracts of layer 48: the reference's Rms. -/
import Derived.Test.YtbidogefodfakaaYv
import Derived.Test.YtbidogefodfakaaRm
import Derived.Test.YtbidogefodfakaaRn
set_option linter.unusedVariables false
set_option linter.unusedSimpArgs false
namespace Go.Proofs.Ytbidogefodfakaa.YxW
open Go.RowKit Ls
def wh (x : Nat → Int) (n : Int) (k : Nat) : Int := Yx.sum (fun i => Yx.cut (x i) * Yx.cut (x i) / n) k
def rs (x : Nat → Int) (n : Int) (k : Nat) : Int := Yx.sum (fun i => Yx.cut (x i) * Yx.cut (x i) % n) k
theorem wr_T (x : Nat → Int) {n : Int} (hn : 0 < n) : ∀ k, Yx.rmsT x k = wh x n k * n + rs x n k
  | 0 => by simp [Yx.rmsT, wh, rs, Yx.sum]
  | k + 1 => by
    have h := wr_T x hn k
    have e := Int.mul_ediv_add_emod (Yx.cut (x k) * Yx.cut (x k)) n
    show Yx.rmsT x k + Yx.cut (x k) * Yx.cut (x k) = (wh x n k + Yx.cut (x k) * Yx.cut (x k) / n) * n + (rs x n k + Yx.cut (x k) * Yx.cut (x k) % n)
    rw [h, Int.add_mul, Int.mul_comm (Yx.cut (x k) * Yx.cut (x k) / n) n]
    omega
theorem rs_bd (x : Nat → Int) {n : Int} (hn : 0 < n) (hn2 : n ≤ 1024) : ∀ k, 0 ≤ rs x n k ∧ rs x n k ≤ k * 1024
  | 0 => by simp [rs, Yx.sum]
  | k + 1 => by
    have h := rs_bd x hn hn2 k
    have a := Int.emod_nonneg (Yx.cut (x k) * Yx.cut (x k)) (show n ≠ 0 by omega)
    have b := Int.emod_lt_of_pos (Yx.cut (x k) * Yx.cut (x k)) hn
    have e : rs x n (k + 1) = rs x n k + Yx.cut (x k) * Yx.cut (x k) % n := rfl
    rw [e]; omega
theorem wh_bd (x : Nat → Int) {n : Int} (hn : 0 < n) : ∀ k, 0 ≤ wh x n k ∧ wh x n k ≤ k * 1152921504606846976
  | 0 => by simp [wh, Yx.sum]
  | k + 1 => by
    have h := wh_bd x hn k
    have c := Yx.cut_sq (x k)
    have a := Int.ediv_nonneg c.1 (show 0 ≤ n by omega)
    have b := Int.ediv_le_self n c.1
    have e : wh x n (k + 1) = wh x n k + Yx.cut (x k) * Yx.cut (x k) / n := rfl
    rw [e]; omega
theorem wh_le (x : Nat → Int) {n : Int} (hn : 0 < n) {k : Nat} (hk : (k : Int) ≤ n) (hn2 : n ≤ 1024) : wh x n k ≤ 1152921504606846976 := by
  have t := wr_T x hn k
  have b := (Yx.rmsT_bd x k).2
  have r := (rs_bd x hn hn2 k).1
  have m : (k : Int) * 1152921504606846976 ≤ n * 1152921504606846976 := by omega
  refine Int.le_of_mul_le_mul_right (a := n) ?_ hn
  rw [Int.mul_comm 1152921504606846976 n]; omega
theorem iabs_cut (v : Int) : (if 1073741824 < Fx.iabs v then 1073741824 else Fx.iabs v) = Yx.cut v := by
  unfold Yx.cut Fx.iabs; split <;> split <;> omega
set_option maxHeartbeats 4000000 in
theorem rrms_no (a : Option Addr) (len cap : Nat) (x : Nat → Int) (w : World) (S : Is w a len x) (h : ¬ (Yx.chk len x = 0 ∧ 0 < len)) :
    Calls Try.prog 30 #[.slice a len cap] w fun e w' => e = .returned (.int .i64 0) ∧ w = w' := by
  have hS := Lib.hid S
  obtain ⟨r, hr⟩ : ∃ r, Yx.chk len x = r := ⟨_, rfl⟩
  have C := Lib.hid hr
  rw [hr] at h
  by_cases h0 : r = 0
  · subst h0
    obtain rfl : len = 0 := by omega
    clear S hr h
    go_enter Try.func30, Try.ntmps30
    go_wp2_with (go_at_call 17; refine (rcheck_at hS.out C).mono ?_; rintro e w' ⟨rfl, rfl⟩)
    go_ret
    exact ⟨rfl, rfl⟩
  · have hq : (r != 0) = true := by simpa using h0
    clear S hr h
    go_enter Try.func30, Try.ntmps30
    go_wp2_with (go_at_call 17; refine (rcheck_at hS.out C).mono ?_; rintro e w' ⟨rfl, rfl⟩)
    go_ret
    exact ⟨rfl, rfl⟩
theorem rabs_at {v u : Int} (v1 : -1099511627776 ≤ v) (v2 : v ≤ 1099511627776) (h : Hid (Fx.iabs v = u)) (w : World) :
    Calls Try.prog 45 #[.int .i64 v] w fun e w' => e = .returned (.tuple #[.int .i64 u, .bool true]) ∧ w = w' := by
  have e := FxW.rabs_any v (by omega) (by omega) w
  have b : -9223372036854775808 ≤ Fx.iabs v ∧ Fx.iabs v ≤ 9223372036854775807 := by unfold Fx.iabs; split <;> omega
  have ok := Fx.fitOk_true b.1 b.2
  rw [Fx.fitV_of ok, ok, h.out] at e; exact e
set_option maxHeartbeats 8000000 in
theorem rrms_yes (a : Option Addr) (len cap : Nat) (x : Nat → Int) (w : World) (S : Is w a len x) (hc : Yx.chk len x = 0) (h0 : 0 < len) :
    Calls Try.prog 30 #[.slice a len cap] w fun e w' => e = .returned (.int .i64 (Fx.isq (Yx.rmsT x len / len))) ∧ w = w' := by
  obtain ⟨hl, hB⟩ := Yx.chk_ok hc
  have hS := Lib.hid S; have C := Lib.hid hc; have HB := Lib.hid hB
  have hl0 : ((len : Int) == 0) = false := by simp; omega
  have hl3 : (len : Int) ≤ 1024 := by omega
  have hl4 : (1 : Int) ≤ (len : Int) := by omega
  clear S hc hB
  go_enter Try.func30, Try.ntmps30
  go_wp2_with (go_at_call 17; refine (rcheck_at hS.out C).mono ?_; rintro e w' ⟨rfl, rfl⟩)
  go_loop [5, 3, 4] (fun c h l => ∃ k : Nat, k ≤ len ∧ c = .int .i64 k ∧ h = .int .i64 (wh x len k) ∧ l = .int .i64 (rs x len k)) (fun c _ _ => len - (intOf c).toNat)
  case atStart => exact ⟨0, by omega, rfl, rfl, rfl⟩
  case round =>
    obtain ⟨k, hk, rfl, rfl, rfl⟩ := hrel
    have bw := wh_bd x (n := len) (by omega) k
    have bw2 := wh_le x (n := len) (k := k) (by omega) (by omega) hl3
    have br := rs_bd x (n := len) (by omega) hl3 k
    by_cases hlt : k < len
    · obtain ⟨b, o, rfl, _, c0⟩ := hS.out.elem hlt
      have bk := HB.out k hlt
      have HW := Lib.hid (show wh x len (k + 1) = wh x len k + Yx.cut (x k) * Yx.cut (x k) / len from rfl)
      have HR := Lib.hid (show rs x len (k + 1) = rs x len k + Yx.cut (x k) * Yx.cut (x k) % len from rfl)
      obtain ⟨v, hv⟩ : ∃ v, x k = v := ⟨_, rfl⟩
      have HV := Lib.hid hv
      rw [hv] at c0 bk
      have v1 := bk.1; have v2 := bk.2
      have cs := Yx.cut_sq v
      have IC := iabs_cut v
      obtain ⟨u, hu⟩ : ∃ u, Fx.iabs v = u := ⟨_, rfl⟩
      have HU := Lib.hid hu
      rw [hu] at IC
      obtain ⟨W, hW⟩ : ∃ T, wh x len k = T := ⟨_, rfl⟩
      obtain ⟨R, hR⟩ : ∃ T, rs x len k = T := ⟨_, rfl⟩
      have HWe := Lib.hid hW; have HRe := Lib.hid hR
      rw [hW] at bw bw2; rw [hR] at br
      rw [hW, hR]
      have w1 := bw.1; have r1 := br.1; have r2 := br.2
      have hln : ¬ (len : Int) = 0 := by omega
      by_cases g : 1073741824 < u
      · rw [if_pos g] at IC
        have HC := Lib.hid IC
        rw [← IC] at cs
        have d1 := Int.ediv_nonneg (show (0 : Int) ≤ 1152921504606846976 by decide) (show (0 : Int) ≤ len by omega)
        have d2 := Int.ediv_le_self (len : Int) (show (0 : Int) ≤ 1152921504606846976 by decide)
        have m1 := Int.emod_nonneg (1152921504606846976 : Int) hln
        have m2 := Int.emod_lt_of_pos (1152921504606846976 : Int) (show (0 : Int) < len by omega)
        clear hv hu IC hW hR bw br bk cs
        go_wp2_with (go_at_call 45; refine (rabs_at v1 v2 HU _).mono ?_; rintro e w' ⟨rfl, rfl⟩)
        go_round
        case rel => exact ⟨k + 1, by omega, by go_num, by rw [HW.out, HV.out, ← HC.out, HWe.out] <;> rfl, by rw [HR.out, HV.out, ← HC.out, HRe.out] <;> rfl⟩
        case measure => simp [intOf]; omega
      · rw [if_neg g] at IC
        have HC := Lib.hid IC
        rw [← IC] at cs
        have s1 := cs.1; have s2 := cs.2
        have d1 := Int.ediv_nonneg s1 (show (0 : Int) ≤ len by omega)
        have d2 := Int.ediv_le_self (len : Int) s1
        have m1 := Int.emod_nonneg (u * u) hln
        have m2 := Int.emod_lt_of_pos (u * u) (show (0 : Int) < len by omega)
        clear hv hu IC hW hR bw br bk cs
        go_wp2_with (go_at_call 45; refine (rabs_at v1 v2 HU _).mono ?_; rintro e w' ⟨rfl, rfl⟩)
        go_round
        case rel => exact ⟨k + 1, by omega, by go_num, by rw [HW.out, HV.out, ← HC.out, HWe.out] <;> rfl, by rw [HR.out, HV.out, ← HC.out, HRe.out] <;> rfl⟩
        case measure => simp [intOf]; omega
    · obtain rfl : k = len := by omega
      have e1 := wr_T x (n := (k : Int)) (by omega) k
      have HQQ : Hid (Yx.rmsT x k / (k : Int) = wh x k k + rs x k k / k) := Lib.hid (by
        rw [e1, Int.add_comm, Int.add_mul_ediv_right _ _ (by omega)]; omega)
      obtain ⟨W, hW⟩ : ∃ T, wh x k k = T := ⟨_, rfl⟩
      obtain ⟨R, hR⟩ : ∃ T, rs x k k = T := ⟨_, rfl⟩
      have HWe := Lib.hid hW; have HRe := Lib.hid hR
      rw [hW] at bw bw2; rw [hR] at br
      rw [hW, hR]
      have w1 := bw.1; have r1 := br.1; have r2 := br.2
      have hkn : ¬ (k : Int) = 0 := by omega
      have d1 := Int.ediv_nonneg r1 (show (0 : Int) ≤ k by omega)
      have d2 := Int.ediv_le_self (k : Int) r1
      clear hW hR bw br e1
      go_wp2_with (go_at_call 46; refine (FxW.rsqrt_int (W + R / k) (by omega) (by omega) _).mono ?_; rintro e w' ⟨rfl, rfl⟩)
      go_ret
      exact ⟨Hp.ret_int (by rw [HQQ.out, HWe.out, HRe.out]), rfl⟩
theorem rrms_any (a : Option Addr) (len cap : Nat) (x : Nat → Int) (w : World) (S : Is w a len x) :
    Calls Try.prog 30 #[.slice a len cap] w fun e w' => e = .returned (.int .i64 (rms len x)) ∧ w = w' := by
  unfold rms
  by_cases h : Yx.chk len x = 0 ∧ 0 < len
  · rw [if_pos h]; exact rrms_yes a len cap x w S h.1 h.2
  · rw [if_neg h]; exact rrms_no a len cap x w S h
end Go.Proofs.Ytbidogefodfakaa.YxW
