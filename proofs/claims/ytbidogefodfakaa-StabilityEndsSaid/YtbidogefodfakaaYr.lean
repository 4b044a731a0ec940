/- Contracts of layer 48: Range. -/
import Derived.Test.YtbidogefodfakaaYc
set_option linter.unusedVariables false
set_option linter.unusedSimpArgs false
namespace Go.Proofs.Ytbidogefodfakaa.YxW
open Go.RowKit Ls
theorem int_eq {k : IntKind} {a b : Int} (h : a = b) : Value.int k a = Value.int k b := by rw [h]
theorem ret_ii {k k' : IntKind} {a b c d : Int} (h1 : a = b) (h2 : c = d) : Ending.returned (.tuple #[.int k a, .int k' c]) = .returned (.tuple #[.int k b, .int k' d]) := by rw [h1, h2]
theorem check_at {a : Option Addr} {n cap : Nat} {x : Nat → Int} {w : World} {r : Int} (S : Is w a n x) (h : Hid (Yx.chk n x = r)) :
    Calls Try.prog 16 #[.slice a n cap] w fun e w' => e = .returned (.int .i64 r) ∧ w = w' := by rw [← h.out]; exact check_any a n cap x w S
theorem rcheck_at {a : Option Addr} {n cap : Nat} {x : Nat → Int} {w : World} {r : Int} (S : Is w a n x) (h : Hid (Yx.chk n x = r)) :
    Calls Try.prog 17 #[.slice a n cap] w fun e w' => e = .returned (.int .i64 r) ∧ w = w' := by rw [← h.out]; exact rcheck_any a n cap x w S
set_option maxHeartbeats 4000000 in
theorem range_no (a : Option Addr) (len cap : Nat) (x : Nat → Int) (n : Int) (w : World) (S : Is w a len x) (hl : len ≤ 9223372036854775807) (h : ¬ (Yx.chk len x = 0 ∧ 1 ≤ n ∧ n ≤ (len : Int) - 1)) :
    Calls Try.prog 14 #[.slice a len cap, .int .i64 n] w fun e w' => e = .returned (.tuple #[.int .i64 (Yx.rng len x n), .int .i64 (Yx.rngE len x n)]) ∧ w = w' := by
  have hS := Lib.hid S
  have R : Hid (Yx.rng len x n = 0) := Lib.hid (by unfold Yx.rng; rw [if_neg h])
  have hl0 : (0 : Int) ≤ (len : Int) := by omega
  have hl' : (len : Int) ≤ 9223372036854775807 := by omega
  by_cases hc : Yx.chk len x = 0
  · have C := Lib.hid hc
    have R2 : Hid (Yx.rngE len x n = 3) := Lib.hid (by unfold Yx.rngE; rw [if_pos hc, if_pos (by omega)])
    by_cases h1 : n < 1
    · clear S h hc
      go_enter Try.func14, Try.ntmps14
      go_wp2_with (go_at_call 16; refine (check_at hS.out C).mono ?_; rintro e w' ⟨rfl, rfl⟩)
      go_ret2
      exact ⟨ret_ii R.out.symm R2.out.symm, rfl⟩
    · have h2 : (len : Int) - 1 < n := by omega
      clear S h hc
      go_enter Try.func14, Try.ntmps14
      go_wp2_with (go_at_call 16; refine (check_at hS.out C).mono ?_; rintro e w' ⟨rfl, rfl⟩)
      go_ret2
      exact ⟨ret_ii R.out.symm R2.out.symm, rfl⟩
  · have R2 : Hid (Yx.rngE len x n = Yx.chk len x) := Lib.hid (by unfold Yx.rngE; rw [if_neg hc])
    obtain ⟨r, hr⟩ : ∃ r, Yx.chk len x = r := ⟨_, rfl⟩
    have C := Lib.hid hr
    have hq : (r != 0) = true := by rw [hr] at hc; simpa using hc
    clear S h hc hr
    go_enter Try.func14, Try.ntmps14
    go_wp2_with (go_at_call 16; refine (check_at hS.out C).mono ?_; rintro e w' ⟨rfl, rfl⟩)
    go_ret2
    exact ⟨ret_ii R.out.symm (by rw [R2.out, C.out]), rfl⟩
set_option maxHeartbeats 8000000 in
theorem range_yes (a : Option Addr) (len cap : Nat) (x : Nat → Int) (N : Nat) (w : World) (S : Is w a len x) (hlc : len ≤ cap) (hcc : cap ≤ 9223372036854775807) (hc : Yx.chk len x = 0) (h1 : 1 ≤ N) (h2 : N + 1 ≤ len) :
    Calls Try.prog 14 #[.slice a len cap, .int .i64 N] w fun e w' => e = .returned (.tuple #[.int .i64 (Yx.gr x N (len - N)), .int .i64 0]) ∧ ∃ q, w' = w.drewN q := by
  obtain ⟨hl, hB⟩ := Yx.chk_ok hc
  have hS := Lib.hid S; have C := Lib.hid hc; have HB := Lib.hid hB
  obtain ⟨b, o, rfl, hb, hx⟩ := S.addr (by omega)
  have HX := Lib.hid hx
  have i1 : (1 : Int) ≤ (N : Int) := by omega
  have i2 : (N : Int) + 1 ≤ (len : Int) := by omega
  have i3 : (len : Int) ≤ 1024 := by omega
  have i4 : (len : Int) ≤ (cap : Int) := by omega
  have i5 : (cap : Int) ≤ 9223372036854775807 := by omega
  clear S hc hB hx
  go_enter Try.func14, Try.ntmps14
  go_wp2_with (go_at_call 16; refine (check_at hS.out C).mono ?_; rintro e w' ⟨rfl, rfl⟩)
  go_loopw [7, 8] (fun g c wr => ∃ k : Nat, k + N ≤ len ∧ c = .int .i64 k ∧ g = .int .i64 (Yx.gr x N k) ∧ ∃ q, wr = w.drewN q) (fun _ c _ => len - (intOf c).toNat)
  case atStart => exact ⟨0, by omega, rfl, rfl, 0, rfl⟩
  case round =>
    obtain ⟨k, hk, rfl, rfl, q, rfl⟩ := hrel
    by_cases hlt : k + N < len
    · have e0 := HX.out k (by omega)
      have k1 : (k : Int) + (N : Int) < (len : Int) := by omega
      have k0 : k < len := by omega
      have k2 : (0 : Int) ≤ (k : Int) := by omega
      have HG := Lib.hid (Yx.gr_bd HB.out N k (by omega))
      have HGs := Lib.hid (show Yx.gr x N (k + 1) = max (Yx.gr x N k) (Yx.hiW x k (N + 1) - Yx.loW x k (N + 1)) from rfl)
      obtain ⟨G, hG⟩ : ∃ G, Yx.gr x N k = G := ⟨_, rfl⟩
      have HGe := Lib.hid hG
      have HLh := Lib.hid (show Yx.loW x k 0 = x k ∧ Yx.hiW x k 0 = x k from ⟨rfl, rfl⟩)
      obtain ⟨v, hv⟩ : ∃ G, x k = G := ⟨_, rfl⟩
      have HV := Lib.hid hv
      rw [hv] at e0
      rw [hG]
      clear hG hv
      go_wp2_with (fail)
      go_quiet (fail)
      go_wp2_with (fail)
      go_loopw [51, 9, 10] (fun c lo hi wr => ∃ m : Nat, m ≤ N + 1 ∧ c = .int .i64 m ∧ lo = .int .i64 (Yx.loW x k m) ∧ hi = .int .i64 (Yx.hiW x k m) ∧ ∃ q, wr = w.drewN q) (fun c _ _ _ => N + 1 - (intOf c).toNat)
      case atStart => exact ⟨0, by omega, rfl, by rw [HLh.out.1, HV.out], by rw [HLh.out.2, HV.out], _, rfl⟩
      case round =>
        obtain ⟨m, hm, rfl, rfl, rfl, q2, rfl⟩ := hrel
        by_cases hlt2 : m < N + 1
        · have e1 := HX.out (k + m) (by omega)
          rw [← Nat.add_assoc] at e1
          have W1 := Yx.win_bd HB.out (i := k) (by omega) m (by omega)
          have HL := Lib.hid (show Yx.loW x k (m + 1) = min (Yx.loW x k m) (x (k + m)) from rfl)
          have HH := Lib.hid (show Yx.hiW x k (m + 1) = max (Yx.hiW x k m) (x (k + m)) from rfl)
          have m1 : (m : Int) < (N : Int) + 1 := by omega
          have m0 : m < N + 1 := hlt2
          obtain ⟨u, hu⟩ : ∃ G, x (k + m) = G := ⟨_, rfl⟩
          have HU := Lib.hid hu
          obtain ⟨l', hl'⟩ : ∃ G, Yx.loW x k m = G := ⟨_, rfl⟩
          obtain ⟨h', hh'⟩ : ∃ G, Yx.hiW x k m = G := ⟨_, rfl⟩
          have HLe := Lib.hid hl'; have HHe := Lib.hid hh'
          rw [hu] at e1
          rw [hl', hh']
          clear hu hl' hh' W1
          go_wp2_with (fail)
          go_roundw
          case rel => exact ⟨m + 1, by omega, by go_num, by rw [HL.out, HLe.out, HU.out]; exact int_eq (by split <;> omega), by rw [HH.out, HHe.out, HU.out]; exact int_eq (by split <;> omega), _, rfl⟩
          case measure => simp [intOf]; omega
        · obtain rfl : m = N + 1 := by omega
          have W1 := Yx.win_bd HB.out (i := k) (by omega) (N + 1) (by omega)
          have W2 := Yx.loW_le_hiW x k (N + 1)
          obtain ⟨l', hl'⟩ : ∃ G, Yx.loW x k (N + 1) = G := ⟨_, rfl⟩
          obtain ⟨h', hh'⟩ : ∃ G, Yx.hiW x k (N + 1) = G := ⟨_, rfl⟩
          have HLe := Lib.hid hl'; have HHe := Lib.hid hh'
          rw [hl', hh'] at W1 W2
          rw [hl', hh']
          have v1 := W1.1; have v2 := W1.2.1; have v3 := W1.2.2.1; have v4 := W1.2.2.2
          clear hl' hh' W1
          go_wp2_with (fail)
          go_roundw
          case rel => exact ⟨k + 1, by omega, by go_num, by rw [HGs.out, HGe.out, HLe.out, HHe.out]; exact int_eq (by split <;> omega), _, rfl⟩
          case measure => simp [intOf]; omega
    · go_wp2_with (fail)
      go_ret2
      exact ⟨ret_ii (by rw [show len - N = k by omega]) rfl, _, rfl⟩
theorem range_any (a : Option Addr) (len cap : Nat) (x : Nat → Int) (n : Int) (w : World) (S : Is w a len x) (hlc : len ≤ cap) (hcc : cap ≤ 9223372036854775807) :
    Calls Try.prog 14 #[.slice a len cap, .int .i64 n] w fun e w' => e = .returned (.tuple #[.int .i64 (Yx.rng len x n), .int .i64 (Yx.rngE len x n)]) ∧ ∃ q, w' = w.drewN q := by
  by_cases h : Yx.chk len x = 0 ∧ 1 ≤ n ∧ n ≤ (len : Int) - 1
  · obtain ⟨N, rfl⟩ := Int.eq_ofNat_of_zero_le (show 0 ≤ n by omega)
    have e1 : Yx.rng len x N = Yx.gr x N (len - N) := by unfold Yx.rng; rw [if_pos h]; simp
    have e2 : Yx.rngE len x N = 0 := by unfold Yx.rngE; rw [if_pos h.1, if_neg (by omega)]
    rw [e1, e2]
    exact range_yes a len cap x N w S hlc hcc h.1 (by omega) (by omega)
  · exact (range_no a len cap x n w S (by omega) h).mono fun e w' ⟨he, hw⟩ => ⟨he, 0, by rw [← hw]; rfl⟩
end Go.Proofs.Ytbidogefodfakaa.YxW
