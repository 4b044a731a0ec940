/- Contracts of layer 48: Decimate (both). -/
import Derived.Test.YtbidogefodfakaaYr
import Derived.Test.YtbidogefodfakaaOs
set_option linter.unusedVariables false
set_option linter.unusedSimpArgs false
namespace Go.Proofs.Ytbidogefodfakaa.YxW
open Go.RowKit Ls Orw Rw
theorem ret_vi {k : IntKind} {v : Value} {a b : Int} (h : a = b) : Ending.returned (.tuple #[v, .int k a]) = .returned (.tuple #[v, .int k b]) := by rw [h]
/-- a list and an error -/
def ListPost (zs : List Int) (E : Int) (w : World) (e : Ending) (w' : World) : Prop := ∃ v, e = .returned (.tuple #[v, .int .i64 E]) ∧ Row w' w.heap.size v zs ∧ Below w.heap.size w w'
set_option maxHeartbeats 4000000 in
theorem decimate_any (a : Option Addr) (len cap : Nat) (x : Nat → Int) (n : Int) (w : World) (S : Is w a len x) (n2 : n ≤ 9223372036854775807) :
    Calls Try.prog 26 #[.slice a len cap, .int .i64 n] w (ListPost (Yx.dcL len x n) (Yx.dcE len x n) w) := by
  have hS := Lib.hid S
  by_cases hc : Yx.chk len x = 0
  · have C := Lib.hid hc
    by_cases h1 : n < 1
    · have E1 : Hid (Yx.dcE len x n = 3) := Lib.hid (by unfold Yx.dcE; rw [if_pos hc, if_pos h1])
      have E2 : Hid (Yx.dcL len x n = []) := Lib.hid (by unfold Yx.dcL; rw [if_neg (by omega)])
      clear S hc
      go_enter Try.func26, Try.ntmps26
      go_wp2_with (go_at_call 16; refine (check_at hS.out C).mono ?_; rintro e w' ⟨rfl, rfl⟩)
      go_ret2
      rw [E1.out, E2.out]
      exact ⟨_, rfl, Row.nil _ _, Below.refl _ _⟩
    · obtain ⟨N, rfl⟩ := Int.eq_ofNat_of_zero_le (show 0 ≤ n by omega)
      have E1 : Hid (Yx.dcE len x N = 0) := Lib.hid (by unfold Yx.dcE; rw [if_pos hc, if_neg h1])
      have E2 : Hid (Yx.dcL len x N = Yx.dec x N len) := Lib.hid (by unfold Yx.dcL; rw [if_pos ⟨hc, by omega⟩, Int.toNat_natCast])
      have hl := (Yx.chk_ok hc).1
      have hN : ¬ ((N : Int) = 0) := by omega
      have hN1 : (1 : Int) ≤ (N : Int) := by omega
      clear S hc
      go_enter Try.func26, Try.ntmps26
      go_wp2_with (go_at_call 16; refine (check_at hS.out C).mono ?_; rintro e w' ⟨rfl, rfl⟩)
      go_loopw [19, 7] (fun c d wr => ∃ k : Nat, k ≤ len ∧ c = .int .i64 k ∧ Row wr w.heap.size d (Yx.dec x N k) ∧ Below w.heap.size w wr) (fun c _ _ => len - (intOf c).toNat)
      case atStart => exact ⟨0, by omega, rfl, Row.nil _ _, Below.refl _ _⟩
      case round =>
        obtain ⟨k, hk, rfl, hR, hb⟩ := hrel
        have HR := Lib.hid hR; have HBl := Lib.hid hb
        have hz := hb.size
        clear hR hb
        by_cases hlt : k < len
        · obtain ⟨b, o, rfl, _, c0⟩ := (hS.out.later HBl.out).elem hlt
          obtain ⟨v, hv⟩ : ∃ v, x k = v := ⟨_, rfl⟩
          have HV := Lib.hid hv
          rw [hv] at c0
          have hm : (k : Int) % (N : Int) = ((k % N : Nat) : Int) := (Int.natCast_emod k N).symm
          by_cases hd : k % N = 0
          · have hq : ((k : Int) % (N : Int) == 0) = true := by rw [hm, hd]; rfl
            have HD := Lib.hid (show Yx.dec x N (k + 1) = Yx.dec x N k ++ [x k] by show (if k % N = 0 then _ else _) = _; rw [if_pos hd])
            have AP := Lib.hid (Ap.mk' HR.out hz v)
            have BX := Lib.hid (Below.alloc HBl.out hz (.cells #[.int .i64 v] 3))
            have sm := Lib.hid (show (Yx.dec x N k).length ≤ 1000000 by have := Yx.dec_len x N k; omega)
            clear hv hm hd
            go_wp2_with (at_builtin; refine append_int rfl (.tmp 28) (.tmp 30) rfl rfl AP.out.row ⟨wr.heap.size, 0, none⟩ rfl AP.out.cell sm.out AP.out.base ?_; intro v2 w2 R2 G2; have HR2 := Lib.hid R2; have HG2 := Lib.hid G2; clear R2 G2)
            go_roundw
            case rel => exact ⟨k + 1, by omega, by go_num, by rw [HD.out, HV.out]; exact HR2.out, Row.below AP.out.row (Nat.le_refl _) HG2.out BX.out AP.out.base⟩
            case measure => simp [intOf]; omega
          · have hq : ((k : Int) % (N : Int) == 0) = false := by rw [hm]; simp; omega
            have HD := Lib.hid (show Yx.dec x N (k + 1) = Yx.dec x N k by show (if k % N = 0 then _ else _) = _; rw [if_neg hd])
            clear hv hm hd
            go_wp2_with (fail)
            go_roundw
            case rel => exact ⟨k + 1, by omega, by go_num, by rw [HD.out]; exact HR.out, HBl.out⟩
            case measure => simp [intOf]; omega
        · obtain rfl : k = len := by omega
          go_wp2_with (fail)
          go_ret2
          rw [E1.out, E2.out]
          exact ⟨_, rfl, HR.out, HBl.out⟩
  · have E1 : Hid (Yx.dcE len x n = Yx.chk len x) := Lib.hid (by unfold Yx.dcE; rw [if_neg hc])
    have E2 : Hid (Yx.dcL len x n = []) := Lib.hid (by unfold Yx.dcL; rw [if_neg (by omega)])
    obtain ⟨r, hr⟩ : ∃ r, Yx.chk len x = r := ⟨_, rfl⟩
    have C := Lib.hid hr
    have hq : (r != 0) = true := by rw [hr] at hc; simpa using hc
    clear S hc hr
    go_enter Try.func26, Try.ntmps26
    go_wp2_with (go_at_call 16; refine (check_at hS.out C).mono ?_; rintro e w' ⟨rfl, rfl⟩)
    go_ret2
    rw [E1.out, E2.out, C.out]
    exact ⟨_, rfl, Row.nil _ _, Below.refl _ _⟩
set_option maxHeartbeats 4000000 in
theorem rdecimate_any (a : Option Addr) (len cap : Nat) (x : Nat → Int) (n : Int) (w : World) (S : Is w a len x) (n2 : n ≤ 9223372036854775807) :
    Calls Try.prog 27 #[.slice a len cap, .int .i64 n] w (ListPost (Yx.dcL len x n) (Yx.dcE len x n) w) := by
  have hS := Lib.hid S
  by_cases hc : Yx.chk len x = 0
  · have C := Lib.hid hc
    by_cases h1 : n < 1
    · have E1 : Hid (Yx.dcE len x n = 3) := Lib.hid (by unfold Yx.dcE; rw [if_pos hc, if_pos h1])
      have E2 : Hid (Yx.dcL len x n = []) := Lib.hid (by unfold Yx.dcL; rw [if_neg (by omega)])
      clear S hc
      go_enter Try.func27, Try.ntmps27
      go_wp2_with (go_at_call 17; refine (rcheck_at hS.out C).mono ?_; rintro e w' ⟨rfl, rfl⟩)
      go_ret2
      rw [E1.out, E2.out]
      exact ⟨_, rfl, Row.nil _ _, Below.refl _ _⟩
    · obtain ⟨N, rfl⟩ := Int.eq_ofNat_of_zero_le (show 0 ≤ n by omega)
      have E1 : Hid (Yx.dcE len x N = 0) := Lib.hid (by unfold Yx.dcE; rw [if_pos hc, if_neg h1])
      have E2 : Hid (Yx.dcL len x N = Yx.dec x N len) := Lib.hid (by unfold Yx.dcL; rw [if_pos ⟨hc, by omega⟩, Int.toNat_natCast])
      have hl := (Yx.chk_ok hc).1
      have hN : ¬ ((N : Int) = 0) := by omega
      have hN1 : (1 : Int) ≤ (N : Int) := by omega
      clear S hc
      go_enter Try.func27, Try.ntmps27
      go_wp2_with (go_at_call 17; refine (rcheck_at hS.out C).mono ?_; rintro e w' ⟨rfl, rfl⟩)
      go_loopw [8, 7] (fun c d wr => ∃ k : Nat, k ≤ len ∧ c = .int .i64 k ∧ Row wr w.heap.size d (Yx.dec x N k) ∧ Below w.heap.size w wr) (fun c _ _ => len - (intOf c).toNat)
      case atStart => exact ⟨0, by omega, rfl, Row.nil _ _, Below.refl _ _⟩
      case round =>
        obtain ⟨k, hk, rfl, hR, hb⟩ := hrel
        have HR := Lib.hid hR; have HBl := Lib.hid hb
        have hz := hb.size
        clear hR hb
        by_cases hlt : k < len
        · obtain ⟨b, o, rfl, _, c0⟩ := (hS.out.later HBl.out).elem hlt
          obtain ⟨v, hv⟩ : ∃ v, x k = v := ⟨_, rfl⟩
          have HV := Lib.hid hv
          rw [hv] at c0
          have hm : (k : Int) % (N : Int) = ((k % N : Nat) : Int) := (Int.natCast_emod k N).symm
          by_cases hd : k % N = 0
          · have hq : ((k : Int) % (N : Int) == 0) = true := by rw [hm, hd]; rfl
            have HD := Lib.hid (show Yx.dec x N (k + 1) = Yx.dec x N k ++ [x k] by show (if k % N = 0 then _ else _) = _; rw [if_pos hd])
            have AP := Lib.hid (Ap.mk' HR.out hz v)
            have BX := Lib.hid (Below.alloc HBl.out hz (.cells #[.int .i64 v] 3))
            have sm := Lib.hid (show (Yx.dec x N k).length ≤ 1000000 by have := Yx.dec_len x N k; omega)
            clear hv hm hd
            go_wp2_with (at_builtin; refine append_int rfl (.tmp 26) (.tmp 31) rfl rfl AP.out.row ⟨wr.heap.size, 0, none⟩ rfl AP.out.cell sm.out AP.out.base ?_; intro v2 w2 R2 G2; have HR2 := Lib.hid R2; have HG2 := Lib.hid G2; clear R2 G2)
            go_roundw
            case rel => exact ⟨k + 1, by omega, by go_num, by rw [HD.out, HV.out]; exact HR2.out, Row.below AP.out.row (Nat.le_refl _) HG2.out BX.out AP.out.base⟩
            case measure => simp [intOf]; omega
          · have hq : ((k : Int) % (N : Int) == 0) = false := by rw [hm]; simp; omega
            have HD := Lib.hid (show Yx.dec x N (k + 1) = Yx.dec x N k by show (if k % N = 0 then _ else _) = _; rw [if_neg hd])
            clear hv hm hd
            go_wp2_with (fail)
            go_roundw
            case rel => exact ⟨k + 1, by omega, by go_num, by rw [HD.out]; exact HR.out, HBl.out⟩
            case measure => simp [intOf]; omega
        · obtain rfl : k = len := by omega
          go_wp2_with (fail)
          go_ret2
          rw [E1.out, E2.out]
          exact ⟨_, rfl, HR.out, HBl.out⟩
  · have E1 : Hid (Yx.dcE len x n = Yx.chk len x) := Lib.hid (by unfold Yx.dcE; rw [if_neg hc])
    have E2 : Hid (Yx.dcL len x n = []) := Lib.hid (by unfold Yx.dcL; rw [if_neg (by omega)])
    obtain ⟨r, hr⟩ : ∃ r, Yx.chk len x = r := ⟨_, rfl⟩
    have C := Lib.hid hr
    have hq : (r != 0) = true := by rw [hr] at hc; simpa using hc
    clear S hc hr
    go_enter Try.func27, Try.ntmps27
    go_wp2_with (go_at_call 17; refine (rcheck_at hS.out C).mono ?_; rintro e w' ⟨rfl, rfl⟩)
    go_ret2
    rw [E1.out, E2.out, C.out]
    exact ⟨_, rfl, Row.nil _ _, Below.refl _ _⟩
end Go.Proofs.Ytbidogefodfakaa.YxW
