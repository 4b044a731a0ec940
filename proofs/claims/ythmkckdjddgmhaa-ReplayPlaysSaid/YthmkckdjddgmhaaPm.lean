/- The contract of Missing of package replay. -/
import Derived.Test.YthmkckdjddgmhaaPa
set_option linter.unusedVariables false
set_option linter.unusedSimpArgs false
namespace Go.Proofs.Ythmkckdjddgmhaa.PxW
open Go.RowKit

set_option maxHeartbeats 1000000 in
theorem missing_nil (w : World) :
    Calls Try.prog 11 #[.pointer none] w fun e' w' => e' = .returned (.int .i64 0) ∧ w = w' := by
  go_enter Try.func11, Try.ntmps11
  go_wp2
  go_ret
  exact ⟨rfl, rfl⟩
set_option maxHeartbeats 2000000 in
theorem missing_a {b : Nat} {size next : Int} {B : Nat} (w : World) (W : Win w b size next B) (s0 : 0 ≤ size) (s1 : size ≤ 256) (n0 : 0 ≤ next) (h : size ≤ next) :
    Calls Try.prog 11 #[.pointer (some ⟨b, 0, none⟩)] w fun e' w' => e' = .returned (.int .i64 (Px.miss B (size).toNat)) ∧ ∃ n, w' = w.drewN n := by
  have c0 := W.c0
  have c1 := W.c1
  go_enter Try.func11, Try.ntmps11
  go_wp2
  go_quiet (fail)
  go_wp2
  go_loop [16, 4, 3] (fun c d m => ∃ k : Nat, (k : Int) ≤ size ∧ c = .int .i64 k ∧ m = .int .i64 (Px.miss B k)) (fun c _ _ => (size).toNat - (intOf c).toNat)
  case atStart => exact ⟨0, by omega, rfl, rfl⟩
  case round =>
    obtain ⟨k, hk, rfl, rfl⟩ := hrel
    have hm := Px.miss_le B k
    by_cases hlt : (k : Int) < size
    · cases ht : B.testBit k
      · have hs := Px.miss_no ht
        have HT := Lib.hid ht; have HS := Lib.hid hs
        clear ht hs
        go_wp2_with (go_at_call 25; refine (has_any _ (by omega) (by omega) _ W.drewN).mono ?_; rw [Int.toNat_natCast, HT.out]; rintro e w' ⟨rfl, rfl⟩)
        go_round
        case rel => exact ⟨k + 1, by omega, by go_num, by rw [HS.out]; go_num⟩
        case measure => simp [intOf]; omega
      · have hs := Px.miss_yes ht
        have HT := Lib.hid ht; have HS := Lib.hid hs
        clear ht hs
        go_wp2_with (go_at_call 25; refine (has_any _ (by omega) (by omega) _ W.drewN).mono ?_; rw [Int.toNat_natCast, HT.out]; rintro e w' ⟨rfl, rfl⟩)
        go_round
        case rel => exact ⟨k + 1, by omega, by go_num, by rw [HS.out]⟩
        case measure => simp [intOf]; omega
    · have K : Hid (k = (size).toNat) := by show _ = _; omega
      go_wp2
      go_ret
      exact ⟨Hp.ret_int (by rw [K.out]), _, rfl⟩
set_option maxHeartbeats 2000000 in
theorem missing_b {b : Nat} {size next : Int} {B : Nat} (w : World) (W : Win w b size next B) (s0 : 0 ≤ size) (s1 : size ≤ 256) (n0 : 0 ≤ next) (h : next < size) :
    Calls Try.prog 11 #[.pointer (some ⟨b, 0, none⟩)] w fun e' w' => e' = .returned (.int .i64 (Px.miss B (next).toNat)) ∧ ∃ n, w' = w.drewN n := by
  have c0 := W.c0
  have c1 := W.c1
  go_enter Try.func11, Try.ntmps11
  go_wp2
  go_quiet (fail)
  go_wp2
  go_loop [16, 4, 3] (fun c d m => ∃ k : Nat, (k : Int) ≤ next ∧ c = .int .i64 k ∧ m = .int .i64 (Px.miss B k)) (fun c _ _ => (next).toNat - (intOf c).toNat)
  case atStart => exact ⟨0, by omega, rfl, rfl⟩
  case round =>
    obtain ⟨k, hk, rfl, rfl⟩ := hrel
    have hm := Px.miss_le B k
    by_cases hlt : (k : Int) < next
    · cases ht : B.testBit k
      · have hs := Px.miss_no ht
        have HT := Lib.hid ht; have HS := Lib.hid hs
        clear ht hs
        go_wp2_with (go_at_call 25; refine (has_any _ (by omega) (by omega) _ W.drewN).mono ?_; rw [Int.toNat_natCast, HT.out]; rintro e w' ⟨rfl, rfl⟩)
        go_round
        case rel => exact ⟨k + 1, by omega, by go_num, by rw [HS.out]; go_num⟩
        case measure => simp [intOf]; omega
      · have hs := Px.miss_yes ht
        have HT := Lib.hid ht; have HS := Lib.hid hs
        clear ht hs
        go_wp2_with (go_at_call 25; refine (has_any _ (by omega) (by omega) _ W.drewN).mono ?_; rw [Int.toNat_natCast, HT.out]; rintro e w' ⟨rfl, rfl⟩)
        go_round
        case rel => exact ⟨k + 1, by omega, by go_num, by rw [HS.out]⟩
        case measure => simp [intOf]; omega
    · have K : Hid (k = (next).toNat) := by show _ = _; omega
      go_wp2
      go_ret
      exact ⟨Hp.ret_int (by rw [K.out]), _, rfl⟩
theorem missing_any {b : Nat} {size next : Int} {B : Nat} (w : World) (W : Win w b size next B) (s0 : 0 ≤ size) (s1 : size ≤ 256) (n0 : 0 ≤ next) :
    Calls Try.prog 11 #[.pointer (some ⟨b, 0, none⟩)] w fun e' w' => e' = .returned (.int .i64 (Px.miss B (min size next).toNat)) ∧ ∃ n, w' = w.drewN n := by
  by_cases h : size ≤ next
  · rw [show min size next = size by omega]; exact missing_a w W s0 s1 n0 h
  · rw [show min size next = next by omega]; exact missing_b w W s0 s1 n0 (by omega)
end Go.Proofs.Ythmkckdjddgmhaa.PxW
