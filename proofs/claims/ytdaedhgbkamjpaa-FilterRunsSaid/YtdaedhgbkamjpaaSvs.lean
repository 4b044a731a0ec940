/- Contracts of package sample and its reference: small ones. -/
import Derived.Test.YtdaedhgbkamjpaaSw
import Derived.Test.YtdaedhgbkamjpaaRm
set_option linter.unusedVariables false
set_option linter.unusedSimpArgs false
namespace Go.Proofs.Ytdaedhgbkamjpaa.FxW
open Go.RowKit

set_option maxHeartbeats 400000 in
theorem istime_any (t : Int) (w : World) : Calls Try.prog 41 #[.int .i64 t] w fun e w' => e = .returned (.bool (Sx.timeB t)) ∧ w = w' := by
  by_cases h : -4503599627370496 ≤ t
  · by_cases h' : t ≤ 4503599627370496
    · have F := Lib.hid (Sx.timeB_iff.2 ⟨h, h'⟩)
      go_enter Try.func41, Try.ntmps41
      go_wp2
      go_ret
      exact ⟨ret_bool F.out.symm, rfl⟩
    · have F := Lib.hid (show Sx.timeB t = false from decide_eq_false (by omega))
      go_enter Try.func41, Try.ntmps41
      go_wp2
      go_ret
      exact ⟨ret_bool F.out.symm, rfl⟩
  · have F := Lib.hid (show Sx.timeB t = false from decide_eq_false (by omega))
    go_enter Try.func41, Try.ntmps41
    go_wp2
    go_ret
    exact ⟨ret_bool F.out.symm, rfl⟩
set_option maxHeartbeats 400000 in
theorem ristime_any (t : Int) (w : World) : Calls Try.prog 47 #[.int .i64 t] w fun e w' => e = .returned (.bool (Sx.timeB t)) ∧ w = w' := by
  by_cases h : -4503599627370496 ≤ t
  · by_cases h' : t ≤ 4503599627370496
    · have F := Lib.hid (Sx.timeB_iff.2 ⟨h, h'⟩)
      go_enter Try.func47, Try.ntmps47
      go_wp2
      go_ret
      exact ⟨ret_bool F.out.symm, rfl⟩
    · have F := Lib.hid (show Sx.timeB t = false from decide_eq_false (by omega))
      go_enter Try.func47, Try.ntmps47
      go_wp2
      go_ret
      exact ⟨ret_bool F.out.symm, rfl⟩
  · have F := Lib.hid (show Sx.timeB t = false from decide_eq_false (by omega))
    go_enter Try.func47, Try.ntmps47
    go_wp2
    go_ret
    exact ⟨ret_bool F.out.symm, rfl⟩
set_option maxHeartbeats 400000 in
theorem istol_any (t : Int) (w : World) : Calls Try.prog 42 #[.int .i64 t] w fun e w' => e = .returned (.bool (Sx.tolB t)) ∧ w = w' := by
  by_cases h : 0 ≤ t
  · by_cases h' : t ≤ 500000
    · have F := Lib.hid (Sx.tolB_iff.2 ⟨h, h'⟩)
      go_enter Try.func42, Try.ntmps42
      go_wp2
      go_ret
      exact ⟨ret_bool F.out.symm, rfl⟩
    · have F := Lib.hid (show Sx.tolB t = false from decide_eq_false (by omega))
      go_enter Try.func42, Try.ntmps42
      go_wp2
      go_ret
      exact ⟨ret_bool F.out.symm, rfl⟩
  · have F := Lib.hid (show Sx.tolB t = false from decide_eq_false (by omega))
    go_enter Try.func42, Try.ntmps42
    go_wp2
    go_ret
    exact ⟨ret_bool F.out.symm, rfl⟩
set_option maxHeartbeats 400000 in
theorem ristol_any (t : Int) (w : World) : Calls Try.prog 48 #[.int .i64 t] w fun e w' => e = .returned (.bool (Sx.tolB t)) ∧ w = w' := by
  by_cases h : 0 ≤ t
  · by_cases h' : t ≤ 500000
    · have F := Lib.hid (Sx.tolB_iff.2 ⟨h, h'⟩)
      go_enter Try.func48, Try.ntmps48
      go_wp2
      go_ret
      exact ⟨ret_bool F.out.symm, rfl⟩
    · have F := Lib.hid (show Sx.tolB t = false from decide_eq_false (by omega))
      go_enter Try.func48, Try.ntmps48
      go_wp2
      go_ret
      exact ⟨ret_bool F.out.symm, rfl⟩
  · have F := Lib.hid (show Sx.tolB t = false from decide_eq_false (by omega))
    go_enter Try.func48, Try.ntmps48
    go_wp2
    go_ret
    exact ⟨ret_bool F.out.symm, rfl⟩
set_option maxHeartbeats 400000 in
theorem sgrowth_any (d t : Int) (h0 : 0 ≤ d) (h1 : d ≤ 9007199254740992) (t0 : 0 ≤ t) (t1 : t ≤ 500000) (w : World) :
    Calls Try.prog 43 #[.int .i64 d, .int .i64 t] w fun e w' => e = .returned (.int .i64 (Sx.gr d t)) ∧ ∃ n, w' = w.drewN n := by
  obtain ⟨g1, g2, g3, _, _⟩ := Sx.gr_facts d t h0 h1 t0 t1
  have G := Lib.hid g1
  clear g1
  go_enter Try.func43, Try.ntmps43
  go_wp2_with (go_at_call 51; refine (muldiv_any _ _ _ (by omega) (by omega) (by omega) (by omega) (by omega) (by omega) _).mono ?_; rw [G.out]; rintro e w' ⟨rfl, nq, rfl⟩)
  go_ret
  exact ⟨rfl, nq, rfl⟩
set_option maxHeartbeats 400000 in
theorem rgrowth_any (d t : Int) (h0 : 0 ≤ d) (h1 : d ≤ 9007199254740992) (t0 : 0 ≤ t) (t1 : t ≤ 500000) (w : World) :
    Calls Try.prog 49 #[.int .i64 d, .int .i64 t] w fun e w' => e = .returned (.int .i64 (Sx.gr d t)) ∧ w = w' := by
  obtain ⟨g1, g2, g3, _, _⟩ := Sx.gr_facts d t h0 h1 t0 t1
  have G := Lib.hid g1
  clear g1
  go_enter Try.func49, Try.ntmps49
  go_wp2_with (go_at_call 55; refine (rmuldiv_any _ _ _ (by omega) (by omega) (by omega) (by omega) (by omega) (by omega) _).mono ?_; rw [G.out]; rintro e w' ⟨rfl, rfl⟩)
  go_ret
  exact ⟨rfl, rfl⟩
end Go.Proofs.Ytdaedhgbkamjpaa.FxW
