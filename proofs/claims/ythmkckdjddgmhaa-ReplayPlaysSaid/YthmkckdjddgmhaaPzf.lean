/- The law ReplayPlays. -/
import Derived.Test.YthmkckdjddgmhaaPze
import Derived.Deep.RegionWith
set_option linter.unusedVariables false
set_option linter.unusedSimpArgs false
namespace Go.Proofs.Ythmkckdjddgmhaa.PxW
open Go.RowKit Go.Proofs.Ythmkckdjddgmhaa.Rw

set_option maxHeartbeats 16000000 in
set_option maxRecDepth 100000 in
theorem plays_nil (size : Int) (hs : size < 1 ∨ (¬ size < 1 ∧ 256 < size)) (a1 : Option Addr) (l1 c1 : Nat) (z1 : Nat → Nat → Int) (w : World) (S1 : In.IsStructs [.i64, .i64] w a1 l1 c1 z1) :
    Calls Try.prog 4 #[.int .i64 size, .slice a1 l1 c1] w fun e w' => e = .returned (.bool true) ∧ Below w.heap.size w w' := by
  have hl1 := S1.lens
  have T1 := Lib.hid S1
  clear S1
  go_enter Try.func4, Try.ntmps4
  go_wp2_with (fail)
  refine (new_no size (by omega) _).mono ?_
  rintro e w' ⟨rfl, rfl⟩
  go_wp2_with (fail)
  refine (rnew_no size (by omega) _).mono ?_
  rintro e w' ⟨rfl, rfl⟩
  go_upto_region 4 with (fail)
  go_cut [23, 24, 25] (fun s31 s32 s33 wx => ∃ N : Nat, N ≤ l1 ∧ N ≤ 300 ∧ s31 = .slice a1 N c1 ∧ s32 = .int .i64 N ∧ s33 = .int .i64 0 ∧ w = wx)
  case first =>
    by_cases h300 : l1 ≤ 300
    · go_wp2_with (fail)
      go_meet
      exact ⟨l1, by omega, by omega, rfl, by first | rfl | go_num, rfl, rfl⟩
    · go_wp2_with (fail)
      go_meet
      exact ⟨300, by omega, by omega, rfl, by first | rfl | go_num, rfl, rfl⟩
  case rest =>
    obtain ⟨N, hN1, hN2, rfl, rfl, rfl, rfl⟩ := hcut
    go_wp2_with (fail)
    go_loopw [25] (fun c wr => ∃ k : Nat, k ≤ N ∧ c = .int .i64 k ∧ Below w.heap.size w wr) (fun c _ => N - (intOf c).toNat)
    case atStart => exact ⟨0, by omega, rfl, Below.refl _ _⟩
    case round =>
      obtain ⟨k, hk, rfl, hB⟩ := hrel
      have HB' := Lib.hid hB
      clear hB
      by_cases hlt : k < N
      · -- one deed
        obtain ⟨b, o, rfl, hb, hc⟩ := T1.out.elem (by decide) k (by omega)
        have hc0 : wr.cell? ⟨b, o + (k * 2 + 0), none⟩ = some (.int .i64 (z1 k 0)) := (HB'.out.cell (p := ⟨b, _, none⟩) hb).trans (hc 0 .i64 rfl).1
        have hc1 : wr.cell? ⟨b, o + (k * 2 + 1), none⟩ = some (.int .i64 (z1 k 1)) := (HB'.out.cell (p := ⟨b, _, none⟩) hb).trans (hc 1 .i64 rfl).1
        obtain ⟨kd, hkd⟩ : ∃ x, x = z1 k 0 := ⟨_, rfl⟩
        obtain ⟨z, hz⟩ : ∃ x, x = z1 k 1 := ⟨_, rfl⟩
        rw [← hkd] at hc0
        rw [← hz] at hc1
        have ea : o + (k * 2 + 0) = o + k * 2 := by omega
        have eb : o + (k * 2 + 1) = o + k * 2 + 1 := by omega
        rw [ea] at hc0
        rw [eb] at hc1
        clear hkd hz hc ea eb
        have HBx := Lib.hid (HB'.out.alloc HB'.out.size (.cells #[.int .i64 kd, .int .i64 z] 35 (0, 0)))
        have TAIL : True := trivial
        by_cases k0 : kd = 0
        · subst k0
          go_wp2_with (fail)
          go_quiet (first | (go_at_call 10; exact Qb.same (accept_nil _ _)) | (go_at_call 15; exact Qb.same (raccept_nil _ _)))
          go_wp2_with (first | (go_at_call 12; refine (top_nil _).mono ?_; rintro e w' ⟨rfl, rfl⟩) | (go_at_call 20; refine (rtop_nil _).mono ?_; rintro e w' ⟨rfl, rfl⟩) | (go_at_call 11; refine (missing_nil _).mono ?_; rintro e w' ⟨rfl, rfl⟩) | (go_at_call 21; refine (rmissing_nil _).mono ?_; rintro e w' ⟨rfl, rfl⟩))
          go_roundw
          case rel => exact ⟨k + 1, by omega, by go_num, Hp.drewN HBx.out _⟩
          case measure => simp [intOf]; omega
        by_cases k1 : kd = 1
        · subst k1
          go_wp2_with (fail)
          go_quiet (first | (go_at_call 10; exact Qb.same (accept_nil _ _)) | (go_at_call 15; exact Qb.same (raccept_nil _ _)))
          go_wp2_with (first | (go_at_call 12; refine (top_nil _).mono ?_; rintro e w' ⟨rfl, rfl⟩) | (go_at_call 20; refine (rtop_nil _).mono ?_; rintro e w' ⟨rfl, rfl⟩) | (go_at_call 11; refine (missing_nil _).mono ?_; rintro e w' ⟨rfl, rfl⟩) | (go_at_call 21; refine (rmissing_nil _).mono ?_; rintro e w' ⟨rfl, rfl⟩))
          go_roundw
          case rel => exact ⟨k + 1, by omega, by go_num, Hp.drewN HBx.out _⟩
          case measure => simp [intOf]; omega
        by_cases k2 : kd = 2
        · subst k2
          go_wp2_with (fail)
          go_quiet (first | (go_at_call 16; exact Qb.same (can_nil _ _)) | (go_at_call 17; exact Calls.quiet_of (rcan_nil _ _)))
          go_wp2_with (first | (go_at_call 12; refine (top_nil _).mono ?_; rintro e w' ⟨rfl, rfl⟩) | (go_at_call 20; refine (rtop_nil _).mono ?_; rintro e w' ⟨rfl, rfl⟩) | (go_at_call 11; refine (missing_nil _).mono ?_; rintro e w' ⟨rfl, rfl⟩) | (go_at_call 21; refine (rmissing_nil _).mono ?_; rintro e w' ⟨rfl, rfl⟩))
          go_roundw
          case rel => exact ⟨k + 1, by omega, by go_num, Hp.drewN HBx.out _⟩
          case measure => simp [intOf]; omega
        by_cases k3 : kd = 3
        · subst k3
          go_wp2_with (first | (go_at_call 18; refine (reset_nil _).mono ?_; rintro e w' ⟨rfl, rfl⟩) | (go_at_call 19; refine (rreset_nil _).mono ?_; rintro e w' ⟨rfl, rfl⟩))
          go_wp2_with (first | (go_at_call 12; refine (top_nil _).mono ?_; rintro e w' ⟨rfl, rfl⟩) | (go_at_call 20; refine (rtop_nil _).mono ?_; rintro e w' ⟨rfl, rfl⟩) | (go_at_call 11; refine (missing_nil _).mono ?_; rintro e w' ⟨rfl, rfl⟩) | (go_at_call 21; refine (rmissing_nil _).mono ?_; rintro e w' ⟨rfl, rfl⟩))
          go_roundw
          case rel => exact ⟨k + 1, by omega, by go_num, HBx.out⟩
          case measure => simp [intOf]; omega
        · have f0 : (kd == 0) = false := by simp [k0]
          have f1 : (kd == 1) = false := by simp [k1]
          have f2 : (kd == 2) = false := by simp [k2]
          have f3 : (kd == 3) = false := by simp [k3]
          clear k0 k1 k2 k3
          go_wp2_with (first | (go_at_call 12; refine (top_nil _).mono ?_; rintro e w' ⟨rfl, rfl⟩) | (go_at_call 20; refine (rtop_nil _).mono ?_; rintro e w' ⟨rfl, rfl⟩) | (go_at_call 11; refine (missing_nil _).mono ?_; rintro e w' ⟨rfl, rfl⟩) | (go_at_call 21; refine (rmissing_nil _).mono ?_; rintro e w' ⟨rfl, rfl⟩))
          go_roundw
          case rel => exact ⟨k + 1, by omega, by go_num, HBx.out⟩
          case measure => simp [intOf]; omega
      · go_wp2_with (go_at_call 13; refine (awake45_any _).mono ?_; rintro e w5 ⟨rfl, hb5⟩; obtain ⟨hc5, hf5⟩ := Hp.bcell hb5; have hs5 := hb5.size; (try simp at hs5))
        go_ret
        exact ⟨rfl, Hp.step HB'.out hb5⟩
end Go.Proofs.Ythmkckdjddgmhaa.PxW
