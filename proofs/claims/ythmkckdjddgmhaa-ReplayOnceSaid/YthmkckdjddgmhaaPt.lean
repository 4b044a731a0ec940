/- The law ReplayOnce. -/
import Derived.Test.YthmkckdjddgmhaaPp
import Derived.Test.YthmkckdjddgmhaaPk
import Derived.Test.YthmkckdjddgmhaaPq
set_option linter.unusedVariables false
set_option linter.unusedSimpArgs false
namespace Go.Proofs.Ythmkckdjddgmhaa.PxW
open Go.RowKit Go.Proofs.Ythmkckdjddgmhaa.Rw

set_option maxHeartbeats 16000000 in
set_option maxRecDepth 100000 in
theorem law_ReplayOnce (size : Int) (h0 : 0 ≤ size) (h1 : size ≤ 255) (a1 : Option Addr) (l1 c1 : Nat) (zs1 : List Int) (w : World) (S1 : In.IsInts .i64 w a1 l1 c1 zs1) :
    Calls Try.prog 7 #[.int .u8 size, .slice a1 l1 c1] w fun e w' => e = .returned (.bool true) ∧ Below w.heap.size w w' := by
  have hl1 := S1.lens
  have T1 := Lib.hid S1
  clear S1
  go_enter Try.func7, Try.ntmps7
  go_wp2_with (fail)
  refine (new_yes _ (by omega) (by omega) _).mono ?_
  rintro e w1 ⟨rfl, W1, B1⟩
  have HW := Lib.hid W1; have HB := Lib.hid B1
  clear W1 B1
  go_upto_region 7 with (fail)
  go_cut [25, 26, 27] (fun s31 s32 s33 wx => ∃ N : Nat, N ≤ l1 ∧ N ≤ 300 ∧ s31 = .slice a1 N c1 ∧ s32 = .int .i64 N ∧ s33 = .int .i64 0 ∧ w1 = wx)
  case first =>
    by_cases h300 : l1 ≤ 300
    · go_wp2_with (fail)
      go_meet
      exact ⟨l1, by omega, by omega, rfl, by first | rfl | go_num, rfl, rfl⟩
    · go_wp2_with (fail)
      go_meet
      exact ⟨300, by omega, by omega, rfl, by first | rfl | go_num, rfl, rfl⟩
  case rest =>
    obtain ⟨N, hN1, hN2, rfl, rfl, rfl, rfl⟩ := hcut
    go_wp2_with (fail)
    go_loopw [27, 7, 8] (fun c v t wr => ∃ (k : Nat) (next : Int) (B : Nat) (l : List Int), k ≤ N ∧ c = .int .i64 k ∧ t = .int .i64 (next - 1) ∧ l.length ≤ k ∧ Win wr w.heap.size (size + 1) next B ∧ 0 ≤ next ∧ next ≤ 4611686018427387905 ∧ Px.Seen next B l ∧ Row wr w.heap.size v l ∧ Below w.heap.size w wr) (fun c _ _ _ => N - (intOf c).toNat)
    case atStart => exact ⟨0, 0, 0, [], by omega, rfl, by first | rfl | go_num, by simp, HW.out, by omega, by omega, Px.Seen.nil, Row.nil _ _, HB.out⟩
    case round =>
      obtain ⟨k, next, B, l, hk, rfl, rfl, hlen, W, n0, n1, S, R, hB⟩ := hrel
      have HS := Lib.hid S; have HR := Lib.hid R; have HW' := Lib.hid W; have HB' := Lib.hid hB
      clear S R W hB HW HB
      by_cases hlt : k < N
      · obtain ⟨b, o, rfl, hb, hc, _⟩ := T1.out.elem k (by omega)
        have hc' : wr.cell? ⟨b, o + k, none⟩ = some (.int .i64 (zs1.getD k 0)) := (HB'.out.cell (p := ⟨b, o + k, none⟩) hb).trans hc
        obtain ⟨z, hz⟩ : ∃ z, z = zs1.getD k 0 := ⟨_, rfl⟩
        rw [← hz] at hc'
        clear hz hc
        by_cases q1 : z < 0
        · have r0 := Lib.hid (show Px.refuse (size + 1) next B z = 3 by unfold Px.refuse; rw [if_pos (.inl q1)])
          go_wp2_with (fail)
          refine (can_at r0 rfl _ HW'.out (by omega) (by omega) n0 n1).mono ?_
          rintro e w' ⟨rfl, rfl⟩
          go_wp2_with (fail)
          refine (accept_no z _ HW'.out (by omega) (by omega) n0 n1 3 r0 rfl).mono ?_
          rintro e w' ⟨rfl, rfl⟩
          go_wp2_with (fail)
          refine (can_at r0 rfl _ HW'.out (by omega) (by omega) n0 n1).mono ?_
          rintro e w' ⟨rfl, rfl⟩
          go_wp2_with (fail)
          refine (top_any _ HW'.out n0 n1).mono ?_
          rintro e w' ⟨rfl, rfl⟩
          go_wp2_with (fail)
          go_roundw
          case rel => exact ⟨k + 1, next, B, l, by omega, by go_num, rfl, by omega, HW'.out, n0, n1, HS.out, HR.out, HB'.out⟩
          case measure => simp [intOf]; omega
        by_cases q2 : 4611686018427387904 < z
        · have r0 := Lib.hid (show Px.refuse (size + 1) next B z = 3 by unfold Px.refuse; rw [if_pos (.inr q2)])
          go_wp2_with (fail)
          refine (can_at r0 rfl _ HW'.out (by omega) (by omega) n0 n1).mono ?_
          rintro e w' ⟨rfl, rfl⟩
          go_wp2_with (fail)
          refine (accept_no z _ HW'.out (by omega) (by omega) n0 n1 3 r0 rfl).mono ?_
          rintro e w' ⟨rfl, rfl⟩
          go_wp2_with (fail)
          refine (can_at r0 rfl _ HW'.out (by omega) (by omega) n0 n1).mono ?_
          rintro e w' ⟨rfl, rfl⟩
          go_wp2_with (fail)
          refine (top_any _ HW'.out n0 n1).mono ?_
          rintro e w' ⟨rfl, rfl⟩
          go_wp2_with (fail)
          go_roundw
          case rel => exact ⟨k + 1, next, B, l, by omega, by go_num, rfl, by omega, HW'.out, n0, n1, HS.out, HR.out, HB'.out⟩
          case measure => simp [intOf]; omega
        by_cases q3 : z ≤ next - 1 - (size + 1)
        · have r0 := Lib.hid (HS.out.stale (size := size + 1) (n := z) (by omega) (by omega) (by omega) q3)
          go_wp2_with (fail)
          refine (can_at r0 rfl _ HW'.out (by omega) (by omega) n0 n1).mono ?_
          rintro e w' ⟨rfl, rfl⟩
          go_wp2_with (fail)
          refine (accept_no z _ HW'.out (by omega) (by omega) n0 n1 17 r0 rfl).mono ?_
          rintro e w' ⟨rfl, rfl⟩
          go_wp2_with (fail)
          refine (can_at r0 rfl _ HW'.out (by omega) (by omega) n0 n1).mono ?_
          rintro e w' ⟨rfl, rfl⟩
          go_wp2_with (fail)
          refine (top_any _ HW'.out n0 n1).mono ?_
          rintro e w' ⟨rfl, rfl⟩
          go_wp2_with (fail)
          go_roundw
          case rel => exact ⟨k + 1, next, B, l, by omega, by go_num, rfl, by omega, HW'.out, n0, n1, HS.out, HR.out, HB'.out⟩
          case measure => simp [intOf]; omega
        by_cases q4 : z ∈ l
        · have r0 := Lib.hid (HS.out.twice (size := size + 1) (n := z) (by omega) (by omega) (by omega) q3 q4)
          have HM := Lib.hid (show decide (z ∈ l) = true from decide_eq_true q4)
          clear q4
          go_wp2_with (fail)
          refine (contains_any z _ HR.out (by omega)).mono ?_
          rw [HM.out]
          rintro e w' ⟨rfl, rfl⟩
          go_wp2_with (fail)
          refine (can_at r0 rfl _ HW'.out (by omega) (by omega) n0 n1).mono ?_
          rintro e w' ⟨rfl, rfl⟩
          go_wp2_with (fail)
          refine (accept_no z _ HW'.out (by omega) (by omega) n0 n1 10 r0 rfl).mono ?_
          rintro e w' ⟨rfl, rfl⟩
          go_wp2_with (fail)
          refine (can_at r0 rfl _ HW'.out (by omega) (by omega) n0 n1).mono ?_
          rintro e w' ⟨rfl, rfl⟩
          go_wp2_with (fail)
          refine (top_any _ HW'.out n0 n1).mono ?_
          rintro e w' ⟨rfl, rfl⟩
          go_wp2_with (fail)
          go_roundw
          case rel => exact ⟨k + 1, next, B, l, by omega, by go_num, rfl, by omega, HW'.out, n0, n1, HS.out, HR.out, HB'.out⟩
          case measure => simp [intOf]; omega
        have r0 := Lib.hid (HS.out.fresh (size := size + 1) (n := z) (by omega) (by omega) (by omega) q3 q4)
        have HM := Lib.hid (show decide (z ∈ l) = false from decide_eq_false q4)
        clear q4
        by_cases q5 : next ≤ z
        · have x1 := Lib.hid (Px.nextOf_up (next := next) (n := z) q5)
          obtain ⟨U, hU⟩ : ∃ U, Px.bitsOf next B z = U := ⟨_, rfl⟩
          have x2 := Lib.hid hU
          have S2 := HS.out.up n0 q5
          rw [hU] at S2
          have HS2 := Lib.hid S2
          have r2 := Lib.hid (S2.twice (size := size + 1) (n := z) (by omega) (by omega) (by omega) (by omega) (by simp))
          have ln : (l ++ [z]).length ≤ k + 1 := by simp; omega
          clear hU S2
          go_wp2_with (fail)
          refine (contains_any z _ HR.out (by omega)).mono ?_
          rw [HM.out]
          rintro e w' ⟨rfl, rfl⟩
          go_wp2_with (fail)
          refine (can_at r0 rfl _ HW'.out (by omega) (by omega) n0 n1).mono ?_
          rintro e w' ⟨rfl, rfl⟩
          go_wp2_with (fail)
          refine (accept_at z r0 x1 x2 _ HW'.out (by omega) (by omega) n0 n1).mono ?_
          rintro e wa ⟨rfl, W, hbut⟩
          have R := HR.out.but HW'.out.blk (by decide) hbut
          have BB := hbut.toBelow (Nat.le_refl _) HB'.out HB'.out.size
          have HWa := Lib.hid W; have HRa := Lib.hid R; have HBa := Lib.hid BB
          clear W R BB hbut HW' HR HB'
          go_wp2_with (fail)
          refine (can_at r2 rfl _ HWa.out (by omega) (by omega) (by omega) (by omega)).mono ?_
          rintro e w' ⟨rfl, rfl⟩
          have cz := Lib.hid (show (wa.alloc (.cells #[.int .i64 z] 3 (0, 0))).cell? ⟨wa.heap.size, 0, none⟩ = some (.int .i64 z) from Hp.blk_cell (Hp.blk_new wa (.cells #[.int .i64 z] 3 (0, 0))) rfl)
          have sm := Lib.hid (show l.length ≤ 1000000 by omega)
          have bs := Lib.hid (show w.heap.size ≤ (wa.alloc (.cells #[.int .i64 z] 3 (0, 0))).heap.size by have := HBa.out.size; simp; omega)
          have Rx := Lib.hid (HRa.out.alloc (.cells #[.int .i64 z] 3 (0, 0)))
          go_wp2_with (at_builtin; refine append_int rfl (.tmp 65) (.tmp 67) rfl rfl Rx.out ⟨wa.heap.size, 0, none⟩ rfl cz.out sm.out bs.out ?_; intro v2 w2 R2 G2; have HR2 := Lib.hid R2; have HG2 := Lib.hid G2; clear R2 G2)
          have HBx : Below w.heap.size w (wa.alloc (.cells #[.int .i64 z] 3 (0, 0))) := HBa.out.alloc HBa.out.size _
          have W2 : Win w2 w.heap.size (size + 1) (z + 1) U := ⟨(HRa.out.alloc (.cells #[.int .i64 z] 3 (0, 0))).grown (Hp.blk_old HWa.out.blk) (by decide) HG2.out⟩
          have B2 : Below w.heap.size w w2 := (HRa.out.alloc (.cells #[.int .i64 z] 3 (0, 0))).below (Nat.le_refl _) HG2.out HBx HBx.size
          have HW2 := Lib.hid W2; have HB2 := Lib.hid B2
          clear W2 B2 HBx HG2
          go_wp2_with (fail)
          refine (top_any _ HW2.out (by omega) (by omega)).mono ?_
          rintro e w' ⟨rfl, rfl⟩
          go_wp2_with (fail)
          go_roundw
          case rel => exact ⟨k + 1, z + 1, U, l ++ [z], by omega, by go_num, by first | rfl | go_num, ln, HW2.out, by omega, by omega, HS2.out, HR2.out, HB2.out⟩
          case measure => simp [intOf]; omega
        · have x1 := Lib.hid (Px.nextOf_low (next := next) (n := z) q5)
          obtain ⟨U, hU⟩ : ∃ U, Px.bitsOf next B z = U := ⟨_, rfl⟩
          have x2 := Lib.hid hU
          have S2 := HS.out.low (by omega) q5 (by omega)
          rw [hU] at S2
          have HS2 := Lib.hid S2
          have r2 := Lib.hid (S2.twice (size := size + 1) (n := z) (by omega) (by omega) (by omega) (by omega) (by simp))
          have ln : (l ++ [z]).length ≤ k + 1 := by simp; omega
          clear hU S2
          go_wp2_with (fail)
          refine (contains_any z _ HR.out (by omega)).mono ?_
          rw [HM.out]
          rintro e w' ⟨rfl, rfl⟩
          go_wp2_with (fail)
          refine (can_at r0 rfl _ HW'.out (by omega) (by omega) n0 n1).mono ?_
          rintro e w' ⟨rfl, rfl⟩
          go_wp2_with (fail)
          refine (accept_at z r0 x1 x2 _ HW'.out (by omega) (by omega) n0 n1).mono ?_
          rintro e wa ⟨rfl, W, hbut⟩
          have R := HR.out.but HW'.out.blk (by decide) hbut
          have BB := hbut.toBelow (Nat.le_refl _) HB'.out HB'.out.size
          have HWa := Lib.hid W; have HRa := Lib.hid R; have HBa := Lib.hid BB
          clear W R BB hbut HW' HR HB'
          go_wp2_with (fail)
          refine (can_at r2 rfl _ HWa.out (by omega) (by omega) (by omega) (by omega)).mono ?_
          rintro e w' ⟨rfl, rfl⟩
          have cz := Lib.hid (show (wa.alloc (.cells #[.int .i64 z] 3 (0, 0))).cell? ⟨wa.heap.size, 0, none⟩ = some (.int .i64 z) from Hp.blk_cell (Hp.blk_new wa (.cells #[.int .i64 z] 3 (0, 0))) rfl)
          have sm := Lib.hid (show l.length ≤ 1000000 by omega)
          have bs := Lib.hid (show w.heap.size ≤ (wa.alloc (.cells #[.int .i64 z] 3 (0, 0))).heap.size by have := HBa.out.size; simp; omega)
          have Rx := Lib.hid (HRa.out.alloc (.cells #[.int .i64 z] 3 (0, 0)))
          go_wp2_with (at_builtin; refine append_int rfl (.tmp 65) (.tmp 67) rfl rfl Rx.out ⟨wa.heap.size, 0, none⟩ rfl cz.out sm.out bs.out ?_; intro v2 w2 R2 G2; have HR2 := Lib.hid R2; have HG2 := Lib.hid G2; clear R2 G2)
          have HBx : Below w.heap.size w (wa.alloc (.cells #[.int .i64 z] 3 (0, 0))) := HBa.out.alloc HBa.out.size _
          have W2 : Win w2 w.heap.size (size + 1) (next) U := ⟨(HRa.out.alloc (.cells #[.int .i64 z] 3 (0, 0))).grown (Hp.blk_old HWa.out.blk) (by decide) HG2.out⟩
          have B2 : Below w.heap.size w w2 := (HRa.out.alloc (.cells #[.int .i64 z] 3 (0, 0))).below (Nat.le_refl _) HG2.out HBx HBx.size
          have HW2 := Lib.hid W2; have HB2 := Lib.hid B2
          clear W2 B2 HBx HG2
          go_wp2_with (fail)
          refine (top_any _ HW2.out (by omega) (by omega)).mono ?_
          rintro e w' ⟨rfl, rfl⟩
          go_wp2_with (fail)
          go_roundw
          case rel => exact ⟨k + 1, next, U, l ++ [z], by omega, by go_num, by first | rfl | go_num, ln, HW2.out, by omega, by omega, HS2.out, HR2.out, HB2.out⟩
          case measure => simp [intOf]; omega
      · -- the end: what is missing
        obtain ⟨M, hM⟩ : ∃ M : Nat, (M : Int) = min (size + 1) next := ⟨(min (size + 1) next).toNat, by omega⟩
        have hMt : (min (size + 1) next).toNat = M := by omega
        have m0 := Lib.hid (show ((Px.miss B (min (size + 1) next).toNat : Nat) : Int) = (Px.miss B M : Int) by rw [hMt])
        have hmb := Px.miss_le B M
        have hM2 : M ≤ 256 := by omega
        have hM3 : (M : Int) ≤ next := by omega
        have hM4 : (M : Int) ≤ size + 1 := by omega
        have hM5 : (M : Int) = next ∨ (M : Int) = size + 1 := by omega
        have hM6 : max 0 (next - 1 - (size + 1) + 1) = next - M := by omega
        have HMX := Lib.hid hM6
        clear hM hMt hM6
        go_upto_region 25 with (fail)
        go_cut [13] (fun s1 wx => s1 = .int .i64 (next - M) ∧ wr = wx)
        case first =>
          go_wp2_with (fail)
          all_goals
            go_meet
            exact ⟨by go_num, rfl⟩
        case rest =>
          obtain ⟨rfl, rfl⟩ := hcut
          go_wp2_with (fail)
          go_loop [12, 13] (fun m c => ∃ j : Nat, j ≤ M ∧ c = .int .i64 (next - M + j) ∧ m = .int .i64 (Px.miss B M - Px.miss B (M - j))) (fun _ c => (next - intOf c).toNat)
          case atStart => exact ⟨0, by omega, by first | (simp; done) | go_num, by first | (simp; done) | go_num⟩
          case round =>
            obtain ⟨j, hj, rfl, rfl⟩ := hrel
            have l1 := Px.miss_le B (M - j)
            by_cases hjM : j < M
            · have st := Px.miss_step HS.out hjM hM2
              have l2 := Px.miss_le B (M - (j + 1))
              have e : next - 1 - ((M - (j + 1) : Nat) : Int) = next - M + j := by omega
              rw [e] at st
              by_cases hin : next - M + j ∈ l
              · rw [if_pos hin] at st
                have st' : Px.miss B (M - j) = Px.miss B (M - (j + 1)) := by omega
                have HST := Lib.hid st'
                have HM := Lib.hid (show decide (next - M + j ∈ l) = true from decide_eq_true hin)
                clear st st' e hin
                go_wp2_with (fail)
                refine (contains_any _ _ HR.out (by omega)).mono ?_
                rw [HM.out]
                rintro e w' ⟨rfl, rfl⟩
                go_wp2_with (fail)
                go_round
                case rel => exact ⟨j + 1, by omega, by go_num, by rw [← HST.out]⟩
                case measure => simp [intOf]; omega
              · rw [if_neg hin] at st
                have HST := Lib.hid st
                have HM := Lib.hid (show decide (next - M + j ∈ l) = false from decide_eq_false hin)
                clear st e hin
                go_wp2_with (fail)
                refine (contains_any _ _ HR.out (by omega)).mono ?_
                rw [HM.out]
                rintro e w' ⟨rfl, rfl⟩
                go_wp2_with (fail)
                go_round
                case rel => exact ⟨j + 1, by omega, by go_num, by have := HST.out; go_num⟩
                case measure => simp [intOf]; omega
            · have e0 : Px.miss B (M - j) = 0 := by rw [show M - j = 0 by omega]; rfl
              have hEq : ((Px.miss B M : Int) == (Px.miss B M : Int) - (Px.miss B (M - j) : Int)) = true := by rw [e0]; simp
              clear e0
              go_wp2_with (fail)
              refine (missing_at m0 _ HW'.out (by omega) (by omega) n0).mono ?_
              rintro e w' ⟨rfl, nq, rfl⟩
              go_wp2_with (go_at_call 13; refine (awake45_any _).mono ?_; rintro e w5 ⟨rfl, hb5⟩; obtain ⟨hc5, hf5⟩ := Hp.bcell hb5; have hs5 := hb5.size; (try simp at hs5))
              go_ret
              exact ⟨rfl, Hp.step (Hp.drewN HB'.out _) hb5⟩
end Go.Proofs.Ythmkckdjddgmhaa.PxW
