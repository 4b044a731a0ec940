/- The law ReplayRises. -/
import Derived.Test.YthmkckdjddgmhaaPp
import Derived.Test.YthmkckdjddgmhaaPk
import Derived.Test.YthmkckdjddgmhaaPq
set_option linter.unusedVariables false
set_option linter.unusedSimpArgs false
namespace Go.Proofs.Ythmkckdjddgmhaa.PxW
open Go.RowKit Go.Proofs.Ythmkckdjddgmhaa.Rw

set_option maxHeartbeats 16000000 in
set_option maxRecDepth 100000 in
theorem law_ReplayRises (size start : Int) (h0 : 0 ≤ size) (h1 : size ≤ 255) (st0 : 0 ≤ start) (st1 : start ≤ 4294967295) (a1 : Option Addr) (l1 c1 : Nat) (zs1 : List Int) (w : World) (S1 : In.IsInts .u16 w a1 l1 c1 zs1) :
    Calls Try.prog 8 #[.int .u8 size, .int .u32 start, .slice a1 l1 c1] w fun e w' => e = .returned (.bool true) ∧ Below w.heap.size w w' := by
  have hl1 := S1.lens
  have T1 := Lib.hid S1
  clear S1
  go_enter Try.func8, Try.ntmps8
  go_wp2_with (fail)
  refine (new_yes _ (by omega) (by omega) _).mono ?_
  rintro e w1 ⟨rfl, W1, B1⟩
  have HW := Lib.hid W1; have HB := Lib.hid B1
  clear W1 B1
  go_upto_region 7 with (fail)
  go_cut [28, 29, 30] (fun s31 s32 s33 wx => ∃ N : Nat, N ≤ l1 ∧ N ≤ 200 ∧ s31 = .slice a1 N c1 ∧ s32 = .int .i64 N ∧ s33 = .int .i64 0 ∧ w1 = wx)
  case first =>
    by_cases h200 : l1 ≤ 200
    · go_wp2_with (fail)
      go_meet
      exact ⟨l1, by omega, by omega, rfl, by first | rfl | go_num, rfl, rfl⟩
    · go_wp2_with (fail)
      go_meet
      exact ⟨200, by omega, by omega, rfl, by first | rfl | go_num, rfl, rfl⟩
  case rest =>
    obtain ⟨N, hN1, hN2, rfl, rfl, rfl, rfl⟩ := hcut
    go_wp2_with (fail)
    go_loopw [30, 11, 9, 10] (fun c v s9 s10 wr => ∃ (k : Nat) (next : Int) (B : Nat) (l : List Int) (n : Int), k ≤ N ∧ c = .int .i64 k ∧ s9 = .int .i64 n ∧ s10 = .int .i64 (next - 1) ∧ next ≤ n ∧ n ≤ 4294967295 + 65536 * k ∧ l.length ≤ k ∧ Win wr w.heap.size (size + 1) next B ∧ 0 ≤ next ∧ Px.Seen next B l ∧ Row wr w.heap.size v l ∧ Below w.heap.size w wr) (fun c _ _ _ _ => N - (intOf c).toNat)
    case atStart => exact ⟨0, 0, 0, [], start, by omega, rfl, by first | rfl | go_num, by first | rfl | go_num, by omega, by omega, by simp, HW.out, by omega, Px.Seen.nil, Row.nil _ _, HB.out⟩
    case round =>
      obtain ⟨k, next, B, l, n, hk, rfl, rfl, rfl, m1, m2, hlen, W, n0, S, R, hB⟩ := hrel
      have HS := Lib.hid S; have HR := Lib.hid R; have HW' := Lib.hid W; have HB' := Lib.hid hB
      have sm := Lib.hid (show l.length ≤ 1000000 by omega)
      clear S R W hB HW HB
      by_cases hlt : k < N
      · obtain ⟨b, o, rfl, hb, hc, wf⟩ := T1.out.elem k (by omega)
        have zb := Hp.u16_bd wf
        have hc' : wr.cell? ⟨b, o + k, none⟩ = some (.int .u16 (zs1.getD k 0)) := (HB'.out.cell (p := ⟨b, o + k, none⟩) hb).trans hc
        obtain ⟨z, hz⟩ : ∃ z, z = zs1.getD k 0 := ⟨_, rfl⟩
        rw [← hz] at hc' zb
        clear hz hc wf
        have hnot : n ∉ l := fun h => by have := HS.out.bd _ h; omega
        have r0 := Lib.hid (HS.out.fresh (size := size + 1) (n := n) (by omega) (by omega) (by omega) (by omega) hnot)
        have x1 := Lib.hid (Px.nextOf_up (next := next) (n := n) m1)
        obtain ⟨U, hU⟩ : ∃ U, Px.bitsOf next B n = U := ⟨_, rfl⟩
        have x2 := Lib.hid hU
        have S2 := HS.out.up n0 m1
        rw [hU] at S2
        have HS2 := Lib.hid S2
        have ln : (l ++ [n]).length ≤ k + 1 := by simp; omega
        clear hU S2 hnot
        go_wp2_with (fail)
        refine (accept_at n r0 x1 x2 _ HW'.out (by omega) (by omega) n0 (by omega)).mono ?_
        rintro e wa ⟨rfl, W, hbut⟩
        have R := HR.out.but HW'.out.blk (by decide) hbut
        have BB := hbut.toBelow (Nat.le_refl _) HB'.out HB'.out.size
        have HWa := Lib.hid W; have HRa := Lib.hid R; have HBa := Lib.hid BB
        clear W R BB hbut HW' HR HB'
        go_wp2_with (fail)
        refine (top_any _ HWa.out (by omega) (by omega)).mono ?_
        rintro e w' ⟨rfl, rfl⟩
        have cz := Lib.hid (show (wa.alloc (.cells #[.int .i64 n] 3 (0, 0))).cell? ⟨wa.heap.size, 0, none⟩ = some (.int .i64 n) from Hp.blk_cell (Hp.blk_new wa (.cells #[.int .i64 n] 3 (0, 0))) rfl)
        have bs := Lib.hid (show w.heap.size ≤ (wa.alloc (.cells #[.int .i64 n] 3 (0, 0))).heap.size by have := HBa.out.size; simp; omega)
        have Rx := Lib.hid (HRa.out.alloc (.cells #[.int .i64 n] 3 (0, 0)))
        go_wp2_with (at_builtin; refine append_int rfl (.tmp 44) (.tmp 46) rfl rfl Rx.out ⟨wa.heap.size, 0, none⟩ rfl cz.out sm.out bs.out ?_; intro v2 w2 R2 G2; have HR2 := Lib.hid R2; have HG2 := Lib.hid G2; clear R2 G2)
        have HBx : Below w.heap.size w (wa.alloc (.cells #[.int .i64 n] 3 (0, 0))) := HBa.out.alloc HBa.out.size _
        have W2 : Win w2 w.heap.size (size + 1) (n + 1) U := ⟨Rx.out.grown (Hp.blk_old HWa.out.blk) (by decide) HG2.out⟩
        have B2 : Below w.heap.size w w2 := Rx.out.below (Nat.le_refl _) HG2.out HBx HBx.size
        have HW2 := Lib.hid W2; have HB2 := Lib.hid B2
        clear W2 B2 HBx HG2
        go_wp2_with (fail)
        go_roundw
        case rel => exact ⟨k + 1, n + 1, U, l ++ [n], _, by omega, by go_num, rfl, by go_num, by omega, by omega, ln, HW2.out, by omega, HS2.out, HR2.out, HB2.out⟩
        case measure => simp [intOf]; omega
      · have nx : next ≤ 4611686018427387905 := by omega
        by_cases q1 : next = 0
        · have q1' : ¬ 0 ≤ next - 1 := by omega
          have q1'' : next ≤ 0 := by omega
          clear q1
          go_wp2_with (go_at_call 13; refine (awake45_any _).mono ?_; rintro e w5 ⟨rfl, hb5⟩; obtain ⟨hc5, hf5⟩ := Hp.bcell hb5; have hs5 := hb5.size; (try simp at hs5))
          go_ret
          exact ⟨rfl, Hp.step HB'.out hb5⟩
        by_cases q2 : 0 ≤ next - 1 - (size + 1)
        · have q0 : 0 ≤ next - 1 := by omega
          have r0 := Lib.hid (HS.out.stale (size := size + 1) (n := next - 1 - (size + 1)) (by omega) (by omega) (by omega) (by omega))
          by_cases hin : next - 1 - (size + 1) + 1 ∈ l
          · have r2 := Lib.hid (HS.out.twice (size := size + 1) (n := next - 1 - (size + 1) + 1) (by omega) (by omega) (by omega) (by omega) hin)
            have HM := Lib.hid (show decide (next - 1 - (size + 1) + 1 ∈ l) = true from decide_eq_true hin)
            clear hin
            go_wp2_with (fail)
            refine (accept_no _ _ HW'.out (by omega) (by omega) n0 nx 17 r0 rfl).mono ?_
            rintro e w' ⟨rfl, rfl⟩
            go_wp2_with (fail)
            refine (can_at r2 rfl _ HW'.out (by omega) (by omega) n0 nx).mono ?_
            rintro e w' ⟨rfl, rfl⟩
            go_wp2_with (fail)
            refine (contains_any _ _ HR.out sm.out).mono ?_
            rw [HM.out]
            rintro e w' ⟨rfl, rfl⟩
            go_wp2_with (go_at_call 13; refine (awake45_any _).mono ?_; rintro e w5 ⟨rfl, hb5⟩; obtain ⟨hc5, hf5⟩ := Hp.bcell hb5; have hs5 := hb5.size; (try simp at hs5))
            go_ret
            exact ⟨rfl, Hp.step HB'.out hb5⟩
          · have r2 := Lib.hid (HS.out.fresh (size := size + 1) (n := next - 1 - (size + 1) + 1) (by omega) (by omega) (by omega) (by omega) hin)
            have HM := Lib.hid (show decide (next - 1 - (size + 1) + 1 ∈ l) = false from decide_eq_false hin)
            clear hin
            go_wp2_with (fail)
            refine (accept_no _ _ HW'.out (by omega) (by omega) n0 nx 17 r0 rfl).mono ?_
            rintro e w' ⟨rfl, rfl⟩
            go_wp2_with (fail)
            refine (can_at r2 rfl _ HW'.out (by omega) (by omega) n0 nx).mono ?_
            rintro e w' ⟨rfl, rfl⟩
            go_wp2_with (fail)
            refine (contains_any _ _ HR.out sm.out).mono ?_
            rw [HM.out]
            rintro e w' ⟨rfl, rfl⟩
            go_wp2_with (go_at_call 13; refine (awake45_any _).mono ?_; rintro e w5 ⟨rfl, hb5⟩; obtain ⟨hc5, hf5⟩ := Hp.bcell hb5; have hs5 := hb5.size; (try simp at hs5))
            go_ret
            exact ⟨rfl, Hp.step HB'.out hb5⟩
        · have q0 : 0 ≤ next - 1 := by omega
          go_wp2_with (go_at_call 13; refine (awake45_any _).mono ?_; rintro e w5 ⟨rfl, hb5⟩; obtain ⟨hc5, hf5⟩ := Hp.bcell hb5; have hs5 := hb5.size; (try simp at hs5))
          go_ret
          exact ⟨rfl, Hp.step HB'.out hb5⟩
end Go.Proofs.Ythmkckdjddgmhaa.PxW
