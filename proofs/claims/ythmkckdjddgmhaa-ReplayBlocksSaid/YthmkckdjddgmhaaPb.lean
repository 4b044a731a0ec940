/- The law ReplayBlocks. -/
import Derived.Test.YthmkckdjddgmhaaPp
import Derived.Test.YthmkckdjddgmhaaPk
set_option linter.unusedVariables false
set_option linter.unusedSimpArgs false
namespace Go.Proofs.Ythmkckdjddgmhaa.PxW
open Go.RowKit

theorem nx_bd {r : Bool} {b next : Int} {L j : Nat} (h : next = Px.nx r b L j) (b0 : 0 ≤ b) (b1 : b ≤ 1000000) (hL : L ≤ 256) (hj : j ≤ L) : 0 ≤ next ∧ next ≤ 4611686018427387905 := by
  subst h; unfold Px.nx; split <;> (try split) <;> omega
set_option maxHeartbeats 16000000 in
set_option maxRecDepth 100000 in
theorem law_ReplayBlocks (size : Int) (h0 : 0 ≤ size) (h1 : size ≤ 255) (a1 : Option Addr) (l1 c1 : Nat) (zs1 : List Int) (a2 : Option Addr) (l2 c2 : Nat) (z2 : Nat → Bool) (w : World) (S1 : In.IsInts .u8 w a1 l1 c1 zs1) (S2 : In.IsBools w a2 l2 c2 z2) :
    Calls Try.prog 3 #[.int .u8 size, .slice a1 l1 c1, .slice a2 l2 c2] w fun e w' => e = .returned (.bool true) ∧ Below w.heap.size w w' := by
  have hl1 := S1.lens
  have hl2 := S2.lens
  have T1 := Lib.hid S1; have T2 := Lib.hid S2
  clear S1 S2
  go_enter Try.func3, Try.ntmps3
  go_wp2_with (fail)
  refine (new_yes _ (by omega) (by omega) _).mono ?_
  rintro e w1 ⟨rfl, W1, B1⟩
  have HW := Lib.hid W1; have HB := Lib.hid B1
  clear W1 B1
  go_upto_region 6 with (fail)
  go_cut [26, 27, 28] (fun s31 s32 s33 wx => ∃ N : Nat, N ≤ l1 ∧ N ≤ 100 ∧ s31 = .slice a1 N c1 ∧ s32 = .int .i64 N ∧ s33 = .int .i64 0 ∧ w1 = wx)
  case first =>
    by_cases h100 : l1 ≤ 100
    · go_wp2_with (fail)
      go_meet
      exact ⟨l1, by omega, by omega, rfl, by first | rfl | go_num, rfl, rfl⟩
    · go_wp2_with (fail)
      go_meet
      exact ⟨100, by omega, by omega, rfl, by first | rfl | go_num, rfl, rfl⟩
  case rest =>
    obtain ⟨N, hN1, hN2, rfl, rfl, rfl, rfl⟩ := hcut
    go_wp2_with (fail)
    go_loopw [28, 9] (fun c s9 wr => ∃ (k : Nat) (b : Int) (B : Nat) (l : List Int), k ≤ N ∧ c = .int .i64 k ∧ s9 = .int .i64 b ∧ 0 ≤ b ∧ b ≤ 256 * k ∧ Win wr w.heap.size (size + 1) b B ∧ Px.Seen b B l ∧ (∀ x : Int, 0 ≤ x → b - (size + 1) ≤ x → x < b → x ∈ l) ∧ Below w.heap.size w wr) (fun c _ _ => N - (intOf c).toNat)
    case atStart => exact ⟨0, 0, 0, [], by omega, rfl, by first | rfl | go_num, by omega, by omega, HW.out, Px.Seen.nil, fun x h h' h'' => by omega, HB.out⟩
    case round =>
      obtain ⟨k, b, B0, l, hk, rfl, rfl, b0, b1, W, S, F, hB⟩ := hrel
      obtain ⟨wo, rfl⟩ : ∃ wo : World, wo = wr := ⟨_, rfl⟩
      have HS := Lib.hid S; have HF := Lib.hid F; have HW' := Lib.hid W; have HB' := Lib.hid hB
      clear S F W hB HW HB
      by_cases hlt : k < N
      · obtain ⟨bb, o, rfl, hb, hc, wf⟩ := T1.out.elem k (by omega)
        have zb := Hp.u8_bd wf
        have hc' : wo.cell? ⟨bb, o + k, none⟩ = some (.int .u8 (zs1.getD k 0)) := (HB'.out.cell (p := ⟨bb, o + k, none⟩) hb).trans hc
        obtain ⟨z, hz⟩ : ∃ z, z = zs1.getD k 0 := ⟨_, rfl⟩
        rw [← hz] at hc' zb
        clear hz hc wf
        have em := Int.emod_lt_of_pos z (show 0 < size + 1 by omega)
        have em0 := Int.emod_nonneg z (show size + 1 ≠ 0 by omega)
        obtain ⟨L, hL⟩ : ∃ L : Nat, z % (size + 1) + 1 = (L : Int) := ⟨(z % (size + 1) + 1).toNat, by omega⟩
        have L1 : 1 ≤ L := by omega
        have L2 : (L : Int) ≤ size + 1 := by omega
        have hz0 : ((size + 1 : Int) == 0) = false := by simp; omega
        obtain ⟨r, hr⟩ : ∃ r : Bool, r = (decide (k < l2) && z2 k) := ⟨_, rfl⟩
        have HR := Lib.hid hr
        clear hr em em0
        go_wp2_with (fail)
        clear hz0
        have HL := Lib.hid hL
        clear hL hc'
        go_loopw [39] (fun c wr => ∃ (j : Nat) (next : Int) (B : Nat) (l' : List Int), j ≤ L ∧ c = .int .i64 j ∧ Win wr w.heap.size (size + 1) next B ∧ Px.Seen next B l' ∧ Hid (next = Px.nx r b L j) ∧ Hid (∀ x, x ∈ l' ↔ x ∈ l ∨ Px.blk r b L j x) ∧ Below w.heap.size w wr) (fun c _ => L - (intOf c).toNat)
        case atStart => exact ⟨0, b, B0, l, by omega, rfl, HW'.out, HS.out, by show _ = _; unfold Px.nx; split <;> simp, by intro x; unfold Px.blk; split <;> (constructor; exact .inl; rintro (h | h); exact h; omega), HB'.out⟩
        case round =>
          obtain ⟨j, next, B, l', hj, rfl, W, S, HN, HM, hB⟩ := hrel
          have HS' := Lib.hid S; have HW'' := Lib.hid W; have HB'' := Lib.hid hB
          clear S W hB HW' HB'
          have HW' := HW''; have HB' := HB''
          have nb := nx_bd HN.out b0 (by omega) (by omega) hj
          obtain ⟨nb0, nb1⟩ := nb
          by_cases hjL : j < L
          · by_cases hk2 : k < l2
            · obtain ⟨b2, o2, rfl, hb2, hc2⟩ := T2.out.elem k hk2
              have hc2' : wr.cell? ⟨b2, o2 + k, none⟩ = some (.bool (z2 k)) := (HB'.out.cell (p := ⟨b2, o2 + k, none⟩) hb2).trans hc2
              cases hz2 : z2 k
              · rw [hz2] at hc2'
                have HZ2 := Lib.hid hz2
                clear hc2 hz2
                have rr : r = false := by rw [HR.out]; simp [hk2, HZ2.out]
                have HNR := HN.out; have HMR := HM.out
                rw [rr] at HNR HMR
                have RH := Lib.hid rr
                obtain ⟨r0, S2, x1, hm2⟩ := Px.block_step (r := false) (b := b) (next := next) (size := size + 1) (L := L) (j := j) (B := B) (l := l) (l' := l') b0 (by omega) (by omega) (by omega) (by omega) HS'.out HNR HMR (fun x hx => (HS.out.bd x hx).2)
                rw [show Px.num false b L j = b + j from rfl] at r0 S2 x1 hm2
                obtain ⟨U, hU⟩ : ∃ U, Px.bitsOf next B (b + j) = U := ⟨_, rfl⟩
                obtain ⟨nn, hnn⟩ : ∃ nn, Px.nextOf next (b + j) = nn := ⟨_, rfl⟩
                rw [hU, hnn] at S2
                rw [hnn] at x1
                have R0 := Lib.hid r0; have X1 := Lib.hid hnn; have X2 := Lib.hid hU; have HS2 := Lib.hid S2; have HM2 := Lib.hid hm2; have HN2 := Lib.hid x1
                clear r0 S2 x1 hm2 hU hnn rr HNR HMR
                go_wp2_with (fail)
                refine (accept_at _ R0 X1 X2 _ HW'.out (by omega) (by omega) nb0 nb1).mono ?_
                rintro e wa ⟨rfl, W, hbut⟩
                have BB := hbut.toBelow (Nat.le_refl _) HB'.out HB'.out.size
                have HWa := Lib.hid W; have HBa := Lib.hid BB
                clear W BB hbut
                go_wp2_with (fail)
                go_roundw
                case rel => exact ⟨j + 1, nn, U, l' ++ [b + j], by omega, by go_num, HWa.out, HS2.out, by rw [RH.out]; exact HN2, by rw [RH.out]; exact HM2, HBa.out⟩
                case measure => simp [intOf]; omega
              · rw [hz2] at hc2'
                have HZ2 := Lib.hid hz2
                clear hc2 hz2
                have rr : r = true := by rw [HR.out]; simp [hk2, HZ2.out]
                have HNR := HN.out; have HMR := HM.out
                rw [rr] at HNR HMR
                have RH := Lib.hid rr
                obtain ⟨r0, S2, x1, hm2⟩ := Px.block_step (r := true) (b := b) (next := next) (size := size + 1) (L := L) (j := j) (B := B) (l := l) (l' := l') b0 (by omega) (by omega) (by omega) (by omega) HS'.out HNR HMR (fun x hx => (HS.out.bd x hx).2)
                rw [show Px.num true b L j = b + L - 1 - j from rfl] at r0 S2 x1 hm2
                obtain ⟨U, hU⟩ : ∃ U, Px.bitsOf next B (b + L - 1 - j) = U := ⟨_, rfl⟩
                obtain ⟨nn, hnn⟩ : ∃ nn, Px.nextOf next (b + L - 1 - j) = nn := ⟨_, rfl⟩
                rw [hU, hnn] at S2
                rw [hnn] at x1
                have R0 := Lib.hid r0; have X1 := Lib.hid hnn; have X2 := Lib.hid hU; have HS2 := Lib.hid S2; have HM2 := Lib.hid hm2; have HN2 := Lib.hid x1
                clear r0 S2 x1 hm2 hU hnn rr HNR HMR
                go_wp2_with (fail)
                refine (accept_at _ R0 X1 X2 _ HW'.out (by omega) (by omega) nb0 nb1).mono ?_
                rintro e wa ⟨rfl, W, hbut⟩
                have BB := hbut.toBelow (Nat.le_refl _) HB'.out HB'.out.size
                have HWa := Lib.hid W; have HBa := Lib.hid BB
                clear W BB hbut
                go_wp2_with (fail)
                go_roundw
                case rel => exact ⟨j + 1, nn, U, l' ++ [b + L - 1 - j], by omega, by go_num, HWa.out, HS2.out, by rw [RH.out]; exact HN2, by rw [RH.out]; exact HM2, HBa.out⟩
                case measure => simp [intOf]; omega
            · have hd : decide (k < l2) = false := decide_eq_false hk2
              have rr : r = false := by rw [HR.out]; simp [hk2]
              have HNR := HN.out; have HMR := HM.out
              rw [rr] at HNR HMR
              have RH := Lib.hid rr
              obtain ⟨r0, S2, x1, hm2⟩ := Px.block_step (r := false) (b := b) (next := next) (size := size + 1) (L := L) (j := j) (B := B) (l := l) (l' := l') b0 (by omega) (by omega) (by omega) (by omega) HS'.out HNR HMR (fun x hx => (HS.out.bd x hx).2)
              rw [show Px.num false b L j = b + j from rfl] at r0 S2 x1 hm2
              obtain ⟨U, hU⟩ : ∃ U, Px.bitsOf next B (b + j) = U := ⟨_, rfl⟩
              obtain ⟨nn, hnn⟩ : ∃ nn, Px.nextOf next (b + j) = nn := ⟨_, rfl⟩
              rw [hU, hnn] at S2
              rw [hnn] at x1
              have R0 := Lib.hid r0; have X1 := Lib.hid hnn; have X2 := Lib.hid hU; have HS2 := Lib.hid S2; have HM2 := Lib.hid hm2; have HN2 := Lib.hid x1
              clear r0 S2 x1 hm2 hU hnn rr HNR HMR
              go_wp2_with (fail)
              refine (accept_at _ R0 X1 X2 _ HW'.out (by omega) (by omega) nb0 nb1).mono ?_
              rintro e wa ⟨rfl, W, hbut⟩
              have BB := hbut.toBelow (Nat.le_refl _) HB'.out HB'.out.size
              have HWa := Lib.hid W; have HBa := Lib.hid BB
              clear W BB hbut
              go_wp2_with (fail)
              go_roundw
              case rel => exact ⟨j + 1, nn, U, l' ++ [b + j], by omega, by go_num, HWa.out, HS2.out, by rw [RH.out]; exact HN2, by rw [RH.out]; exact HM2, HBa.out⟩
              case measure => simp [intOf]; omega
          · -- the block is done
            have e : j = L := by omega
            have E := Lib.hid (show next = b + L by have := HN.out; rw [e] at this; rw [this]; unfold Px.nx; split <;> (try split) <;> omega)
            have F2 : Hid (∀ x : Int, 0 ≤ x → b + L - (size + 1) ≤ x → x < b + L → x ∈ l') := by
              intro x x0 x1 x2
              refine (HM.out x).2 ?_
              by_cases hx : x < b
              · exact .inl (HF.out x x0 (by omega) hx)
              · right; rw [e]; unfold Px.blk; split <;> omega
            rw [E.out] at HW' HS'
            have HWe := Lib.hid HW'.out; have HSe := Lib.hid HS'.out
            have mz := Lib.hid (show ((Px.miss B (min (size + 1) (b + L) : Int).toNat : Nat) : Int) = 0 by
              rw [Px.miss_zero HSe.out _ (by omega) (fun d hd => F2.out _ (by omega) (by omega) (by omega))]; rfl)
            clear HN HM nb0 nb1
            go_wp2_with (fail)
            refine (missing_at mz _ HWe.out (by omega) (by omega) (by omega)).mono ?_
            rintro e w' ⟨rfl, nq, rfl⟩
            go_wp2_with (fail)
            refine (top_any _ HWe.out.drewN (by omega) (by omega)).mono ?_
            rintro e w' ⟨rfl, rfl⟩
            go_wp2_with (fail)
            go_roundw
            case rel => exact ⟨k + 1, b + L, B, l', by omega, by go_num, by first | rfl | go_num, by omega, by omega, HWe.out.drewN, HSe.out, F2.out, Hp.drewN HB'.out _⟩
            case measure => simp [intOf]; omega
      · go_wp2_with (go_at_call 13; refine (awake45_any _).mono ?_; rintro e w5 ⟨rfl, hb5⟩; obtain ⟨hc5, hf5⟩ := Hp.bcell hb5; have hs5 := hb5.size; (try simp at hs5))
        go_ret
        exact ⟨rfl, Hp.step HB'.out hb5⟩
end Go.Proofs.Ythmkckdjddgmhaa.PxW
