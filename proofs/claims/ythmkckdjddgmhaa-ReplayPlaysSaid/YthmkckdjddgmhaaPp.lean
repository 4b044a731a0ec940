/- The law ReplayAgain. -/
import Derived.Test.YthmkckdjddgmhaaPn
import Derived.Test.YthmkckdjddgmhaaIn
import Derived.Deep.DeepCutAuto
import Derived.LoopTactic
set_option linter.unusedVariables false
set_option linter.unusedSimpArgs false
namespace Go.Proofs.Ythmkckdjddgmhaa.PxW
open Go.RowKit

/-- the state behind Accept, whatever it returned -/
def accN (size next : Int) (B : Nat) (n : Int) : Int := if Px.refuse size next B n = 0 then Px.nextOf next n else next
def accB (size next : Int) (B : Nat) (n : Int) : Nat := if Px.refuse size next B n = 0 then Px.bitsOf next B n else B
theorem accN_bd {size next : Int} {B : Nat} {n : Int} (h0 : 0 ≤ next) (h1 : next ≤ 4611686018427387905) : 0 ≤ accN size next B n ∧ accN size next B n ≤ 4611686018427387905 := by
  unfold accN Px.nextOf
  split
  · rename_i h
    have hr : ¬ (n < 0 ∨ 4611686018427387904 < n) := by intro h'; unfold Px.refuse at h; rw [if_pos h'] at h; omega
    split <;> omega
  · omega
theorem accept_any {b : Nat} {size next : Int} {B : Nat} (n : Int) (w : World) (W : Win w b size next B) (s0 : 0 ≤ size) (s1 : size ≤ 256) (n0 : 0 ≤ next) (n1 : next ≤ 4611686018427387905) :
    Calls Try.prog 10 #[.pointer (some ⟨b, 0, none⟩), .int .i64 n] w fun e' w' => e' = .returned (.int .i64 (Px.refuse size next B n)) ∧ Win w' b size (accN size next B n) (accB size next B n) ∧ But b w w' := by
  by_cases h : Px.refuse size next B n = 0
  · have := accept_yes n w W s0 s1 n0 n1 h
    unfold accN accB; rw [if_pos h, if_pos h, h]; exact this
  · unfold accN accB; rw [if_neg h, if_neg h]
    refine (accept_no n w W s0 s1 n0 n1 _ (Lib.hid rfl) (by simp [h])).mono ?_
    rintro e w' ⟨rfl, rfl⟩
    exact ⟨rfl, W, But.refl _ _⟩
set_option maxHeartbeats 8000000 in
set_option maxRecDepth 100000 in
theorem law_ReplayAgain (size : Int) (h0 : 0 ≤ size) (h1 : size ≤ 255) (a1 a2 : Option Addr) (l1 c1 l2 c2 : Nat) (zs1 zs2 : List Int) (w : World) (S1 : In.IsInts .i64 w a1 l1 c1 zs1) (S2 : In.IsInts .i64 w a2 l2 c2 zs2) :
    Calls Try.prog 5 #[.int .u8 size, .slice a1 l1 c1, .slice a2 l2 c2] w fun e w' => e = .returned (.bool true) ∧ Below w.heap.size w w' := by
  have hl1 := S1.lens
  have hl2 := S2.lens
  have T1 := Lib.hid S1; have T2 := Lib.hid S2
  clear S1 S2
  go_enter Try.func5, Try.ntmps5
  go_wp2_with (fail)
  refine (new_yes _ (by omega) (by omega) _).mono ?_
  rintro e w1 ⟨rfl, W1, B1⟩
  have lt1 := W1.lt
  go_wp2_with (fail)
  refine (new_yes _ (by omega) (by omega) _).mono ?_
  rintro e w2 ⟨rfl, V, B2⟩
  have W2 := W1.later B2
  have BB := Hp.step B1 B2
  have HW := Lib.hid W2; have HV := Lib.hid V; have HB := Lib.hid BB
  clear W1 W2 V B1 B2 BB
  go_upto_region 4 with (fail)
  go_cut [31, 32, 33] (fun s31 s32 s33 wx => ∃ N : Nat, N ≤ l1 ∧ N ≤ 200 ∧ s31 = .slice a1 N c1 ∧ s32 = .int .i64 N ∧ s33 = .int .i64 0 ∧ w2 = wx)
  case first =>
    by_cases h200 : l1 ≤ 200
    · go_wp2_with (fail)
      go_meet
      exact ⟨l1, by omega, by omega, rfl, by first | rfl | go_num, rfl, rfl⟩
    · go_wp2_with (fail)
      go_meet
      exact ⟨200, by omega, by omega, rfl, by first | rfl | go_num, rfl, rfl⟩
  case rest =>
    obtain ⟨N, hN1, hN2, rfl, rfl, rfl, rfl⟩ := hcut
    go_wp2_with (fail)
    go_loopw [33] (fun c wr => ∃ (k : Nat) (next : Int) (B : Nat), k ≤ N ∧ c = .int .i64 k ∧ Win wr w.heap.size (size + 1) next B ∧ 0 ≤ next ∧ next ≤ 4611686018427387905 ∧ Win wr w1.heap.size (size + 1) 0 0 ∧ Below w.heap.size w wr) (fun c _ => N - (intOf c).toNat)
    case atStart => exact ⟨0, 0, 0, by omega, rfl, HW.out, by omega, by omega, HV.out, HB.out⟩
    case round =>
      obtain ⟨k, next, B, hk, rfl, W, n0, n1, V, hB⟩ := hrel
      by_cases hlt : k < N
      · obtain ⟨b, o, rfl, hb, hc, _⟩ := T1.out.elem k (by omega)
        have hc' : wr.cell? ⟨b, o + k, none⟩ = some (.int .i64 (zs1.getD k 0)) := (hB.cell (p := ⟨b, o + k, none⟩) hb).trans hc
        obtain ⟨z, hz⟩ : ∃ z, z = zs1.getD k 0 := ⟨_, rfl⟩
        rw [← hz] at hc'
        have bd := accN_bd (size := size + 1) (B := B) (n := z) n0 n1
        have HW' := Lib.hid W; have HV' := Lib.hid V; have HB' := Lib.hid hB
        clear hz hc W V hB HW HV HB
        go_wp2_with (go_at_call 10; refine (accept_any _ _ HW'.out (by omega) (by omega) n0 n1).mono ?_; rintro e wn ⟨rfl, W, hbut⟩)
        go_roundw
        case rel => exact ⟨k + 1, _, _, by omega, by go_num, W, bd.1, bd.2, HV'.out.of hbut (by omega), hbut.toBelow (Nat.le_refl _) HB'.out HB'.out.size⟩
        case measure => simp [intOf]; omega
      · have HW' := Lib.hid W; have HV' := Lib.hid V; have HB' := Lib.hid hB
        clear W V hB HW HV HB
        have m0 := Lib.hid (show ((Px.miss 0 (min (size + 1) 0 : Int).toNat : Nat) : Int) = 0 by rw [show (min (size + 1) 0 : Int).toNat = 0 by omega]; rfl)
        go_wp2_with (fail)
        refine (reset_any _ HW'.out).mono ?_
        rintro e wn ⟨rfl, W, hbut⟩
        have V := HV'.out.of hbut (by omega)
        have BB := hbut.toBelow (Nat.le_refl _) HB'.out HB'.out.size
        have HW := Lib.hid W; have HV := Lib.hid V; have HB := Lib.hid BB
        clear W V BB hbut HV'
        go_wp2_with (fail)
        refine (top_any _ HW.out (by omega) (by omega)).mono ?_
        rintro e w' ⟨rfl, rfl⟩
        go_wp2_with (fail)
        refine (missing_at m0 _ HW.out (by omega) (by omega) (by omega)).mono ?_
        rintro e w' ⟨rfl, nq, rfl⟩
        go_upto_region 12 with (fail)
        go_cut [55, 56, 57] (fun s1 s2 s3 wx => ∃ N : Nat, N ≤ l2 ∧ N ≤ 200 ∧ s1 = .slice a2 N c2 ∧ s2 = .int .i64 N ∧ s3 = .int .i64 0 ∧ wn.drewN nq = wx)
        case first =>
          by_cases h200 : l2 ≤ 200
          · go_wp2_with (fail)
            go_meet
            exact ⟨l2, by omega, by omega, rfl, by first | rfl | go_num, rfl, rfl⟩
          · go_wp2_with (fail)
            go_meet
            exact ⟨200, by omega, by omega, rfl, by first | rfl | go_num, rfl, rfl⟩
        case rest =>
          obtain ⟨M, hM1, hM2, rfl, rfl, rfl, rfl⟩ := hcut
          go_wp2_with (fail)
          go_loopw [57] (fun c wr => ∃ (k : Nat) (next : Int) (B : Nat), k ≤ M ∧ c = .int .i64 k ∧ Win wr w.heap.size (size + 1) next B ∧ 0 ≤ next ∧ next ≤ 4611686018427387905 ∧ Win wr w1.heap.size (size + 1) next B ∧ Below w.heap.size w wr) (fun c _ => M - (intOf c).toNat)
          case atStart => exact ⟨0, 0, 0, by omega, rfl, HW.out.drewN, by omega, by omega, HV.out.drewN, Hp.drewN HB.out _⟩
          case round =>
            obtain ⟨k, next, B, hk, rfl, W, n0, n1, V, hB⟩ := hrel
            by_cases hlt : k < M
            · obtain ⟨b, o, rfl, hb, hc, _⟩ := T2.out.elem k (by omega)
              have hc' : wr.cell? ⟨b, o + k, none⟩ = some (.int .i64 (zs2.getD k 0)) := (hB.cell (p := ⟨b, o + k, none⟩) hb).trans hc
              obtain ⟨z, hz⟩ : ∃ z, z = zs2.getD k 0 := ⟨_, rfl⟩
              rw [← hz] at hc'
              have bd := accN_bd (size := size + 1) (B := B) (n := z) n0 n1
              have HW' := Lib.hid W; have HV' := Lib.hid V; have HB' := Lib.hid hB
              clear hz hc W V hB HW HV HB
              go_wp2_with (fail)
              refine (can_any z _ HW'.out (by omega) (by omega) n0 n1).mono ?_
              rintro e w' ⟨rfl, rfl⟩
              go_wp2_with (fail)
              refine (can_any z _ HV'.out (by omega) (by omega) n0 n1).mono ?_
              rintro e w' ⟨rfl, rfl⟩
              go_wp2_with (fail)
              refine (accept_any z _ HW'.out (by omega) (by omega) n0 n1).mono ?_
              rintro e wa ⟨rfl, W, hbut⟩
              have V := HV'.out.of hbut (by omega)
              have BB := hbut.toBelow (Nat.le_refl _) HB'.out HB'.out.size
              have HW := Lib.hid W; have HV := Lib.hid V; have HB := Lib.hid BB
              clear W V BB hbut HV'
              go_wp2_with (fail)
              refine (accept_any z _ HV.out (by omega) (by omega) n0 n1).mono ?_
              rintro e wb ⟨rfl, V, hbut⟩
              have W := HW.out.of hbut (by omega)
              have BB := hbut.toBelow (by omega) HB.out HB.out.size
              have HW2 := Lib.hid W; have HV2 := Lib.hid V; have HB2 := Lib.hid BB
              clear W V BB hbut HW HV HB
              go_wp2_with (fail)
              refine (top_any _ HW2.out bd.1 bd.2).mono ?_
              rintro e w' ⟨rfl, rfl⟩
              go_wp2_with (fail)
              refine (top_any _ HV2.out bd.1 bd.2).mono ?_
              rintro e w' ⟨rfl, rfl⟩
              go_wp2_with (fail)
              refine (missing_any _ HW2.out (by omega) (by omega) bd.1).mono ?_
              rintro e w' ⟨rfl, nq1, rfl⟩
              go_wp2_with (fail)
              refine (missing_any _ HV2.out.drewN (by omega) (by omega) bd.1).mono ?_
              rintro e w' ⟨rfl, nq2, rfl⟩
              go_wp2_with (fail)
              go_roundw
              case rel => exact ⟨k + 1, _, _, by omega, by go_num, HW2.out.drewN, bd.1, bd.2, HV2.out.drewN, Hp.drewN HB2.out _⟩
              case measure => simp [intOf]; omega
            · have HB' := Lib.hid hB
              clear W V hB HW HV HB
              go_wp2_with (go_at_call 13; refine (awake45_any _).mono ?_; rintro e w5 ⟨rfl, hb5⟩; obtain ⟨hc5, hf5⟩ := Hp.bcell hb5; have hs5 := hb5.size; (try simp at hs5))
              go_ret
              exact ⟨rfl, Hp.step HB'.out hb5⟩
end Go.Proofs.Ythmkckdjddgmhaa.PxW
