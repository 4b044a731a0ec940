/- The law ReplayPlays, for sizes within the bounds. -/
import Derived.Test.YthmkckdjddgmhaaPzf
import Derived.Deep.RegionHeld3
set_option linter.unusedVariables false
set_option linter.unusedSimpArgs false
namespace Go.Proofs.Ythmkckdjddgmhaa.PxW
open Go.RowKit Go.Proofs.Ythmkckdjddgmhaa.Rw

/-- between the two calls of Accept -/
structure Mid (w0 wa : World) (base wb rb d : Nat) (size next next' : Int) (B' : Nat) (v : Value) (l : List Int) (kd z : Int) : Prop where
  W : Win wa wb size next' B'
  R : RWin wa rb size next v
  own : Row wa base v l
  B : Below base w0 wa
  blk : wa.heap[d]? = some (.cells #[.int .i64 kd, .int .i64 z] 35 (0, 0))
  sz : base ≤ wa.heap.size
theorem mid {X W0 wa w0 : World} {wb rb d : Nat} {size next next' : Int} {B B' : Nat} {v : Value} {s l : List Int} {kd z : Int} (HO : Both X w0.heap.size wb rb size next B v s l) (HB : Below w0.heap.size w0 X)
    (blkd : X.heap[d]? = some (.cells #[.int .i64 kd, .int .i64 z] 35 (0, 0))) (hd : d ≠ wb) (hr : rb ≠ wb) (Wa : Win wa wb size next' B') (ka : But wb W0 wa) (hX : W0.heap = X.heap ∧ W0.os = X.os ∧ W0.tape = X.tape ∧ W0.output = X.output) (hwb : w0.heap.size ≤ wb) :
    Mid w0 wa w0.heap.size wb rb d size next next' B' v l kd z := by
  obtain ⟨e1, e2, e3, e4⟩ := hX
  have k : But wb X wa := ⟨ka.os.trans e2, ka.tape.trans e3, ka.output.trans e4, by rw [← e1]; exact ka.size, fun i hi hb => by rw [ka.block i (by rw [e1]; exact hi) hb, e1]⟩
  exact ⟨Wa, HO.R.of k hr, HO.own.but HO.W.blk (by decide) k, k.toBelow hwb HB HB.size, by rw [k.block d (Hp.blk_lt blkd) hd]; exact blkd, Nat.le_trans HB.size k.size⟩
theorem fin2 {w0 wa wb' : World} {wb rb d : Nat} {size next next' : Int} {B' : Nat} {v v2 : Value} {l s2 l2 : List Int} {kd z : Int} (M : Mid w0 wa w0.heap.size wb rb d size next next' B' v l kd z) (h1 : wb ≠ rb) (h2 : d ≠ rb) (h3 : w0.heap.size ≤ rb)
    (R2 : RWin wb' rb size next' v2) (own2 : Row wb' w0.heap.size v2 l2) (S2 : Px.Seen next' B' s2) (I2 : Px.RI size next' s2 l2) (bd : 0 ≤ next' ∧ next' ≤ 4611686018427387905) (kb : RKeep rb v wa wb') :
    Both wb' w0.heap.size wb rb size next' B' v2 s2 l2 ∧ Below w0.heap.size w0 wb' ∧ wb'.heap[d]? = some (.cells #[.int .i64 kd, .int .i64 z] 35 (0, 0)) :=
  ⟨⟨M.W.rkeep kb h1 M.own, R2, own2, S2, I2, bd.1, bd.2⟩, kb.toBelow h3 M.own M.B M.sz, by rw [kb.block d (Hp.blk_lt M.blk) h2 (M.own.ne M.blk (by decide))]; exact M.blk⟩
theorem rcan_at {w : World} {a : Value} {n : Int} {c c' : Bool} (e : c = c') (h : Calls Try.prog 17 #[a, .int .i64 n] w fun e w' => e = .returned (.bool c) ∧ ∃ m, w' = w.drewN m) :
    Calls Try.prog 17 #[a, .int .i64 n] w fun e w' => e = .returned (.bool c') ∧ ∃ m, w' = w.drewN m := by subst e; exact h
set_option maxHeartbeats 16000000 in
set_option maxRecDepth 100000 in
theorem plays_yes (size : Int) (h1 : 1 ≤ size) (h2 : size ≤ 256) (a1 : Option Addr) (l1 c1 : Nat) (z1 : Nat → Nat → Int) (w : World) (S1 : In.IsStructs [.i64, .i64] w a1 l1 c1 z1) :
    Calls Try.prog 4 #[.int .i64 size, .slice a1 l1 c1] w fun e w' => e = .returned (.bool true) ∧ Below w.heap.size w w' := by
  have hl1 := S1.lens
  have T1 := Lib.hid S1
  clear S1
  go_enter Try.func4, Try.ntmps4
  go_wp2_with (fail)
  refine (new_yes size (by omega) (by omega) _).mono ?_
  rintro e w1 ⟨rfl, W1, B1⟩
  have lt1 := W1.lt
  go_wp2_with (fail)
  refine (rnew_yes size (by omega) (by omega) _).mono ?_
  rintro e w2 ⟨rfl, R2, B2⟩
  have lt2 := R2.lt
  have BB := Hp.step B1 B2
  have BO : Both w2 w.heap.size w.heap.size w1.heap.size size 0 0 (.slice none 0 0) [] [] := ⟨W1.later B2, R2, Row.nil _ _, Px.Seen.nil, Px.RI.nil _ _, by omega, by omega⟩
  have HBO := Lib.hid BO; have HB := Lib.hid BB
  clear W1 B1 R2 B2 BB BO
  go_upto_region 4 with (fail)
  go_cut [23, 24, 25] (fun s31 s32 s33 wx => ∃ N : Nat, N ≤ l1 ∧ N ≤ 300 ∧ s31 = .slice a1 N c1 ∧ s32 = .int .i64 N ∧ s33 = .int .i64 0 ∧ w2 = wx)
  case first =>
    by_cases h300 : l1 ≤ 300
    · go_wp2_with (fail)
      go_meet
      exact ⟨l1, by omega, by omega, rfl, by first | rfl | go_num, rfl, rfl⟩
    · go_wp2_with (fail)
      go_meet
      exact ⟨300, by omega, by omega, rfl, by first | rfl | go_num, rfl, rfl⟩
  case rest =>
    obtain ⟨N, hN1, hN2, rfl, rfl, rfl, rfl⟩ := hcut
    go_wp2_with (fail)
    go_loopw [25] (fun c wr => ∃ (k : Nat) (next : Int) (B : Nat) (v : Value) (s l : List Int), k ≤ N ∧ c = .int .i64 k ∧ l.length ≤ k ∧ Both wr w.heap.size w.heap.size w1.heap.size size next B v s l ∧ Below w.heap.size w wr) (fun c _ => N - (intOf c).toNat)
    case atStart => exact ⟨0, 0, 0, .slice none 0 0, [], [], by omega, rfl, by simp, HBO.out, HB.out⟩
    case round =>
      obtain ⟨k, next, B, v, s, l, hk, rfl, hlen, BO, hB⟩ := hrel
      have HB' := Lib.hid hB; have HO := Lib.hid BO
      have n0 := BO.n0
      have n1 := BO.n1
      clear hB BO HBO HB
      by_cases hlt : k < N
      · -- one deed
        obtain ⟨b, o, rfl, hb, hc⟩ := T1.out.elem (by decide) k (by omega)
        have hc0 : wr.cell? ⟨b, o + (k * 2 + 0), none⟩ = some (.int .i64 (z1 k 0)) := (HB'.out.cell (p := ⟨b, _, none⟩) hb).trans (hc 0 .i64 rfl).1
        have hc1 : wr.cell? ⟨b, o + (k * 2 + 1), none⟩ = some (.int .i64 (z1 k 1)) := (HB'.out.cell (p := ⟨b, _, none⟩) hb).trans (hc 1 .i64 rfl).1
        obtain ⟨kd, hkd⟩ : ∃ x, x = z1 k 0 := ⟨_, rfl⟩
        obtain ⟨z, hz⟩ : ∃ x, x = z1 k 1 := ⟨_, rfl⟩
        rw [← hkd] at hc0
        rw [← hz] at hc1
        have ea : o + (k * 2 + 0) = o + k * 2 := by omega
        have eb : o + (k * 2 + 1) = o + k * 2 + 1 := by omega
        rw [ea] at hc0
        rw [eb] at hc1
        clear hkd hz hc ea eb
        have HBx := Lib.hid (HB'.out.alloc HB'.out.size (.cells #[.int .i64 kd, .int .i64 z] 35 (0, 0)))
        have HOx := Lib.hid (HO.out.later ((Below.refl wr.heap.size wr).alloc (Nat.le_refl _) (.cells #[.int .i64 kd, .int .i64 z] 35 (0, 0))))
        have blkd := Lib.hid (Hp.blk_new wr (.cells #[.int .i64 kd, .int .i64 z] 35 (0, 0)))
        have szw := Lib.hid (show wr.heap.size < (wr.alloc (.cells #[.int .i64 kd, .int .i64 z] 35 (0, 0))).heap.size by simp)
        have wbl := Lib.hid (show w.heap.size < wr.heap.size from HO.out.W.lt)
        have rbl := Lib.hid (show w1.heap.size < wr.heap.size from HO.out.R.lt)
        clear HB' HO
        by_cases k0 : kd = 0
        · subst k0
          go_wp2_with (fail)
          have bd := accN_bd (size := size) (B := B) (n := z) n0 n1
          have smv := Lib.hid (show l.length ≤ 900000 by omega)
          have nwd : wr.heap.size ≠ w.heap.size := by have := wbl.out; omega
          have nrw : w1.heap.size ≠ w.heap.size := by omega
          have nwr : w.heap.size ≠ w1.heap.size := by omega
          have nrd : wr.heap.size ≠ w1.heap.size := by have := rbl.out; omega
          have nrb : w.heap.size ≤ w1.heap.size := by omega
          go_region_held3 (fun w' => w'.cell? ⟨wr.heap.size, 1, none⟩ = some (.int .i64 z)) (first | go_keep | assumption | exact g1 | exact g2)
            (first | (go_at_call 10; refine (accept_any _ _ (⟨HOx.out.W.blk⟩ : Win (World.drew _) _ _ _ _) (by omega) (by omega) n0 n1).mono ?_; rintro e wa ⟨rfl, Wa, ka⟩; have HM := Lib.hid (mid HOx.out HBx.out blkd.out nwd nrw Wa ka ⟨rfl, rfl, rfl, rfl⟩ (Nat.le_refl _)); have g1 : wa.cell? ⟨wr.heap.size, 1, none⟩ = some (.int .i64 z) := Hp.blk_cell HM.out.blk rfl; clear Wa ka) | (go_at_call 15; refine (raccept_any (s := s) (base := w.heap.size) _ _ HM.out.R HM.out.own HOx.out.S HOx.out.I n0 n1 h1 h2 smv.out HM.out.sz).mono ?_; rintro e wb ⟨rfl, v2, s2, l2, R2, own2, S2, I2, hl2, kb⟩; have HE := Lib.hid (fin2 HM.out nwr nrd nrb R2 own2 S2 I2 bd kb); have g2 : wb.cell? ⟨wr.heap.size, 1, none⟩ = some (.int .i64 z) := Hp.blk_cell HE.out.2.2 rfl; have HOz := Lib.hid HE.out.1; have HBz := Lib.hid HE.out.2.1; clear R2 own2 S2 I2 kb HE))
          all_goals
            go_wp2_with (fail)
            refine (top_any _ HOz.out.W (by omega) (by omega)).mono ?_
            rintro e w' ⟨rfl, rfl⟩
            go_wp2_with (fail)
            refine (rtop_any _ HOz.out.R (by omega)).mono ?_
            rintro e w' ⟨rfl, rfl⟩
            go_wp2_with (fail)
            refine (missing_any _ HOz.out.W (by omega) (by omega) (by omega)).mono ?_
            rintro e w' ⟨rfl, nq1, rfl⟩
            go_wp2_with (fail)
            refine (rmissing_any _ (by exact ⟨HOz.out.R.blk⟩) (by exact HOz.out.own) (by omega) (by omega) (by omega) (by omega) (by first | omega | simp)).mono ?_
            rw [rmiss_eq HOz.out.S HOz.out.I (by omega) (by omega) (by omega)]
            rintro e w' ⟨rfl, nq2, rfl⟩
            go_wp2_with (fail)
            go_roundw
            case rel => exact ⟨k + 1, accN size next B z, accB size next B z, v2, s2, l2, by omega, by go_num, by omega, by exact ⟨⟨HOz.out.W.blk⟩, ⟨HOz.out.R.blk⟩, HOz.out.own, HOz.out.S, HOz.out.I, by omega, by omega⟩, by have h := HBz.out; exact ⟨h.os, h.tape, h.output, h.size, h.block⟩⟩
            case measure => simp [intOf]; omega
        by_cases k1 : kd = 1
        · subst k1
          go_wp2_with (fail)
          have bd := accN_bd (size := size) (B := B) (n := z) n0 n1
          have smv := Lib.hid (show l.length ≤ 900000 by omega)
          have nwd : wr.heap.size ≠ w.heap.size := by have := wbl.out; omega
          have nrw : w1.heap.size ≠ w.heap.size := by omega
          have nwr : w.heap.size ≠ w1.heap.size := by omega
          have nrd : wr.heap.size ≠ w1.heap.size := by have := rbl.out; omega
          have nrb : w.heap.size ≤ w1.heap.size := by omega
          go_region_held3 (fun w' => w'.cell? ⟨wr.heap.size, 1, none⟩ = some (.int .i64 z)) (first | go_keep | assumption | exact g1 | exact g2)
            (first | (go_at_call 10; refine (accept_any _ _ (⟨HOx.out.W.blk⟩ : Win (World.drew _) _ _ _ _) (by omega) (by omega) n0 n1).mono ?_; rintro e wa ⟨rfl, Wa, ka⟩; have HM := Lib.hid (mid HOx.out HBx.out blkd.out nwd nrw Wa ka ⟨rfl, rfl, rfl, rfl⟩ (Nat.le_refl _)); have g1 : wa.cell? ⟨wr.heap.size, 1, none⟩ = some (.int .i64 z) := Hp.blk_cell HM.out.blk rfl; clear Wa ka) | (go_at_call 15; refine (raccept_any (s := s) (base := w.heap.size) _ _ HM.out.R HM.out.own HOx.out.S HOx.out.I n0 n1 h1 h2 smv.out HM.out.sz).mono ?_; rintro e wb ⟨rfl, v2, s2, l2, R2, own2, S2, I2, hl2, kb⟩; have HE := Lib.hid (fin2 HM.out nwr nrd nrb R2 own2 S2 I2 bd kb); have g2 : wb.cell? ⟨wr.heap.size, 1, none⟩ = some (.int .i64 z) := Hp.blk_cell HE.out.2.2 rfl; have HOz := Lib.hid HE.out.1; have HBz := Lib.hid HE.out.2.1; clear R2 own2 S2 I2 kb HE))
          all_goals
            go_wp2_with (fail)
            refine (top_any _ HOz.out.W (by omega) (by omega)).mono ?_
            rintro e w' ⟨rfl, rfl⟩
            go_wp2_with (fail)
            refine (rtop_any _ HOz.out.R (by omega)).mono ?_
            rintro e w' ⟨rfl, rfl⟩
            go_wp2_with (fail)
            refine (missing_any _ HOz.out.W (by omega) (by omega) (by omega)).mono ?_
            rintro e w' ⟨rfl, nq1, rfl⟩
            go_wp2_with (fail)
            refine (rmissing_any _ (by exact ⟨HOz.out.R.blk⟩) (by exact HOz.out.own) (by omega) (by omega) (by omega) (by omega) (by first | omega | simp)).mono ?_
            rw [rmiss_eq HOz.out.S HOz.out.I (by omega) (by omega) (by omega)]
            rintro e w' ⟨rfl, nq2, rfl⟩
            go_wp2_with (fail)
            go_roundw
            case rel => exact ⟨k + 1, accN size next B z, accB size next B z, v2, s2, l2, by omega, by go_num, by omega, by exact ⟨⟨HOz.out.W.blk⟩, ⟨HOz.out.R.blk⟩, HOz.out.own, HOz.out.S, HOz.out.I, by omega, by omega⟩, by have h := HBz.out; exact ⟨h.os, h.tape, h.output, h.size, h.block⟩⟩
            case measure => simp [intOf]; omega
        by_cases k2 : kd = 2
        · subst k2
          go_wp2_with (fail)
          go_quiet (first | (go_at_call 16; exact Qb.same (can_any _ _ HOx.out.drewN.W (by omega) (by omega) n0 n1)) | (go_at_call 17; exact Calls.quiet_of (rcan_at (rcan_eq HOx.out.S HOx.out.I (by omega) _) (rcan_any _ _ HOx.out.drewN.R HOx.out.drewN.own n0 n1 (by omega) (by omega) (by omega)))))
          have HOy : Hid (Both ((wr.alloc (.cells #[.int .i64 2, .int .i64 z] 35 (0, 0))).drewN nq) _ _ _ _ _ _ _ _ _) := HOx.out.drewN
          have HBy : Hid (Below w.heap.size w ((wr.alloc (.cells #[.int .i64 2, .int .i64 z] 35 (0, 0))).drewN nq)) := Hp.drewN HBx.out _
          go_wp2_with (fail)
          refine (top_any _ HOy.out.W (by omega) (by omega)).mono ?_
          rintro e w' ⟨rfl, rfl⟩
          go_wp2_with (fail)
          refine (rtop_any _ HOy.out.R (by omega)).mono ?_
          rintro e w' ⟨rfl, rfl⟩
          go_wp2_with (fail)
          refine (missing_any _ HOy.out.W (by omega) (by omega) (by omega)).mono ?_
          rintro e w' ⟨rfl, nq1, rfl⟩
          go_wp2_with (fail)
          refine (rmissing_any _ (by exact ⟨HOy.out.R.blk⟩) (by exact HOy.out.own) (by omega) (by omega) (by omega) (by omega) (by first | omega | simp)).mono ?_
          rw [rmiss_eq HOy.out.S HOy.out.I (by omega) (by omega) (by omega)]
          rintro e w' ⟨rfl, nq2, rfl⟩
          go_wp2_with (fail)
          go_roundw
          case rel => exact ⟨k + 1, next, B, v, s, l, by omega, by go_num, by omega, by exact ⟨⟨HOy.out.W.blk⟩, ⟨HOy.out.R.blk⟩, HOy.out.own, HOy.out.S, HOy.out.I, by omega, by omega⟩, by have h := HBy.out; exact ⟨h.os, h.tape, h.output, h.size, h.block⟩⟩
          case measure => simp [intOf]; omega
        by_cases k3 : kd = 3
        · subst k3
          go_wp2_with (fail)
          refine (reset_any _ HOx.out.W).mono ?_
          rintro e wa ⟨rfl, Wa, ka⟩
          have Ra := Lib.hid (HOx.out.R.of ka (by omega))
          have Ba := Lib.hid (ka.toBelow (Nat.le_refl _) HBx.out HBx.out.size)
          have HWa := Lib.hid Wa
          clear Wa ka
          go_wp2_with (fail)
          refine (rreset_any _ Ra.out).mono ?_
          rintro e wb ⟨rfl, Rb, kb⟩
          have BOz : Both wb w.heap.size w.heap.size w1.heap.size size 0 0 (.slice none 0 0) [] [] := ⟨HWa.out.of kb (by omega), Rb, Row.nil _ _, Px.Seen.nil, Px.RI.nil _ _, by omega, by omega⟩
          have HBz := Lib.hid (kb.toBelow (by omega) Ba.out Ba.out.size)
          have HOz := Lib.hid BOz
          clear Rb kb BOz
          go_wp2_with (fail)
          refine (top_any _ HOz.out.W (by omega) (by omega)).mono ?_
          rintro e w' ⟨rfl, rfl⟩
          go_wp2_with (fail)
          refine (rtop_any _ HOz.out.R (by omega)).mono ?_
          rintro e w' ⟨rfl, rfl⟩
          go_wp2_with (fail)
          refine (missing_any _ HOz.out.W (by omega) (by omega) (by omega)).mono ?_
          rintro e w' ⟨rfl, nq1, rfl⟩
          go_wp2_with (fail)
          refine (rmissing_any _ (by exact ⟨HOz.out.R.blk⟩) (by exact HOz.out.own) (by omega) (by omega) (by omega) (by omega) (by first | omega | simp)).mono ?_
          rw [rmiss_eq HOz.out.S HOz.out.I (by omega) (by omega) (by omega)]
          rintro e w' ⟨rfl, nq2, rfl⟩
          go_wp2_with (fail)
          go_roundw
          case rel => exact ⟨k + 1, 0, 0, .slice none 0 0, [], [], by omega, by go_num, by simp, by exact ⟨⟨HOz.out.W.blk⟩, ⟨HOz.out.R.blk⟩, HOz.out.own, HOz.out.S, HOz.out.I, by omega, by omega⟩, by have h := HBz.out; exact ⟨h.os, h.tape, h.output, h.size, h.block⟩⟩
          case measure => simp [intOf]; omega
        · have f0 : (kd == 0) = false := by simp [k0]
          have f1 : (kd == 1) = false := by simp [k1]
          have f2 : (kd == 2) = false := by simp [k2]
          have f3 : (kd == 3) = false := by simp [k3]
          clear k0 k1 k2 k3
          go_wp2_with (fail)
          refine (top_any _ HOx.out.W (by omega) (by omega)).mono ?_
          rintro e w' ⟨rfl, rfl⟩
          go_wp2_with (fail)
          refine (rtop_any _ HOx.out.R (by omega)).mono ?_
          rintro e w' ⟨rfl, rfl⟩
          go_wp2_with (fail)
          refine (missing_any _ HOx.out.W (by omega) (by omega) (by omega)).mono ?_
          rintro e w' ⟨rfl, nq1, rfl⟩
          go_wp2_with (fail)
          refine (rmissing_any _ (by exact ⟨HOx.out.R.blk⟩) (by exact HOx.out.own) (by omega) (by omega) (by omega) (by omega) (by first | omega | simp)).mono ?_
          rw [rmiss_eq HOx.out.S HOx.out.I (by omega) (by omega) (by omega)]
          rintro e w' ⟨rfl, nq2, rfl⟩
          go_wp2_with (fail)
          go_roundw
          case rel => exact ⟨k + 1, next, B, v, s, l, by omega, by go_num, by omega, by exact ⟨⟨HOx.out.W.blk⟩, ⟨HOx.out.R.blk⟩, HOx.out.own, HOx.out.S, HOx.out.I, by omega, by omega⟩, by have h := HBx.out; exact ⟨h.os, h.tape, h.output, h.size, h.block⟩⟩
          case measure => simp [intOf]; omega
      · have HO' := HO.out
        clear HO
        go_wp2_with (go_at_call 13; refine (awake45_any _).mono ?_; rintro e w5 ⟨rfl, hb5⟩; obtain ⟨hc5, hf5⟩ := Hp.bcell hb5; have hs5 := hb5.size; (try simp at hs5))
        go_ret
        exact ⟨rfl, Hp.step HB'.out hb5⟩
theorem law_ReplayPlays (size : Int) (a1 : Option Addr) (l1 c1 : Nat) (z1 : Nat → Nat → Int) (w : World) (S1 : In.IsStructs [.i64, .i64] w a1 l1 c1 z1) :
    Calls Try.prog 4 #[.int .i64 size, .slice a1 l1 c1] w fun e w' => e = .returned (.bool true) ∧ Below w.heap.size w w' := by
  by_cases h : 1 ≤ size ∧ size ≤ 256
  · exact plays_yes size h.1 h.2 a1 l1 c1 z1 w S1
  · exact plays_nil size (by omega) a1 l1 c1 z1 w S1
end Go.Proofs.Ythmkckdjddgmhaa.PxW
