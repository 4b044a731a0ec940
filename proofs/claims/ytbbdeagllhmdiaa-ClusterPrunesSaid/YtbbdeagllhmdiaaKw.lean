/- The law ClusterSurvivors of layer 25. -/
import Derived.Test.YtbbdeagllhmdiaaKv
set_option linter.unusedVariables false
set_option linter.unusedSimpArgs false
namespace Go.Proofs.Ytbbdeagllhmdiaa.CxW
open Go.RowKit
open Go.Proofs.Ytbbdeagllhmdiaa.Kx
theorem spr_callq {w : World} {y : Qb.Later w} {q : List Cd} {a : Option Addr} {m c : Nat} {i r : Int} (hm : Hid (q.length = m)) (S : Hid (Cs w a m (zof q))) (h : Hid (sprd q i = r)) :
    Calls Try.prog 16 #[.slice a m c, .int .i64 i] y.1 fun e w'' => e = .returned (.int .i64 r) ∧ ∃ y' : Qb.Later w, w'' = y'.1 := by
  have s := S.out
  rw [← hm.out] at s ⊢
  exact Qb.call (by rw [← h.out]; exact spread_any q a c i _ (s.later y.2))
set_option maxHeartbeats 8000000 in
theorem survivors_no (l : List Cd) (a : Option Addr) (c : Nat) (keep : Int) (w : World) (S : Cs w a l.length (zof l)) {r : Int} (hr : Hid (Cx.chk l.length (zof l) = r)) (h : 30 < l.length ∨ (l.length ≤ 30 ∧ (r != 0) = true) ∨ (l.length ≤ 30 ∧ r = 0 ∧ keep < 1)) :
    Calls Try.prog 6 #[.slice a l.length c, .int .i64 keep] w fun e w' => e = .returned (.bool true) ∧ Below w.heap.size w w' := by
  have hS := Lib.hid S
  clear S
  rcases h with h | ⟨h, h2⟩ | ⟨h, rfl, h2⟩
  · have F := Lib.hid (show decide (l.length ≤ 30) = false from decide_eq_false (by omega))
    clear h
    go_enter Try.func6, Try.ntmps6
    go_wp2_with (fail)
    refine (few_at F _).mono ?_
    rintro en w1 ⟨rfl, rfl⟩
    go_wp2_with (fail)
    refine (awake25_any _).mono ?_
    rintro en w2 ⟨rfl, B2⟩
    have HB := Lib.hid B2
    clear B2
    go_wp2_with (fail)
    go_ret
    exact ⟨rfl, HB.out⟩
  all_goals
    have F := Lib.hid (show decide (l.length ≤ 30) = true from decide_eq_true h)
    clear h
    go_enter Try.func6, Try.ntmps6
    go_wp2_with (fail)
    refine (few_at F _).mono ?_
    rintro en w1 ⟨rfl, rfl⟩
    go_wp2_with (fail)
    refine (check_at hr hS.out).mono ?_
    rintro en w2 ⟨rfl, B2⟩
    have HB2 := Lib.hid B2
    clear B2
    go_wp2_with (fail)
    refine (awake25_any _).mono ?_
    rintro en w5 ⟨rfl, B5⟩
    have HB5 := Lib.hid (bl_next HB2.out B5)
    clear B5
    go_wp2_with (fail)
    go_ret
    exact ⟨rfl, HB5.out⟩
set_option maxHeartbeats 16000000 in
set_option maxRecDepth 4000 in
theorem survivors_yes (l : List Cd) (a : Option Addr) (c : Nat) (h0 : a = none → l.length = 0 ∧ c = 0) (V : Val l) (keep : Int) (hk : 1 ≤ keep) (w : World) (S : Cs w a l.length (zof l)) :
    Calls Try.prog 6 #[.slice a l.length c, .int .i64 keep] w fun e w' => e = .returned (.bool true) ∧ Below w.heap.size w w' := by
  have hS := Lib.hid S; have H0 := Lib.hid h0; have HV := Lib.hid V
  have HC := Lib.hid ((val_iff l).2 V)
  have n12 := V.len
  have hk' : ¬ keep < 1 := by omega
  have F := Lib.hid (show decide (l.length ≤ 30) = true from decide_eq_true (by omega))
  have up := Nat.le_trans (prune_sub keep l).length_le (Nat.le_of_eq (ord_len l))
  have lo := @prune_min l keep
  have PV := Lib.hid (prune_val V keep)
  have MEM := Lib.hid (show ∀ i, i < (prune keep l).length → ∃ k, k < l.length ∧ nth l k = nth (prune keep l) i from fun i hi => mem_nth (prune_mem (nth_mem hi)))
  have STR := Lib.hid (show ∀ i, i + 1 < (prune keep l).length → bef (nth (prune keep l) i) (nth (prune keep l) (i + 1)) from fun i hi => strict (prune_val V keep) (prune_sorted keep l) hi)
  have TOP := Lib.hid (show keep < (prune keep l).length → ∀ i k, i < (prune keep l).length → k < (prune keep l).length → sprd (prune keep l) (i : Nat) ≤ (nth (prune keep l) k).d from fun h i k hi hkk => by
    rw [sprd_val (prune_val V keep) hi (by omega)]; exact prune_top hk h hi hkk)
  clear S h0 V
  go_enter Try.func6, Try.ntmps6
  go_wp2_with (fail)
  refine (few_at F _).mono ?_
  rintro en w1 ⟨rfl, rfl⟩
  go_wp2_with (fail)
  refine (check_at HC hS.out).mono ?_
  rintro en w2 ⟨rfl, B2⟩
  have HB2 := Lib.hid B2; have S2 := Lib.hid (hS.out.later B2)
  clear B2
  go_wp2_with (fail)
  refine (prune_ok l a c HV.out keep hk _ S2.out H0.out).mono ?_
  rintro en w4 ⟨v, rfl, o, B4⟩
  have HB4 := Lib.hid (bl_next HB2.out B4); have S4 := Lib.hid (S2.out.later B4)
  obtain ⟨a1, c1, rfl, s1⟩ := o.rd
  have O4 := Lib.hid s1
  clear B4 o s1
  obtain ⟨q, hq⟩ : ∃ q, prune keep l = q := ⟨_, rfl⟩
  rw [hq] at up lo MEM STR O4 TOP
  rw [hq]
  clear hq
  obtain ⟨n, hn⟩ : ∃ n, l.length = n := ⟨_, rfl⟩
  have HN := Lib.hid hn
  rw [hn] at up lo n12 S4 MEM
  rw [hn]
  obtain ⟨m, hm⟩ : ∃ m, q.length = m := ⟨_, rfl⟩
  have HM := Lib.hid hm
  rw [hm] at up lo O4 MEM STR TOP
  rw [hm]
  clear hn hm
  have u1 : ¬ (n : Int) < (m : Int) := by omega
  have u2 : ¬ (m : Int) < min keep (n : Int) := by omega
  have u3 : ¬ n < m := by omega
  have kcase : (m : Int) ≤ keep ∨ keep < (m : Int) := by omega
  go_wp2_with (fail)
  go_loopw [7] (fun c wr => ∃ i : Nat, i ≤ m ∧ c = .int .i64 i ∧ Below w4.heap.size w4 wr) (fun c _ => m - (intOf c).toNat)
  case atStart => exact ⟨0, by omega, rfl, Below.refl _ _⟩
  case round =>
    rename World => wb
    obtain ⟨i, hi, rfl, hb⟩ := hrel
    have HBi := Lib.hid (bl_next HB4.out hb); have Si := Lib.hid (S4.out.later hb); have Oi := Lib.hid (O4.out.later hb)
    have HW := Lib.hid hb
    clear hb
    by_cases hlt : i < m
    · obtain ⟨b1, o1, rfl, lb1, -, -, -, -, -⟩ := Oi.out.elem (i := i) hlt
      obtain ⟨k0, hk0, ek0⟩ := MEM.out i hlt
      have EK := Lib.hid ek0
      clear ek0
      go_wp2_with (fail)
      go_loopw [9, 8] (fun c f wr => ∃ (k q : Nat) (fb : Bool), k ≤ n ∧ c = .int .i64 k ∧ f = .bool fb ∧ (k0 < k → fb = true) ∧ wr = wb.drewN q) (fun c _ _ => n - (intOf c).toNat)
      case atStart => exact ⟨0, 0, false, by omega, rfl, rfl, fun h => by omega, rfl⟩
      case round =>
        obtain ⟨k, q2, fb, hk, rfl, rfl, hf, rfl⟩ := hrel
        have HF := Lib.hid hf
        clear hf
        by_cases hlt2 : k < n
        · obtain ⟨b2, o2, rfl, lb2, x0, x1, x2, x3, x4⟩ := Si.out.elem (i := k) hlt2
          obtain ⟨b1', o1', e', lb3, y0, y1, y2, y3, y4⟩ := Oi.out.elem (i := i) hlt
          obtain ⟨rfl, rfl⟩ : b1 = b1' ∧ o1 = o1' := by injection e' with e'; injection e' with e1 e2; exact ⟨e1, e2⟩
          clear e'
          cases fb with
          | true =>
            clear x0 x1 x2 x3 x4 y0 y1 y2 y3 y4
            go_wp2_with (fail)
            go_quiet (fail)
            go_wp2_with (fail)
            go_roundw
            case rel => exact ⟨k + 1, _, true, by omega, by go_num, rfl, fun _ => rfl, by first | rfl | exact World.drewN_drewN _ _ _⟩
            case measure => (simp [intOf] <;> omega)
          | false =>
            change wb.cell? _ = some (.int .i64 (nth l k).a) at x0
            change wb.cell? _ = some (.int .i64 (nth l k).b) at x1
            change wb.cell? _ = some (.int .i64 (nth l k).c) at x2
            change wb.cell? _ = some (.int .i64 (nth l k).d) at x3
            change wb.cell? _ = some (.int .i64 (nth l k).e) at x4
            change wb.cell? _ = some (.int .i64 (nth q i).a) at y0
            change wb.cell? _ = some (.int .i64 (nth q i).b) at y1
            change wb.cell? _ = some (.int .i64 (nth q i).c) at y2
            change wb.cell? _ = some (.int .i64 (nth q i).d) at y3
            change wb.cell? _ = some (.int .i64 (nth q i).e) at y4
            by_cases hkk : k = k0
            · subst hkk
              rw [EK.out] at x0 x1 x2 x3 x4
              obtain ⟨x, ex⟩ : ∃ x, nth q i = x := ⟨_, rfl⟩
              rw [ex] at x0 x1 x2 x3 x4 y0 y1 y2 y3 y4
              obtain ⟨xa, xb, xc, xd, xe⟩ := x
              simp only at x0 x1 x2 x3 x4 y0 y1 y2 y3 y4
              clear ex
              go_wp2_with (fail)
              go_quiet (fail)
              go_wp2_with (fail)
              go_roundw
              case rel => exact ⟨k + 1, _, true, by omega, by go_num, rfl, fun _ => rfl, by first | rfl | exact World.drewN_drewN _ _ _⟩
              case measure => (simp [intOf] <;> omega)
            · have hk2 : k < k0 := by
                by_cases g : k0 < k
                · have := HF.out g; cases this
                · omega
              obtain ⟨x, ex⟩ : ∃ x, nth q i = x := ⟨_, rfl⟩
              obtain ⟨y, ey⟩ : ∃ x, nth l k = x := ⟨_, rfl⟩
              rw [ey] at x0 x1 x2 x3 x4
              rw [ex] at y0 y1 y2 y3 y4
              obtain ⟨xa, xb, xc, xd, xe⟩ := x
              obtain ⟨ya, yb, yc, yd, ye⟩ := y
              have ne := ids_ne HV.out hk2 (by rw [HN.out]; exact hk0)
              rw [EK.out, ex, ey] at ne
              simp only at x0 x1 x2 x3 x4 y0 y1 y2 y3 y4 ne
              have ne2 : (ya == xa) = false := by simpa using ne
              clear ex ey ne
              go_wp2_with (fail)
              go_quiet (fail)
              go_wp2_with (fail)
              go_roundw
              case rel => exact ⟨k + 1, _, _, by omega, by go_num, rfl, fun h => by omega, by first | rfl | exact World.drewN_drewN _ _ _⟩
              case measure => (simp [intOf] <;> omega)
        · obtain rfl : n = k := by omega
          obtain rfl := HF.out hk0
          obtain ⟨b1', o1', e', lb3, y0, y1, y2, y3, y4⟩ := Oi.out.elem (i := i) hlt
          obtain ⟨rfl, rfl⟩ : b1 = b1' ∧ o1 = o1' := by injection e' with e'; injection e' with e1 e2; exact ⟨e1, e2⟩
          clear e'
          rcases i with _ | j
          · clear y0 y1 y2 y3 y4
            go_wp2_with (fail)
            go_quiet (fail)
            have W5 := Lib.hid (Hp.drewN HW.out (q2 + nq))
            (try rw [World.drewN_drewN])
            obtain ⟨wx, hwx⟩ : ∃ wx, wb.drewN (q2 + nq) = wx := ⟨_, rfl⟩
            rw [hwx] at W5
            rw [hwx]
            have Q5 := Lib.hid (O4.out.later W5.out)
            clear hwx
            rcases kcase with kc | kc
            · have kc' : ¬ keep < (m : Int) := by omega
              go_wp2_with (fail)
              go_loopw [10] (fun c wr => c = .int .i64 0 ∧ wx = wr) (fun c _ => 0)
              case atStart => exact ⟨rfl, rfl⟩
              case round =>
                obtain ⟨rfl, rfl⟩ := hrel
                go_wp2_with (fail)
                go_roundw
                case rel => exact ⟨0 + 1, by omega, by go_num, W5.out⟩
                case measure => (simp [intOf] <;> omega)
            · go_wp2_with (fail)
              go_loopw [10] (fun c wr => ∃ k : Nat, k ≤ m ∧ c = .int .i64 k ∧ Below w4.heap.size w4 wr) (fun c _ => m - (intOf c).toNat)
              case atStart => exact ⟨0, by omega, rfl, W5.out⟩
              case round =>
                rename World => wz
                obtain ⟨k, hk3, rfl, hbz⟩ := hrel
                have HZ := Lib.hid hbz; have OZ := Lib.hid (O4.out.later hbz)
                clear hbz
                by_cases hltz : k < m
                · obtain ⟨b1', o1', e', lbz, -, -, -, t3, -⟩ := OZ.out.elem (i := k) hltz
                  obtain ⟨rfl, rfl⟩ : b1 = b1' ∧ o1 = o1' := by injection e' with e'; injection e' with e1 e2; exact ⟨e1, e2⟩
                  have tp := TOP.out kc (0) k (by omega) hltz
                  change wz.cell? _ = some (.int .i64 (nth q k).d) at t3
                  obtain ⟨J, eJ⟩ : ∃ J, (nth q k).d = J := ⟨_, rfl⟩
                  rw [eJ] at t3 tp
                  obtain ⟨P, eP⟩ : ∃ J, sprd q ((0 : Nat) : Int) = J := ⟨_, rfl⟩
                  have EP := Lib.hid eP
                  rw [eP] at tp
                  have tp' : ¬ J < P := by omega
                  clear e' eJ eP tp
                  go_wp2_with (fail)
                  refine Qb.region (by kernel_rfl) (by kernel_rfl) ?_
                  have k5 := Qb.cell t3 lbz
                  repeat (go_big_quiet_step (first | (go_at_call 16; exact spr_callq HM OZ EP)))
                  refine wpQuiet_nil ?_
                  rintro _ ⟨⟨w9, hb9⟩, rfl⟩
                  have HB9 := Lib.hid (bl_next HZ.out hb9)
                  clear hb9 k5 t3
                  go_wp2_with (fail)
                  go_roundw
                  case rel => exact ⟨k + 1, by omega, by go_num, HB9.out⟩
                  case measure => (simp [intOf] <;> omega)
                · obtain rfl : m = k := by omega
                  go_wp2_with (fail)
                  go_roundw
                  case rel => exact ⟨0 + 1, by omega, by go_num, HZ.out⟩
                  case measure => (simp [intOf] <;> omega)
          · obtain ⟨b1', o1', e', lb4, x0, x1, x2, x3, x4⟩ := Oi.out.elem (i := j) (by omega)
            obtain ⟨rfl, rfl⟩ : b1 = b1' ∧ o1 = o1' := by injection e' with e'; injection e' with e1 e2; exact ⟨e1, e2⟩
            have be := STR.out j hlt
            change wb.cell? _ = some (.int .i64 (nth q j).a) at x0
            change wb.cell? _ = some (.int .i64 (nth q j).b) at x1
            change wb.cell? _ = some (.int .i64 (nth q j).c) at x2
            change wb.cell? _ = some (.int .i64 (nth q j).d) at x3
            change wb.cell? _ = some (.int .i64 (nth q j).e) at x4
            change wb.cell? _ = some (.int .i64 (nth q (j + 1)).a) at y0
            change wb.cell? _ = some (.int .i64 (nth q (j + 1)).b) at y1
            change wb.cell? _ = some (.int .i64 (nth q (j + 1)).c) at y2
            change wb.cell? _ = some (.int .i64 (nth q (j + 1)).d) at y3
            change wb.cell? _ = some (.int .i64 (nth q (j + 1)).e) at y4
            obtain ⟨x, ex⟩ : ∃ x, nth q j = x := ⟨_, rfl⟩
            obtain ⟨y, ey⟩ : ∃ x, nth q (j + 1) = x := ⟨_, rfl⟩
            rw [ex] at x0 x1 x2 x3 x4 be
            rw [ey] at y0 y1 y2 y3 y4 be
            obtain ⟨xa, xb, xc, xd, xe⟩ := x
            obtain ⟨ya, yb, yc, yd, ye⟩ := y
            simp only at x0 x1 x2 x3 x4 y0 y1 y2 y3 y4
            have BE := Lib.hid be
            have j1 : (0 : Int) < (j : Int) + 1 := by omega
            have j2 : (j : Int) + 1 - 1 = j := by omega
            have j3 : j < m := by omega
            obtain ⟨wq, hwq⟩ : ∃ wq, wb.drewN q2 = wq := ⟨_, rfl⟩
            have HWq : Hid (Below w4.heap.size w4 wq) := Lib.hid (by rw [← hwq]; exact Hp.drewN HW.out _)
            have lq : b1 < wq.heap.size := by rw [← hwq]; exact lb3
            have tr : ∀ p, wb.cell? p = wq.cell? p := fun p => by rw [← hwq]; rfl
            rw [tr] at x0 x1 x2 x3 x4 y0 y1 y2 y3 y4
            rw [hwq]
            clear ex ey e' hwq be tr
            go_wp2_with (fail)
            refine Qb.region (by kernel_rfl) (by kernel_rfl) ?_
            have k0 := Qb.cell x0 lq; have k1 := Qb.cell x1 lq; have k2 := Qb.cell x2 lq; have k3 := Qb.cell x3 lq; have k4 := Qb.cell x4 lq
            have m0 := Qb.cell y0 lq; have m1 := Qb.cell y1 lq; have m2 := Qb.cell y2 lq; have m3 := Qb.cell y3 lq; have m4 := Qb.cell y4 lq
            repeat (go_big_quiet_step (first | (go_at_call 21; exact rank_call BE.out)))
            refine wpQuiet_nil ?_
            rintro wz9 ⟨⟨w9, hb9⟩, rfl⟩
            have HB9 := Lib.hid (bl_next HWq.out hb9)
            clear hb9 k0 k1 k2 k3 k4 m0 m1 m2 m3 m4 x0 x1 x2 x3 x4 y0 y1 y2 y3 y4
            have W5 := Lib.hid HB9.out
            (try rw [World.drewN_drewN])
            obtain ⟨wx, hwx⟩ : ∃ wx, wz9 = wx := ⟨_, rfl⟩
            rw [hwx] at W5
            rw [hwx]
            have Q5 := Lib.hid (O4.out.later W5.out)
            clear hwx
            rcases kcase with kc | kc
            · have kc' : ¬ keep < (m : Int) := by omega
              go_wp2_with (fail)
              go_loopw [10] (fun c wr => c = .int .i64 0 ∧ wx = wr) (fun c _ => 0)
              case atStart => exact ⟨rfl, rfl⟩
              case round =>
                obtain ⟨rfl, rfl⟩ := hrel
                go_wp2_with (fail)
                go_roundw
                case rel => exact ⟨(j + 1) + 1, by omega, by go_num, W5.out⟩
                case measure => (simp [intOf] <;> omega)
            · go_wp2_with (fail)
              go_loopw [10] (fun c wr => ∃ k : Nat, k ≤ m ∧ c = .int .i64 k ∧ Below w4.heap.size w4 wr) (fun c _ => m - (intOf c).toNat)
              case atStart => exact ⟨0, by omega, rfl, W5.out⟩
              case round =>
                rename World => wz
                obtain ⟨k, hk3, rfl, hbz⟩ := hrel
                have HZ := Lib.hid hbz; have OZ := Lib.hid (O4.out.later hbz)
                clear hbz
                by_cases hltz : k < m
                · obtain ⟨b1', o1', e', lbz, -, -, -, t3, -⟩ := OZ.out.elem (i := k) hltz
                  obtain ⟨rfl, rfl⟩ : b1 = b1' ∧ o1 = o1' := by injection e' with e'; injection e' with e1 e2; exact ⟨e1, e2⟩
                  have tp := TOP.out kc ((j + 1)) k (by omega) hltz
                  change wz.cell? _ = some (.int .i64 (nth q k).d) at t3
                  obtain ⟨J, eJ⟩ : ∃ J, (nth q k).d = J := ⟨_, rfl⟩
                  rw [eJ] at t3 tp
                  obtain ⟨P, eP⟩ : ∃ J, sprd q (((j + 1) : Nat) : Int) = J := ⟨_, rfl⟩
                  have EP := Lib.hid eP
                  rw [eP] at tp
                  have tp' : ¬ J < P := by omega
                  clear e' eJ eP tp
                  go_wp2_with (fail)
                  refine Qb.region (by kernel_rfl) (by kernel_rfl) ?_
                  have k5 := Qb.cell t3 lbz
                  repeat (go_big_quiet_step (first | (go_at_call 16; exact spr_callq HM OZ EP)))
                  refine wpQuiet_nil ?_
                  rintro _ ⟨⟨w9, hb9⟩, rfl⟩
                  have HB9 := Lib.hid (bl_next HZ.out hb9)
                  clear hb9 k5 t3
                  go_wp2_with (fail)
                  go_roundw
                  case rel => exact ⟨k + 1, by omega, by go_num, HB9.out⟩
                  case measure => (simp [intOf] <;> omega)
                · obtain rfl : m = k := by omega
                  go_wp2_with (fail)
                  go_roundw
                  case rel => exact ⟨(j + 1) + 1, by omega, by go_num, HZ.out⟩
                  case measure => (simp [intOf] <;> omega)
    · obtain rfl : m = i := by omega
      go_wp2_with (fail)
      refine (awake25_any _).mono ?_
      rintro en w5 ⟨rfl, B5⟩
      have HB5 := Lib.hid (bl_next HBi.out B5)
      clear B5
      go_wp2_with (fail)
      go_ret
      exact ⟨rfl, HB5.out⟩
theorem law_ClusterSurvivors (a : Option Addr) (n c : Nat) (z : Nat → Nat → Int) (keep : Int) (w : World) (S : In.IsStructs [.i64, .i64, .i64, .i64, .i64] w a n c z) :
    Calls Try.prog 6 #[.slice a n c, .int .i64 keep] w fun e w' => e = .returned (.bool true) ∧ Below w.heap.size w w' := by
  obtain ⟨l, rfl, s, h0⟩ := in_list S
  by_cases h : 30 < l.length
  · exact survivors_no l a c keep w s (Lib.hid rfl) (.inl h)
  · by_cases hc : Cx.chk l.length (zof l) = 0
    · by_cases hk : keep < 1
      · exact survivors_no l a c keep w s (Lib.hid hc) (.inr (.inr ⟨by omega, rfl, hk⟩))
      · exact survivors_yes l a c h0 ((val_iff l).1 hc) keep (by omega) w s
    · exact survivors_no l a c keep w s (Lib.hid rfl) (.inr (.inl ⟨by omega, by simpa using hc⟩))
end Go.Proofs.Ytbbdeagllhmdiaa.CxW
