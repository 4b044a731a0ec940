/- The reference's Order and System of layer 25. -/
import Derived.Test.YtbbdeagllhmdiaaLm
set_option linter.unusedVariables false
set_option linter.unusedSimpArgs false
namespace Go.Proofs.Ytbbdeagllhmdiaa.CxW
open Go.RowKit
open Go.Proofs.Ytbbdeagllhmdiaa.Kx
theorem rcheck_at {l : List Cd} {a : Option Addr} {cap : Nat} {w : World} {r : Int} (h : Hid (Cx.chk l.length (zof l) = r)) (S : Cs w a l.length (zof l)) :
    Calls Try.prog 26 #[.slice a l.length cap] w fun e w' => e = .returned (.int .i64 r) ∧ Below w.heap.size w w' := by
  rw [← h.out]; exact rcheck_any a l.length cap (zof l) w S
theorem before_callq {w : World} {y : Qb.Later w} {xa xb xc xd xe ya yb yc yd ye : Int} {r : Bool} (h : Hid (decide (bef ⟨xa, xb, xc, xd, xe⟩ ⟨ya, yb, yc, yd, ye⟩) = r)) :
    Calls Try.prog 27 #[.agg #[.int .i64 xa, .int .i64 xb, .int .i64 xc, .int .i64 xd, .int .i64 xe], .agg #[.int .i64 ya, .int .i64 yb, .int .i64 yc, .int .i64 yd, .int .i64 ye]] y.1 fun e w'' => e = .returned (.bool r) ∧ ∃ y' : Qb.Later w, w'' = y'.1 := by
  rw [← h.out]; exact Qb.call (before_any ⟨xa, xb, xc, xd, xe⟩ ⟨ya, yb, yc, yd, ye⟩ _)
set_option maxHeartbeats 4000000 in
theorem rorder_bad (l : List Cd) (a : Option Addr) (c : Nat) {r : Int} (h : Hid (Cx.chk l.length (zof l) = r)) (hr : (r != 0) = true) (w : World) (S : Cs w a l.length (zof l)) :
    Calls Try.prog 15 #[.slice a l.length c] w fun e w' => e = .returned (.slice none 0 0) ∧ Below w.heap.size w w' := by
  have hS := Lib.hid S
  clear S
  go_enter Try.func15, Try.ntmps15
  go_wp2_with (fail)
  refine (rcheck_at h hS.out).mono ?_
  rintro en w1 ⟨rfl, B1⟩
  have HB := Lib.hid B1
  clear B1
  go_wp2_with (fail)
  go_ret
  exact ⟨rfl, HB.out⟩
def Apart (vq vm : Value) : Prop := ∀ b o n c, vm = .slice (some ⟨b, o, none⟩) n c → some b ≠ vq.ownBlock
theorem apart_of {w2 w3 : World} {B : Nat} {v2 v3 : Value} {q m : List Cd} (h2 : Rk w2 B v2 q) (h3 : Rk w3 w2.heap.size v3 m) : Apart v2 v3 := by
  intro b o n c hv e
  have l2 := (World.ownsRow.lt h2.own b e.symm).2
  have l3 := (World.ownsRow.lt h3.own b (by rw [hv]; rfl)).1
  omega
theorem apart_nil (vm : Value) : Apart (.slice none 0 0) vm := fun b o n c _ e => by cases e
theorem cs_grown {w w' : World} {b o n : Nat} {z : Nat → Nat → Int} {row : Option Nat} (S : Cs w (some ⟨b, o, none⟩) n z) (h : 0 < n) (G : w.grownBy w' row) (hne : some b ≠ row) : Cs w' (some ⟨b, o, none⟩) n z :=
  ⟨.inr ⟨b, o, rfl, Nat.lt_of_lt_of_le (cs_lt S h) G.size, fun i j hi hj => (World.cell?_of_block (G.block b (cs_lt S h) hne)).trans (cs_at' S i j hi hj)⟩⟩
def lenW (v : Value) : Nat := match v with | .slice _ n _ => n | _ => 0
set_option maxHeartbeats 16000000 in
set_option maxRecDepth 4000 in
theorem rorder_ok (l : List Cd) (V : Val l) (v0 : Value) (w : World) (R : Rl w v0 l) :
    Calls Try.prog 15 #[v0] w fun e w' => ∃ v, e = .returned v ∧ Rk w' w.heap.size v (ord l) ∧ Below w.heap.size w w' := by
  obtain ⟨a, c, rfl, S⟩ := R.rd
  have hS := Lib.hid S; have HV := Lib.hid V; have HR0 := Lib.hid R
  have HC : Hid (Cx.chk l.length (zof l) = 0) := Lib.hid ((val_iff l).2 V)
  clear S V R
  go_enter Try.func15, Try.ntmps15
  go_wp2_with (fail)
  refine (rcheck_at HC hS.out).mono ?_
  rintro en w1 ⟨rfl, B1⟩
  have HB := Lib.hid B1; have HR1 := Lib.hid (HR0.out.later B1)
  clear B1
  go_wp2_with (fail)
  go_loopw [3, 0] (fun vq vm wr => ∃ q m : List Cd, Apart vq vm ∧ Rk wr w.heap.size vq q ∧ Rl wr vm m ∧ Val m ∧ q ++ ord m = ord l ∧ q.length + m.length ≤ 12 ∧ Below w.heap.size w wr) (fun _ v _ => lenW v)
  case atStart => exact ⟨[], l, apart_nil _, Rk.nil _ _, HR1.out, HV.out, rfl, by have := HV.out.len; simp; exact this, HB.out⟩
  case round =>
    rename World => wr
    obtain ⟨q, m, ap, rk, rl, vm, hq, hl, hb⟩ := hrel
    have AP := Lib.hid ap; have RK := Lib.hid rk; have VM := Lib.hid vm; have HQ := Lib.hid hq; have HBr := Lib.hid hb
    have szr := hb.size
    clear ap rk vm hq hb
    rcases rl with ⟨rfl, a', c', rfl⟩ | ⟨hn, b, o, c', rfl, hc', sm⟩
    · go_wp2_with (fail)
      go_ret
      exact ⟨_, rfl, by have := HQ.out; rw [ord_nil, List.append_nil] at this; rw [← this]; exact RK.out, HBr.out⟩
    · have SM := Lib.hid sm
      have lbr : b < wr.heap.size := cs_lt sm hn
      have WI := Lib.hid (fun (i : Nat) (hi : i < m.length) (W : World) S => without_any m b o c' i hi hc' (by omega) W S)
      have EL := Lib.hid (fun (i : Nat) (hi : i < m.length) => show (m.eraseIdx i).length = m.length - 1 from List.length_eraseIdx_of_lt hi)
      have MN := Lib.hid (mn_lt m)
      have ST := Lib.hid (ord_step VM.out hn HQ.out)
      have VE := Lib.hid (fun i => VM.out.sub (List.eraseIdx_sublist m i))
      obtain ⟨n, hnn⟩ : ∃ n, m.length = n := ⟨_, rfl⟩
      have HN := Lib.hid hnn
      rw [hnn] at hn hl SM WI EL hc' ST
      rw [hnn]
      have n12 : (n : Int) ≤ 12 := by omega
      clear sm hnn
      go_wp2_with (fail)
      go_loopw [5, 4] (fun vi vk wi => ∃ i : Nat, 1 ≤ i ∧ i ≤ n ∧ vi = .int .i64 i ∧ vk = .int .i64 (mn m i : Nat) ∧ Below wr.heap.size wr wi) (fun vi _ _ => n - (intOf vi).toNat)
      case atStart => exact ⟨1, by omega, hn, rfl, by rw [mn_one] <;> rfl, Below.refl _ _⟩
      case round =>
        rename World => wi
        obtain ⟨i, hi1, hi, rfl, rfl, hbi⟩ := hrel
        have HBi := Lib.hid hbi
        have sil := hbi.size
        have SI := Lib.hid (SM.out.later hbi)
        clear hbi
        by_cases hlt : i < n
        · have kl := MN.out i (by omega)
          have MY := Lib.hid (@mn_yes m i (by omega)); have MO := Lib.hid (@mn_no m i (by omega))
          obtain ⟨k, hk⟩ : ∃ k, mn m i = k := ⟨_, rfl⟩
          rw [hk] at kl MY MO
          rw [hk]
          obtain ⟨b', o', e', _, x0, x1, x2, x3, x4⟩ := SI.out.elem (i := i) hlt
          obtain ⟨rfl, rfl⟩ : b = b' ∧ o = o' := by injection e' with e'; injection e' with e1 e2; exact ⟨e1, e2⟩
          obtain ⟨b', o', e'', lq, y0, y1, y2, y3, y4⟩ := SI.out.elem (i := k) (by omega)
          obtain ⟨rfl, rfl⟩ : b = b' ∧ o = o' := by injection e'' with e''; injection e'' with e1 e2; exact ⟨e1, e2⟩
          change wi.cell? _ = some (.int .i64 (nth m i).a) at x0
          change wi.cell? _ = some (.int .i64 (nth m i).b) at x1
          change wi.cell? _ = some (.int .i64 (nth m i).c) at x2
          change wi.cell? _ = some (.int .i64 (nth m i).d) at x3
          change wi.cell? _ = some (.int .i64 (nth m i).e) at x4
          change wi.cell? _ = some (.int .i64 (nth m k).a) at y0
          change wi.cell? _ = some (.int .i64 (nth m k).b) at y1
          change wi.cell? _ = some (.int .i64 (nth m k).c) at y2
          change wi.cell? _ = some (.int .i64 (nth m k).d) at y3
          change wi.cell? _ = some (.int .i64 (nth m k).e) at y4
          obtain ⟨x, ex⟩ : ∃ x, nth m i = x := ⟨_, rfl⟩
          obtain ⟨y, ey⟩ : ∃ x, nth m k = x := ⟨_, rfl⟩
          rw [ex] at x0 x1 x2 x3 x4 MY MO
          rw [ey] at y0 y1 y2 y3 y4 MY MO
          obtain ⟨xa, xb, xc, xd, xe⟩ := x
          obtain ⟨ya, yb, yc, yd, ye⟩ := y
          simp only at x0 x1 x2 x3 x4 y0 y1 y2 y3 y4
          have kn : k < n := by omega
          have IW := Lib.hid hi1
          clear ex ey e' e'' hk hi1 kl
          by_cases g : bef ⟨xa, xb, xc, xd, xe⟩ ⟨ya, yb, yc, yd, ye⟩
          · have G := Lib.hid (decide_eq_true g); have M2 := Lib.hid (MY.out g)
            clear g MY MO
            go_wp2_with (fail)
            refine Qb.region (by kernel_rfl) (by kernel_rfl) ?_
            have k0 := Qb.cell x0 lq; have k1 := Qb.cell x1 lq; have k2 := Qb.cell x2 lq; have k3 := Qb.cell x3 lq; have k4 := Qb.cell x4 lq
            have m0 := Qb.cell y0 lq; have m1 := Qb.cell y1 lq; have m2 := Qb.cell y2 lq; have m3 := Qb.cell y3 lq; have m4 := Qb.cell y4 lq
            repeat (go_big_quiet_step (first | (go_at_call 27; exact before_callq G)))
            refine wpQuiet_nil ?_
            rintro _ ⟨⟨w9, hb9⟩, rfl⟩
            have HB9 := Lib.hid (bl_next HBi.out hb9)
            clear hb9 k0 k1 k2 k3 k4 m0 m1 m2 m3 m4 x0 x1 x2 x3 x4 y0 y1 y2 y3 y4
            go_wp2_with (fail)
            go_roundw
            case rel => exact ⟨i + 1, by omega, by omega, by go_num, by rw [M2.out], HB9.out⟩
            case measure => (simp [intOf] <;> omega)
          · have G := Lib.hid (decide_eq_false g); have M2 := Lib.hid (MO.out g)
            clear g MY MO
            go_wp2_with (fail)
            refine Qb.region (by kernel_rfl) (by kernel_rfl) ?_
            have k0 := Qb.cell x0 lq; have k1 := Qb.cell x1 lq; have k2 := Qb.cell x2 lq; have k3 := Qb.cell x3 lq; have k4 := Qb.cell x4 lq
            have m0 := Qb.cell y0 lq; have m1 := Qb.cell y1 lq; have m2 := Qb.cell y2 lq; have m3 := Qb.cell y3 lq; have m4 := Qb.cell y4 lq
            repeat (go_big_quiet_step (first | (go_at_call 27; exact before_callq G)))
            refine wpQuiet_nil ?_
            rintro _ ⟨⟨w9, hb9⟩, rfl⟩
            have HB9 := Lib.hid (bl_next HBi.out hb9)
            clear hb9 k0 k1 k2 k3 k4 m0 m1 m2 m3 m4 x0 x1 x2 x3 x4 y0 y1 y2 y3 y4
            go_wp2_with (fail)
            go_roundw
            case rel => exact ⟨i + 1, by omega, by omega, by go_num, by rw [M2.out], HB9.out⟩
            case measure => (simp [intOf] <;> omega)
        · obtain rfl : n = i := by omega
          have kl := MN.out n hn
          obtain ⟨k, hk⟩ : ∃ k, mn m n = k := ⟨_, rfl⟩
          rw [hk] at kl ST
          rw [hk]
          obtain ⟨b', o', e'', lq, y0, y1, y2, y3, y4⟩ := SI.out.elem (i := k) kl
          obtain ⟨rfl, rfl⟩ : b = b' ∧ o = o' := by injection e'' with e''; injection e'' with e1 e2; exact ⟨e1, e2⟩
          change wi.cell? _ = some (.int .i64 (nth m k).a) at y0
          change wi.cell? _ = some (.int .i64 (nth m k).b) at y1
          change wi.cell? _ = some (.int .i64 (nth m k).c) at y2
          change wi.cell? _ = some (.int .i64 (nth m k).d) at y3
          change wi.cell? _ = some (.int .i64 (nth m k).e) at y4
          obtain ⟨y, ey⟩ : ∃ x, nth m k = x := ⟨_, rfl⟩
          rw [ey] at y0 y1 y2 y3 y4 ST
          obtain ⟨ya, yb, yc, yd, ye⟩ := y
          simp only at y0 y1 y2 y3 y4
          have HBw := Lib.hid (HBr.out.trans (HBi.out.mono szr))
          have szi : w.heap.size ≤ wi.heap.size := by omega
          have Rx := Lib.hid ((RK.out.later HBi.out).later (Below.alloc (Below.refl _ _) (Nat.le_refl _) (.cells #[.int .i64 ya, .int .i64 yb, .int .i64 yc, .int .i64 yd, .int .i64 ye] 36)))
          have BX := Lib.hid (Below.alloc HBw.out szi (.cells #[.int .i64 ya, .int .i64 yb, .int .i64 yc, .int .i64 yd, .int .i64 ye] 36))
          have SX := Lib.hid (SI.out.later (Below.alloc (Below.refl _ _) (Nat.le_refl _) (.cells #[.int .i64 ya, .int .i64 yb, .int .i64 yc, .int .i64 yd, .int .i64 ye] 36)))
          have bs := Lib.hid (show w.heap.size ≤ (wi.alloc (.cells #[.int .i64 ya, .int .i64 yb, .int .i64 yc, .int .i64 yd, .int .i64 ye] 36)).heap.size by simp; omega)
          have BM := Lib.hid (show (wi.alloc (.cells #[.int .i64 ya, .int .i64 yb, .int .i64 yc, .int .i64 yd, .int .i64 ye] 36)).heap[wi.heap.size]? = some (.cells #[.int .i64 ya, .int .i64 yb, .int .i64 yc, .int .i64 yd, .int .i64 ye] 36) from Hp.blk_new wi _)
          have sm := Lib.hid (show q.length ≤ 1000000 by omega)
          have KN := Lib.hid kl; have NP := Lib.hid hn; have HL := Lib.hid hl
          clear ey e'' hk szi hl
          go_wp2_with (at_builtin; refine append_cand (l := q) (v := u3) (x := ⟨ya, yb, yc, yd, ye⟩) rfl (.tmp 28) (.tmp 33) rfl (by rfl) Rx.out wi.heap.size (by rfl) (by exact BM.out) sm.out bs.out ?_; intro v2 w2 R2 G2; have HR2 := Lib.hid R2; have HG2 := Lib.hid G2; clear R2 G2)
          have HB2 := Lib.hid (Rk.below Rx.out (Nat.le_refl _) HG2.out BX.out bs.out)
          have S2 := Lib.hid (cs_grown SX.out NP.out HG2.out (AP.out _ _ _ _ rfl))
          refine (WI.out k KN.out _ S2.out).mono ?_
          rintro en w3 ⟨v3, rfl, R3, B3⟩
          have HR3 := Lib.hid R3; have HB3 := Lib.hid (bl_next HB2.out B3); have HQ3 := Lib.hid (HR2.out.later B3)
          clear B3 R3
          go_wp2_with (fail)
          go_roundw
          case rel => exact ⟨_, _, apart_of HR2.out HR3.out, HQ3.out, HR3.out.rl, VE.out k, ST.out, by rw [EL.out k KN.out]; simp; have := HL.out; omega, HB3.out⟩
          case measure =>
            obtain ⟨a9, c9, e9, _⟩ := HR3.out.rd
            rw [e9, EL.out k KN.out]
            have := NP.out
            simp [lenW] <;> omega
set_option maxHeartbeats 4000000 in
theorem rsystem_any (l : List Cd) (v0 : Value) (w : World) (R : Rl w v0 l) :
    Calls Try.prog 12 #[v0] w fun e w' => e = .returned (.tuple #[.int .i64 (sysV l), .bool (sysB l)]) ∧ Below w.heap.size w w' := by
  have hR := Lib.hid R
  clear R
  by_cases hc : Cx.chk l.length (zof l) = 0
  · have V := Lib.hid ((val_iff l).1 hc)
    by_cases hn : 0 < l.length
    · have E := Lib.hid (show sysV l = (nth (ord l) 0).a ∧ sysB l = true from ⟨by unfold sysV; rw [if_pos ⟨hc, hn⟩], by unfold sysB; simp [hc, hn]⟩)
      have on := ord_len l
      clear hc
      go_enter Try.func12, Try.ntmps12
      go_wp2_with (fail)
      refine (rorder_ok l V.out v0 _ hR.out).mono ?_
      rintro en w1 ⟨v, rfl, o, B1⟩
      have HB := Lib.hid B1
      obtain ⟨a1, c1, rfl, S1, _⟩ := o.rd
      obtain ⟨b, o, rfl, hb, z0, _, _, _, _⟩ := cell_of S1 (i := 0) (by omega)
      rw [Nat.zero_mul, Nat.add_zero] at z0
      obtain ⟨X, eX⟩ : ∃ X, (nth (ord l) 0).a = X := ⟨_, rfl⟩
      rw [eX] at z0 E
      obtain ⟨n, hn2⟩ : ∃ n, (ord l).length = n := ⟨_, rfl⟩
      rw [hn2] at on
      have q : (((n : Int)) == 0) = false := by simp; omega
      have hn3 : 0 < n := by omega
      rw [hn2]
      clear B1 S1 eX hn2 on o
      go_wp2_with (fail)
      go_ret2
      exact ⟨by rw [E.out.1, E.out.2] <;> rfl, HB.out⟩
    · have E := Lib.hid (show sysV l = 0 ∧ sysB l = false from ⟨by unfold sysV; rw [if_neg (fun h => hn h.2)], by unfold sysB; simp [hn]⟩)
      have on := ord_len l
      clear hc
      go_enter Try.func12, Try.ntmps12
      go_wp2_with (fail)
      refine (rorder_ok l V.out v0 _ hR.out).mono ?_
      rintro en w1 ⟨v, rfl, o, B1⟩
      have HB := Lib.hid B1
      obtain ⟨a1, c1, rfl, S1, _⟩ := o.rd
      have hz : (ord l).length = 0 := by omega
      rw [hz]
      clear B1 S1 on o
      go_wp2_with (fail)
      go_ret2
      exact ⟨by rw [E.out.1, E.out.2] <;> rfl, HB.out⟩
  · have E := Lib.hid (show sysV l = 0 ∧ sysB l = false from ⟨by unfold sysV; rw [if_neg (fun h => hc h.1)], by unfold sysB; simp [hc]⟩)
    obtain ⟨r, hr⟩ : ∃ r, Cx.chk l.length (zof l) = r := ⟨_, rfl⟩
    have HR := Lib.hid hr
    have hr2 : (r != 0) = true := by rw [← hr]; simpa using hc
    obtain ⟨a, c, rfl, S⟩ := hR.out.rd
    have hS := Lib.hid S
    clear hr hc S
    go_enter Try.func12, Try.ntmps12
    go_wp2_with (fail)
    refine (rorder_bad l a c HR hr2 _ hS.out).mono ?_
    rintro en w1 ⟨rfl, B1⟩
    have HB := Lib.hid B1
    clear B1
    go_wp2_with (fail)
    go_ret2
    exact ⟨by rw [E.out.1, E.out.2] <;> rfl, HB.out⟩
end Go.Proofs.Ytbbdeagllhmdiaa.CxW
