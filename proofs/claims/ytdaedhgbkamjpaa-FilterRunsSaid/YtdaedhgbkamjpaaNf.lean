/- The reference's Jitter and Spike. -/
import Derived.Test.YtdaedhgbkamjpaaNe
set_option linter.unusedVariables false
set_option linter.unusedSimpArgs false
namespace Go.Proofs.Ytdaedhgbkamjpaa.JxW
open Go.RowKit FxW
open Go.Proofs.Ytdaedhgbkamjpaa.Jx
theorem rorder_any {base g : Nat} {tol : Int} {l : List Sm} {any : Bool} {fr : Int} (V : Val l) (w : World) (F : Ri w base g tol l any fr) :
    Calls Try.prog 33 #[.pointer (some ⟨g, 0, none⟩)] w fun e w' => ∃ v, e = .returned v ∧ Rk w' w.heap.size v (ord l) ∧ Below w.heap.size w w' := by
  by_cases h : l = []
  · exact rorder_nil h w F
  · exact rorder_some V (List.length_pos_iff.2 h) w F
theorem rorder_first {base g : Nat} {tol : Int} {l : List Sm} {any : Bool} {fr : Int} {n : Nat} {yo yd yp yt : Int} (V : Val l) (hn : l.length = n) (h0 : 0 < n) (hy : first l = ⟨yo, yd, yp, yt⟩) (w : World) (F : Ri w base g tol l any fr) :
    Calls Try.prog 33 #[.pointer (some ⟨g, 0, none⟩)] w (Ord1 w n yo yd yp yt) := by
  refine (rorder_any V w F).mono ?_
  rintro e w' ⟨v, he, R, B⟩
  have ol := ord_len l
  obtain ⟨b, c, hv, s⟩ := Rk.rd0 R (by omega)
  have lt := World.ownsRow.lt R.own b (by rw [hv]; rfl)
  have f := fun j hj => cs_at' s 0 j (by omega) hj
  have e0 := f 0 (by omega); have e1 := f 1 (by omega); have e2 := f 2 (by omega); have e3 := f 3 (by omega)
  unfold first at hy
  unfold zof at e0 e1 e2 e3
  rw [hy] at e0 e1 e2 e3
  exact ⟨b, c, by rw [he, hv, ord_len, hn], lt.1, lt.2, e0, e1, e2, e3, B⟩
theorem apart_callq {w : World} {z : Qb.Later w} {a b r : Int} (a1 : -4503599627370496 ≤ a) (a2 : a ≤ 4503599627370496) (b1 : -4503599627370496 ≤ b) (b2 : b ≤ 4503599627370496) (h : Hid (min (Fx.iabs (a - b)) 1073741824 = r)) :
    Calls Try.prog 37 #[.int .i64 a, .int .i64 b] z.1 fun e w'' => e = .returned (.int .i64 r) ∧ ∃ z' : Qb.Later w, w'' = z'.1 := by
  rw [← h.out]; exact Qb.call ((apart_any a b a1 a2 b1 b2 _).mono (by rintro e w' ⟨rfl, rfl⟩; exact ⟨rfl, Below.refl _ _⟩))
set_option maxHeartbeats 1000000 in
theorem rjitter_small {base g : Nat} {tol : Int} {l : List Sm} {any : Bool} {fr : Int} (h : l.length < 2) (w : World) (F : Ri w base g tol l any fr) :
    Calls Try.prog 24 #[.pointer (some ⟨g, 0, none⟩)] w fun e w' => e = .returned (.int .i64 (jit l)) ∧ Below w.heap.size w w' := by
  obtain ⟨v, c, s⟩ := F.c1
  obtain ⟨a, cp, rfl, _⟩ := s.len
  have E : Hid (jit l = 0) := Lib.hid (by unfold jit; rw [if_pos h])
  rw [E.out]
  obtain ⟨n, hn⟩ : ∃ n, l.length = n := ⟨_, rfl⟩
  rw [hn] at c h
  have h' : (n : Int) < 2 := by omega
  clear hn F h s
  go_enter Try.func24, Try.ntmps24
  go_wp2_with (fail)
  go_ret
  exact ⟨rfl, by (repeat (first | exact Below.refl _ _ | refine Below.drew ?_ | refine Hp.drewN ?_ _ | refine Below.setCell ?_ (by first | (simp; done) | (simp; omega) | omega) _ | refine Below.alloc ?_ (by first | (simp; done) | (simp; omega) | omega) _ | (refine Hp.step ?_ (by assumption))))⟩
set_option maxHeartbeats 8000000 in
set_option maxRecDepth 4000 in
theorem rjitter_ok {base g : Nat} {tol : Int} {l : List Sm} {any : Bool} {fr : Int} (V : Val l) (h : 2 ≤ l.length) (w : World) (F : Ri w base g tol l any fr) :
    Calls Try.prog 24 #[.pointer (some ⟨g, 0, none⟩)] w fun e w' => e = .returned (.int .i64 (jit l)) ∧ Below w.heap.size w w' := by
  obtain ⟨v, c, s⟩ := F.c1
  obtain ⟨a, cp, rfl, _⟩ := s.len
  have HF := Lib.hid F
  have OR := Lib.hid (fun W (F : Ri W base g tol l any fr) => rorder_any V W F)
  have E : Hid (jit l = Fx.isq (sqN (ord l) l.length / ((l.length : Int) - 1))) := Lib.hid (by unfold jit; rw [if_neg (by omega)])
  have n8 := V.len
  have BD := Lib.hid (fun i (hi : i < l.length) => ord_bd V hi)
  have md := mean_bd (ord l) (n := l.length) h
  have ol := ord_len l
  obtain ⟨m, hm⟩ : ∃ m, ord l = m := ⟨_, rfl⟩
  rw [hm] at OR E BD md ol
  obtain ⟨n, hn⟩ : ∃ n, l.length = n := ⟨_, rfl⟩
  rw [hn] at c h E n8 BD md ol
  have HN := Lib.hid ol
  have h' : ¬ (n : Int) < 2 := by omega
  have n8' : (n : Int) ≤ 8 := by omega
  have n0 : 0 < n := by omega
  clear hm hn F V ol s
  go_enter Try.func24, Try.ntmps24
  go_wp2_with (fail)
  refine (OR.out _ HF.out).mono ?_
  rintro en w1 ⟨v, rfl, o1, B1⟩
  obtain ⟨a, cp, rfl, s1, _⟩ := o1.rd
  have HB := Lib.hid B1
  rw [HN.out] at s1 ⊢
  have S1 := Lib.hid s1
  clear o1 B1 s1 c
  go_wp2_with (fail)
  go_loopw [5, 4] (fun vi vs wr => ∃ k : Nat, k ≤ n ∧ vi = .int .i64 k ∧ vs = .int .i64 (sqN m k) ∧ Below w1.heap.size w1 wr) (fun vi _ _ => n - (intOf vi).toNat)
  case atStart => exact ⟨0, by omega, rfl, rfl, Below.refl _ _⟩
  case round =>
    rename World => wr
    obtain ⟨k, hk, rfl, rfl, hB⟩ := hrel
    have HBr := Lib.hid hB
    have S2 := Lib.hid (S1.out.later hB)
    clear hB
    by_cases hlt : k < n
    · obtain ⟨b, o, rfl, lb, x0, x1, x2, x3⟩ := S2.out.elem (i := k) hlt
      obtain ⟨b', o', e', _, y0, y1, y2, y3⟩ := S2.out.elem (i := 0) n0
      obtain ⟨rfl, rfl⟩ : b = b' ∧ o = o' := by injection e' with e'; injection e' with e1 e2; exact ⟨e1, e2⟩
      rw [Nat.zero_mul, Nat.add_zero] at y0 y1 y2 y3
      have bx := BD.out k hlt; have by0 := BD.out 0 n0
      have NS := Lib.hid (show sqN m (k + 1) = sqN m k + dq (nth m k) (nth m 0) * dq (nth m k) (nth m 0) from rfl)
      have q0 := sqN_nn m k
      have q1 : sqN m k ≤ 6917529027641081856 := by
        rcases k with _ | k
        · simp [sqN]
        · have := sqN_top m k; omega
      have dd := dq_bd (nth m k) (nth m 0)
      have d2 := sq_bd dd.1 dd.2
      have hD : min (Fx.iabs ((nth m k).o - (nth m 0).o)) 1073741824 = dq (nth m k) (nth m 0) := rfl
      change wr.cell? _ = some (.int .i64 (nth m k).o) at x0
      change wr.cell? _ = some (.int .i64 (nth m 0).o) at y0
      obtain ⟨D, eD⟩ : ∃ D, dq (nth m k) (nth m 0) = D := ⟨_, rfl⟩
      rw [eD] at hD NS dd d2
      obtain ⟨Q, eQ⟩ : ∃ Q, sqN m k = Q := ⟨_, rfl⟩
      rw [eQ] at NS q0 q1
      rw [eQ]
      obtain ⟨P, eP⟩ : ∃ P, D * D = P := ⟨_, rfl⟩
      rw [eP] at NS d2
      obtain ⟨xo, ex⟩ : ∃ x, (nth m k).o = x := ⟨_, rfl⟩
      obtain ⟨yo, ey⟩ : ∃ x, (nth m 0).o = x := ⟨_, rfl⟩
      rw [ex] at x0 bx hD
      rw [ey] at y0 by0 hD
      have bx1 := bx.1; have bx2 := bx.2.1; have by1 := by0.1; have by2 := by0.2.1
      have HR := Lib.hid hD
      have p0 := d2.1; have p1 : P ≤ 1152921504606846976 := by (have := d2.2; omega)
      have d20 := dd.1; have d21 := dd.2
      have k8 : (k : Int) ≤ 8 := by omega
      clear e' eD eQ ex ey hD bx by0 dd d2 md x1 x2 x3 y1 y2 y3
      go_wp2_with (fail)
      refine Qb.region (by kernel_rfl) (by kernel_rfl) ?_
      have m0 := Qb.cell x0 lb; have m1 := Qb.cell y0 lb
      repeat (go_big_quiet_step (first | (go_at_call 37; exact apart_callq bx1 bx2 by1 by2 HR)))
      refine wpQuiet_nil ?_
      rintro _ ⟨⟨w9, hb9⟩, rfl⟩
      have HB9 := Lib.hid (bl_next HBr.out hb9)
      clear hb9 m0 m1 x0 y0
      go_wp2_with (fail)
      go_roundw
      case rel => exact ⟨k + 1, by omega, by go_num, by rw [NS.out], HB9.out⟩
      case measure => (simp [intOf] <;> omega)
    · obtain rfl : n = k := by omega
      have q0 := sqN_nn m n
      have F2 := E
      obtain ⟨Q, eQ⟩ : ∃ Q, sqN m n = Q := ⟨_, rfl⟩
      rw [eQ] at F2 q0 md
      rw [eQ]
      have m0 := md.1; have m1 := md.2
      have tq : Q.tdiv ((n : Int) - 1) = Q / ((n : Int) - 1) := Int.tdiv_eq_ediv_of_nonneg q0
      obtain ⟨M, eM⟩ : ∃ M, Q / ((n : Int) - 1) = M := ⟨_, rfl⟩
      rw [eM] at F2 m0 m1 tq
      obtain ⟨N, rfl⟩ : ∃ N : Nat, M = N := ⟨M.toNat, by omega⟩
      have SQ := Lib.hid (fun w => root22_any N (by omega) w)
      rw [← F2.out] at SQ
      have q2 : Q ≤ 9223372036854775807 := by
        obtain ⟨k, rfl⟩ : ∃ k, n = k + 1 := ⟨n - 1, by omega⟩
        have := sqN_top m k; omega
      clear eQ eM md
      go_wp2_with (fail)
      refine (SQ.out _).mono ?_
      rintro en w2 ⟨rfl, nq, rfl⟩
      have HB9 := Lib.hid (Hp.drewN (bl_next HB.out HBr.out) nq)
      go_wp2_with (fail)
      go_ret
      exact ⟨rfl, HB9.out⟩
theorem rjitter_any {base g : Nat} {tol : Int} {l : List Sm} {any : Bool} {fr : Int} (V : Val l) (w : World) (F : Ri w base g tol l any fr) :
    Calls Try.prog 24 #[.pointer (some ⟨g, 0, none⟩)] w fun e w' => e = .returned (.int .i64 (jit l)) ∧ Below w.heap.size w w' := by
  by_cases h : l.length < 2
  · exact rjitter_small h w F
  · exact rjitter_ok V (by omega) w F
set_option maxHeartbeats 2000000 in
theorem rspike_bad {base g : Nat} {tol : Int} {l : List Sm} {any : Bool} {fr : Int} (xo xd xp xt : Int) (hx : Sx.okS xo xd xp xt = false) (w : World) (F : Ri w base g tol l any fr) :
    Calls Try.prog 20 #[.pointer (some ⟨g, 0, none⟩), .agg #[.int .i64 xo, .int .i64 xd, .int .i64 xp, .int .i64 xt]] w fun e w' => e = .returned (.bool (spk l ⟨xo, xd, xp, xt⟩)) ∧ Below w.heap.size w w' := by
  have E : Hid (spk l ⟨xo, xd, xp, xt⟩ = false) := Lib.hid (by unfold spk; rw [show okb ⟨xo, xd, xp, xt⟩ = false from hx]; simp)
  have C0 := Lib.hid (Sx.chk_no hx)
  have CK := Lib.hid (fun W => rcheck_any xo xd xp xt W)
  rw [C0.out] at CK
  rw [E.out]
  clear F hx
  go_enter Try.func20, Try.ntmps20
  go_wp2_with (go_at_call 32; (with_reducible refine (CK.out _).mono ?_); rintro e w2 ⟨rfl, hb2⟩; have HB2 := Lib.hid hb2; clear hb2)
  go_ret
  exact ⟨rfl, Below.trans (by (repeat (first | exact Below.refl _ _ | refine Below.drew ?_ | refine Hp.drewN ?_ _ | refine Below.setCell ?_ (by first | (simp; done) | (simp; omega) | omega) _ | refine Below.alloc ?_ (by first | (simp; done) | (simp; omega) | omega) _ | (refine Hp.step ?_ (by assumption))))) (HB2.out.mono (by simp))⟩
set_option maxHeartbeats 2000000 in
theorem rspike_small {base g : Nat} {tol : Int} {l : List Sm} {any : Bool} {fr : Int} (h : l.length < 2) (xo xd xp xt : Int) (hx : Sx.okS xo xd xp xt = true) (w : World) (F : Ri w base g tol l any fr) :
    Calls Try.prog 20 #[.pointer (some ⟨g, 0, none⟩), .agg #[.int .i64 xo, .int .i64 xd, .int .i64 xp, .int .i64 xt]] w fun e w' => e = .returned (.bool (spk l ⟨xo, xd, xp, xt⟩)) ∧ Below w.heap.size w w' := by
  obtain ⟨v, c, s⟩ := F.c1
  obtain ⟨a, cp, rfl, _⟩ := s.len
  have E : Hid (spk l ⟨xo, xd, xp, xt⟩ = false) := Lib.hid (by unfold spk; rw [decide_eq_false (show ¬ 2 ≤ l.length by omega)]; simp)
  have C0 := Lib.hid (Sx.chk_ok hx)
  have CK := Lib.hid (fun W => rcheck_any xo xd xp xt W)
  rw [C0.out] at CK
  rw [E.out]
  obtain ⟨n, hn⟩ : ∃ n, l.length = n := ⟨_, rfl⟩
  rw [hn] at c h
  have h' : (n : Int) < 2 := by omega
  have lg := F.lt
  have B0 : Hid (Below w.heap.size w (w.alloc (.cells #[.int .i64 xo, .int .i64 xd, .int .i64 xp, .int .i64 xt] 29))) := Lib.hid (by (repeat (first | exact Below.refl _ _ | refine Below.drew ?_ | refine Hp.drewN ?_ _ | refine Below.setCell ?_ (by first | (simp; done) | (simp; omega) | omega) _ | refine Below.alloc ?_ (by first | (simp; done) | (simp; omega) | omega) _ | (refine Hp.step ?_ (by assumption)))))
  have CC := Lib.hid (fun W (k : Below w.heap.size w W) => (k.cell (p := ⟨g, 1, none⟩) lg).trans c)
  clear hn F h s hx c
  go_enter Try.func20, Try.ntmps20
  go_wp2_with (go_at_call 32; (with_reducible refine (CK.out _).mono ?_); rintro e w2 ⟨rfl, hb2⟩; have HB2 := Lib.hid (B0.out.trans (hb2.mono (by simp))); have c := CC.out _ HB2.out; clear hb2)
  go_ret
  exact ⟨rfl, HB2.out⟩
set_option maxHeartbeats 8000000 in
theorem rspike_ok {base g : Nat} {tol : Int} {l : List Sm} {any : Bool} {fr : Int} (V : Val l) (h : 2 ≤ l.length) (xo xd xp xt : Int) (hx : Sx.okS xo xd xp xt = true) (w : World) (F : Ri w base g tol l any fr) :
    Calls Try.prog 20 #[.pointer (some ⟨g, 0, none⟩), .agg #[.int .i64 xo, .int .i64 xd, .int .i64 xp, .int .i64 xt]] w fun e w' => e = .returned (.bool (spk l ⟨xo, xd, xp, xt⟩)) ∧ Below w.heap.size w w' := by
  obtain ⟨v, c, s⟩ := F.c1
  obtain ⟨a, cp, rfl, _⟩ := s.len
  have HF := Lib.hid F
  have C0 := Lib.hid (Sx.chk_ok hx)
  have CK := Lib.hid (fun W => rcheck_any xo xd xp xt W)
  rw [C0.out] at CK
  have bx := Sx.okS_iff.1 hx
  have by0 := V.bd (first_mem (l := l) (by omega))
  have jb := jit_bd l
  have E0 : spk l ⟨xo, xd, xp, xt⟩ = decide (3 * max (jit l) 1 < max (xo - (first l).o) (-(xo - (first l).o))) := by
    unfold spk; rw [show okb ⟨xo, xd, xp, xt⟩ = true from hx, decide_eq_true h, max_neg]; simp
  obtain ⟨y, hy⟩ : ∃ y, first l = y := ⟨_, rfl⟩
  obtain ⟨yo, yd, yp, yt⟩ := y
  rw [hy] at by0 E0
  simp only at by0 E0
  have OR := Lib.hid (fun W (F : Ri W base g tol l any fr) => rorder_first V rfl (show 0 < l.length by omega) hy W F)
  have JI := Lib.hid (fun W (F : Ri W base g tol l any fr) => rjitter_any V W F)
  obtain ⟨J, eJ⟩ : ∃ J, jit l = J := ⟨_, rfl⟩
  rw [eJ] at jb E0 JI
  have E := Lib.hid E0
  have j0 := jb.1; have j1 := jb.2
  have m1 : 1 ≤ max J 1 := by omega
  have m2 : max J 1 ≤ 1073741824 := by omega
  have bx1 := bx.1; have bx2 := bx.2.1; have by1 := by0.1; have by2 := by0.2.1
  obtain ⟨n, hn⟩ : ∃ n, l.length = n := ⟨_, rfl⟩
  rw [hn] at c h OR
  have h' : ¬ (n : Int) < 2 := by omega
  have n0 : 0 < n := by omega
  rw [E.out]
  have lg := F.lt
  have B0 : Hid (Below w.heap.size w (w.alloc (.cells #[.int .i64 xo, .int .i64 xd, .int .i64 xp, .int .i64 xt] 29))) := Lib.hid (by (repeat (first | exact Below.refl _ _ | refine Below.drew ?_ | refine Hp.drewN ?_ _ | refine Below.setCell ?_ (by first | (simp; done) | (simp; omega) | omega) _ | refine Below.alloc ?_ (by first | (simp; done) | (simp; omega) | omega) _ | (refine Hp.step ?_ (by assumption)))))
  have CC := Lib.hid (fun W (k : Below w.heap.size w W) => (k.cell (p := ⟨g, 1, none⟩) lg).trans c)
  clear hn F hx V bx by0 jb hy eJ E0 h s c
  go_enter Try.func20, Try.ntmps20
  go_wp2_with (go_at_call 32; (with_reducible refine (CK.out _).mono ?_); rintro e w2 ⟨rfl, hb2⟩; have K2 := Lib.hid hb2; have HB2 := Lib.hid (B0.out.trans (hb2.mono (by simp))); have c := CC.out _ HB2.out; clear hb2)
  have blk : w2.heap[w.heap.size]? = some (.cells #[.int .i64 xo, .int .i64 xd, .int .i64 xp, .int .i64 xt] 29 (0, 0)) := by rw [K2.out.block _ (by simp)]; exact Hp.blk_new w _
  have z0 : w2.cell? ⟨w.heap.size, 0, none⟩ = some (.int .i64 xo) := Hp.blk_cell blk rfl
  have lz := Lib.hid (Hp.blk_lt blk)
  have F2 := Lib.hid (HF.out.later HB2.out)
  have D2 : Hid (Below w2.heap.size w2 w2.drew) := Lib.hid (by (repeat (first | exact Below.refl _ _ | refine Below.drew ?_ | refine Hp.drewN ?_ _ | refine Below.setCell ?_ (by first | (simp; done) | (simp; omega) | omega) _ | refine Below.alloc ?_ (by first | (simp; done) | (simp; omega) | omega) _ | (refine Hp.step ?_ (by assumption)))))
  have FD := Lib.hid (F2.out.later D2.out)
  obtain ⟨gy, hgy⟩ : ∃ gy, w.heap.size = gy := ⟨_, rfl⟩
  rw [hgy] at z0 lz
  rw [hgy]
  have Z := Lib.hid z0
  clear blk hgy
  have mw : IntKind.i64.wrap (3 * max J 1) = 3 * max J 1 := IntWalk.i64_in _ (by omega)
  go_region_with
    (first
      | (go_at_call 33; refine (OR.out _ FD.out).mono ?_; rintro e w3 ⟨b3, c3, rfl, -, lb, y0, y1, y2, y3, B3⟩; have HB3 := Lib.hid (D2.out.trans B3); have F3 := Lib.hid (FD.out.later B3); have k0 := (B3.cell (p := ⟨gy, 0, none⟩) lz.out).trans Z.out; clear B3 y1 y2 y3))
  all_goals
    go_wp2_with (fail)
    refine (JI.out _ F3.out).mono ?_
    rintro en w5 ⟨rfl, B5⟩
    have HB5 := Lib.hid (HB3.out.trans (B5.mono HB3.out.size))
    clear B5
    go_wp2_with (fail)
    go_ret
    exact ⟨rfl, HB2.out.trans (HB5.out.mono HB2.out.size)⟩
theorem rspike_any {base g : Nat} {tol : Int} {l : List Sm} {any : Bool} {fr : Int} (V : Val l) (xo xd xp xt : Int) (w : World) (F : Ri w base g tol l any fr) :
    Calls Try.prog 20 #[.pointer (some ⟨g, 0, none⟩), .agg #[.int .i64 xo, .int .i64 xd, .int .i64 xp, .int .i64 xt]] w fun e w' => e = .returned (.bool (spk l ⟨xo, xd, xp, xt⟩)) ∧ Below w.heap.size w w' := by
  by_cases hx : Sx.okS xo xd xp xt = true
  · by_cases h : l.length < 2
    · exact rspike_small h xo xd xp xt hx w F
    · exact rspike_ok V (by omega) xo xd xp xt hx w F
  · exact rspike_bad xo xd xp xt (by simpa using hx) w F
end Go.Proofs.Ytdaedhgbkamjpaa.JxW
