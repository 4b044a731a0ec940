/- distance, Jitter, Spike of package filter. -/
import Derived.Test.YtdaedhgbkamjpaaJf
import Derived.Test.YtdaedhgbkamjpaaFs
set_option linter.unusedVariables false
set_option linter.unusedSimpArgs false
namespace Go.Proofs.Ytdaedhgbkamjpaa.JxW
open Go.RowKit FxW
open Go.Proofs.Ytdaedhgbkamjpaa.Jx
theorem abs_at {a r : Int} (h1 : -9007199254740992 ≤ a) (h2 : a ≤ 9007199254740992) (hr : Hid (Fx.iabs a = r)) (w : World) :
    Calls Try.prog 50 #[.int .i64 a] w fun e w' => e = .returned (.tuple #[.int .i64 r, .bool true]) ∧ w = w' := by
  have h := abs_any a (by omega) (by omega) w
  have hb : Fx.iabs a ≤ 9007199254740992 := by unfold Fx.iabs; split <;> omega
  have k : Fx.fitOk (Fx.iabs a) = true := Fx.fitOk_true (by have := Fx.iabs_nonneg a; omega) (by omega)
  rw [Fx.fitV_of k, k, hr.out] at h
  exact h
set_option maxHeartbeats 2000000 in
theorem distance_any (x y : Sm) (x1 : -4503599627370496 ≤ x.o) (x2 : x.o ≤ 4503599627370496) (y1 : -4503599627370496 ≤ y.o) (y2 : y.o ≤ 4503599627370496) (w : World) :
    Calls Try.prog 35 #[.agg #[.int .i64 x.o, .int .i64 x.d, .int .i64 x.p, .int .i64 x.t], .agg #[.int .i64 y.o, .int .i64 y.d, .int .i64 y.p, .int .i64 y.t]] w fun e w' => e = .returned (.int .i64 (Fx.iabs (x.o - y.o))) ∧ Below w.heap.size w w' := by
  have AB := Lib.hid (fun W => abs_at (a := x.o - y.o) (by omega) (by omega) (Lib.hid rfl) W)
  obtain ⟨r, hr⟩ : ∃ r, Fx.iabs (x.o - y.o) = r := ⟨_, rfl⟩
  rw [hr] at AB ⊢
  obtain ⟨xo, xd, xp, xt⟩ := x
  obtain ⟨yo, yd, yp, yt⟩ := y
  simp only at x1 x2 y1 y2 AB ⊢
  clear hr
  go_enter Try.func35, Try.ntmps35
  go_wp2_with (go_at_call 50; (with_reducible refine (AB.out _).mono ?_); rintro e w' ⟨rfl, rfl⟩)
  go_ret
  exact ⟨rfl, by (repeat (first | exact Below.refl _ _ | refine Below.drew ?_ | refine Hp.drewN ?_ _ | refine Below.setCell ?_ (by first | (simp; done) | (simp; omega) | omega) _ | refine Below.alloc ?_ (by first | (simp; done) | (simp; omega) | omega) _ | (refine Hp.step ?_ (by assumption))))⟩
theorem distance_callq {w : World} {z : Qb.Later w} {xo xd xp xt yo yd yp yt r : Int} (x1 : -4503599627370496 ≤ xo) (x2 : xo ≤ 4503599627370496) (y1 : -4503599627370496 ≤ yo) (y2 : yo ≤ 4503599627370496) (h : Hid (Fx.iabs (xo - yo) = r)) :
    Calls Try.prog 35 #[.agg #[.int .i64 xo, .int .i64 xd, .int .i64 xp, .int .i64 xt], .agg #[.int .i64 yo, .int .i64 yd, .int .i64 yp, .int .i64 yt]] z.1 fun e w'' => e = .returned (.int .i64 r) ∧ ∃ z' : Qb.Later w, w'' = z'.1 := by
  rw [← h.out]; exact Qb.call (distance_any ⟨xo, xd, xp, xt⟩ ⟨yo, yd, yp, yt⟩ x1 x2 y1 y2 _)
set_option maxHeartbeats 1000000 in
theorem jitter_small {g : Nat} {tol : Int} {l : List Sm} {any : Bool} {fr : Int} (h : l.length < 2) (w : World) (F : Fi w g tol l any fr) :
    Calls Try.prog 23 #[.pointer (some ⟨g, 0, none⟩)] w fun e w' => e = .returned (.int .i64 (jit l)) ∧ Below w.heap.size w w' := by
  have c := F.c33
  have E : Hid (jit l = 0) := Lib.hid (by unfold jit; rw [if_pos h])
  rw [E.out]
  obtain ⟨n, hn⟩ : ∃ n, l.length = n := ⟨_, rfl⟩
  rw [hn] at c h
  have h' : (n : Int) < 2 := by omega
  clear hn F h
  go_enter Try.func23, Try.ntmps23
  go_wp2_with (fail)
  go_ret
  exact ⟨rfl, by (repeat (first | exact Below.refl _ _ | refine Below.drew ?_ | refine Hp.drewN ?_ _ | refine Below.setCell ?_ (by first | (simp; done) | (simp; omega) | omega) _ | refine Below.alloc ?_ (by first | (simp; done) | (simp; omega) | omega) _ | (refine Hp.step ?_ (by assumption))))⟩
set_option maxHeartbeats 8000000 in
set_option maxRecDepth 4000 in
theorem jitter_ok {g : Nat} {tol : Int} {l : List Sm} {any : Bool} {fr : Int} (V : Val l) (h : 2 ≤ l.length) (w : World) (F : Fi w g tol l any fr) :
    Calls Try.prog 23 #[.pointer (some ⟨g, 0, none⟩)] w fun e w' => e = .returned (.int .i64 (jit l)) ∧ Below w.heap.size w w' := by
  have c := F.c33
  have HF := Lib.hid F
  have OR := Lib.hid (fun W (F : Fi W g tol l any fr) => ordered_any V W F)
  have E : Hid (jit l = Fx.isq (sqN (ord l) l.length / ((l.length : Int) - 1))) := Lib.hid (by unfold jit; rw [if_neg (by omega)])
  have n8 := V.len
  have BD := Lib.hid (fun i (hi : i < l.length) => ord_bd V hi)
  have md := mean_bd (ord l) (n := l.length) h
  have ol := ord_len l
  obtain ⟨m, hm⟩ : ∃ m, ord l = m := ⟨_, rfl⟩
  rw [hm] at OR E BD md ol
  obtain ⟨n, hn⟩ : ∃ n, l.length = n := ⟨_, rfl⟩
  rw [hn] at c h E n8 BD md ol
  have HN := Lib.hid ol
  have h' : (2 : Int) ≤ (n : Int) := by omega
  have n8' : (n : Int) ≤ 8 := by omega
  have n0 : 0 < n := by omega
  clear hm hn F V ol
  go_enter Try.func23, Try.ntmps23
  go_wp2_with (fail)
  refine (OR.out _ HF.out).mono ?_
  rintro en w1 ⟨v, rfl, o1, B1⟩
  obtain ⟨a, cp, rfl, s1⟩ := o1.rd
  have HB := Lib.hid B1
  rw [HN.out] at s1 ⊢
  have S1 := Lib.hid s1
  clear o1 B1 s1 c
  go_wp2_with (fail)
  go_loopw [23, 4] (fun vi vs wr => ∃ k : Nat, k ≤ n ∧ vi = .int .i64 k ∧ vs = .int .i64 (sqN m k) ∧ Below w1.heap.size w1 wr) (fun vi _ _ => n - (intOf vi).toNat)
  case atStart => exact ⟨0, by omega, rfl, rfl, Below.refl _ _⟩
  case round =>
    rename World => wr
    obtain ⟨k, hk, rfl, rfl, hB⟩ := hrel
    have HBr := Lib.hid hB
    have S2 := Lib.hid (S1.out.later hB)
    clear hB
    by_cases hlt : k < n
    · obtain ⟨b, o, rfl, lb, x0, x1, x2, x3⟩ := S2.out.elem (i := k) hlt
      obtain ⟨b', o', e', _, y0, y1, y2, y3⟩ := S2.out.elem (i := 0) n0
      obtain ⟨rfl, rfl⟩ : b = b' ∧ o = o' := by injection e' with e'; injection e' with e1 e2; exact ⟨e1, e2⟩
      rw [Nat.zero_mul, Nat.add_zero] at y0 y1 y2 y3
      have bx := BD.out k hlt; have by0 := BD.out 0 n0
      have NS := Lib.hid (show sqN m (k + 1) = sqN m k + dq (nth m k) (nth m 0) * dq (nth m k) (nth m 0) from rfl)
      have q0 := sqN_nn m k
      have q1 : sqN m k ≤ 6917529027641081856 := by
        rcases k with _ | k
        · simp [sqN]
        · have := sqN_top m k; omega
      have dd := dq_bd (nth m k) (nth m 0)
      have d2 := sq_bd dd.1 dd.2
      have hD : min (Fx.iabs ((nth m k).o - (nth m 0).o)) 1073741824 = dq (nth m k) (nth m 0) := rfl
      change wr.cell? _ = some (.int .i64 (nth m k).o) at x0
      change wr.cell? _ = some (.int .i64 (nth m k).d) at x1
      change wr.cell? _ = some (.int .i64 (nth m k).p) at x2
      change wr.cell? _ = some (.int .i64 (nth m k).t) at x3
      change wr.cell? _ = some (.int .i64 (nth m 0).o) at y0
      change wr.cell? _ = some (.int .i64 (nth m 0).d) at y1
      change wr.cell? _ = some (.int .i64 (nth m 0).p) at y2
      change wr.cell? _ = some (.int .i64 (nth m 0).t) at y3
      obtain ⟨D, eD⟩ : ∃ D, dq (nth m k) (nth m 0) = D := ⟨_, rfl⟩
      rw [eD] at hD NS dd d2
      obtain ⟨Q, eQ⟩ : ∃ Q, sqN m k = Q := ⟨_, rfl⟩
      rw [eQ] at NS q0 q1
      rw [eQ]
      obtain ⟨P, eP⟩ : ∃ P, D * D = P := ⟨_, rfl⟩
      rw [eP] at NS d2
      obtain ⟨x, ex⟩ : ∃ x, nth m k = x := ⟨_, rfl⟩
      obtain ⟨y, ey⟩ : ∃ x, nth m 0 = x := ⟨_, rfl⟩
      rw [ex] at x0 x1 x2 x3 bx hD
      rw [ey] at y0 y1 y2 y3 by0 hD
      obtain ⟨xo, xd, xp, xt⟩ := x
      obtain ⟨yo, yd, yp, yt⟩ := y
      simp only at x0 x1 x2 x3 y0 y1 y2 y3 bx by0 hD
      have bx1 := bx.1; have bx2 := bx.2.1; have by1 := by0.1; have by2 := by0.2.1
      obtain ⟨r, er⟩ : ∃ r, Fx.iabs (xo - yo) = r := ⟨_, rfl⟩
      have HR := Lib.hid er
      rw [er] at hD
      have p0 := d2.1; have p1 : P ≤ 1152921504606846976 := by (have := d2.2; omega)
      have d20 := dd.1; have d21 := dd.2
      have k8 : (k : Int) ≤ 8 := by omega
      clear e' eD eQ ex ey er bx by0 dd d2 md
      go_wp2_with (fail)
      obtain ⟨wq, hwq⟩ : ∃ wq, wr.alloc (.cells #[.int .i64 xo, .int .i64 xd, .int .i64 xp, .int .i64 xt] 29) = wq := ⟨_, rfl⟩
      have blk : wq.heap[wr.heap.size]? = some (.cells #[.int .i64 xo, .int .i64 xd, .int .i64 xp, .int .i64 xt] 29 (0, 0)) := by rw [← hwq]; exact Hp.blk_new wr _
      have z0 : wq.cell? ⟨wr.heap.size, 0, none⟩ = some (.int .i64 xo) := Hp.blk_cell blk rfl
      have z1 : wq.cell? ⟨wr.heap.size, 1, none⟩ = some (.int .i64 xd) := Hp.blk_cell blk rfl
      have z2 : wq.cell? ⟨wr.heap.size, 2, none⟩ = some (.int .i64 xp) := Hp.blk_cell blk rfl
      have z3 : wq.cell? ⟨wr.heap.size, 3, none⟩ = some (.int .i64 xt) := Hp.blk_cell blk rfl
      have lz := Hp.blk_lt blk
      have lq : b < wq.heap.size := by omega
      have tr : ∀ p, p.block = b → wr.cell? p = wq.cell? p := fun p hp => by rw [← hwq, World.cell?_alloc_lt wr _ _ (by rw [hp]; exact lb)]
      rw [tr _ rfl] at y0 y1 y2 y3
      have HWq : Hid (Below w1.heap.size w1 wq) := Lib.hid (by rw [← hwq]; exact HBr.out.alloc HBr.out.size _)
      rw [hwq]
      obtain ⟨gy, hgy⟩ : ∃ gy, wr.heap.size = gy := ⟨_, rfl⟩
      rw [hgy] at z0 z1 z2 z3 lz
      rw [hgy]
      clear blk tr hwq hgy x0 x1 x2 x3 lb
      refine Qb.region (by kernel_rfl) (by kernel_rfl) ?_
      have k0 := Qb.cell z0 lz; have k1 := Qb.cell z1 lz; have k2 := Qb.cell z2 lz; have k3 := Qb.cell z3 lz
      have m0 := Qb.cell y0 lq; have m1 := Qb.cell y1 lq; have m2 := Qb.cell y2 lq; have m3 := Qb.cell y3 lq
      repeat (go_big_quiet_step (first | (go_at_call 35; exact distance_callq bx1 bx2 by1 by2 HR)))
      refine wpQuiet_nil ?_
      rintro _ ⟨⟨w9, hb9⟩, rfl⟩
      have HB9 := Lib.hid (bl_next HWq.out hb9)
      clear hb9 k0 k1 k2 k3 m0 m1 m2 m3 y0 y1 y2 y3 z0 z1 z2 z3
      go_wp2_with (fail)
      go_roundw
      case rel => exact ⟨k + 1, by omega, by go_num, by rw [NS.out], HB9.out⟩
      case measure => (simp [intOf] <;> omega)
    · obtain rfl : n = k := by omega
      have q0 := sqN_nn m n
      have F2 := E
      obtain ⟨Q, eQ⟩ : ∃ Q, sqN m n = Q := ⟨_, rfl⟩
      rw [eQ] at F2 q0 md
      rw [eQ]
      have m0 := md.1; have m1 := md.2
      have tq : Q.tdiv ((n : Int) - 1) = Q / ((n : Int) - 1) := Int.tdiv_eq_ediv_of_nonneg q0
      obtain ⟨M, eM⟩ : ∃ M, Q / ((n : Int) - 1) = M := ⟨_, rfl⟩
      rw [eM] at F2 m0 m1 tq
      have SQ := Lib.hid (fun w => sqrt_int M (by omega) (by omega) w)
      rw [← F2.out] at SQ
      have q2 : Q ≤ 9223372036854775807 := by
        obtain ⟨k, rfl⟩ : ∃ k, n = k + 1 := ⟨n - 1, by omega⟩
        have := sqN_top m k; omega
      clear eQ eM md
      go_wp2_with (fail)
      refine (SQ.out _).mono ?_
      rintro en w2 ⟨rfl, rfl⟩
      go_wp2_with (fail)
      go_ret
      exact ⟨rfl, bl_next HB.out HBr.out⟩
theorem jitter_any {g : Nat} {tol : Int} {l : List Sm} {any : Bool} {fr : Int} (V : Val l) (w : World) (F : Fi w g tol l any fr) :
    Calls Try.prog 23 #[.pointer (some ⟨g, 0, none⟩)] w fun e w' => e = .returned (.int .i64 (jit l)) ∧ Below w.heap.size w w' := by
  by_cases h : l.length < 2
  · exact jitter_small h w F
  · exact jitter_ok V (by omega) w F
/-- the stages in their order, with the first one laid open -/
def Ord1 (w : World) (n : Nat) (yo yd yp yt : Int) (e : Ending) (w' : World) : Prop := ∃ g c, e = .returned (.slice (some ⟨g, 0, none⟩) n c) ∧ w.heap.size ≤ g ∧ g < w'.heap.size ∧ w'.cell? ⟨g, 0, none⟩ = some (.int .i64 yo) ∧ w'.cell? ⟨g, 1, none⟩ = some (.int .i64 yd) ∧ w'.cell? ⟨g, 2, none⟩ = some (.int .i64 yp) ∧ w'.cell? ⟨g, 3, none⟩ = some (.int .i64 yt) ∧ Below w.heap.size w w'
theorem ordered_first {g : Nat} {tol : Int} {l : List Sm} {any : Bool} {fr : Int} {n : Nat} {yo yd yp yt : Int} (V : Val l) (hn : l.length = n) (h0 : 0 < n) (hy : first l = ⟨yo, yd, yp, yt⟩) (w : World) (F : Fi w g tol l any fr) :
    Calls Try.prog 31 #[.pointer (some ⟨g, 0, none⟩)] w (Ord1 w n yo yd yp yt) := by
  refine (ordered_any V w F).mono ?_
  rintro e w' ⟨v, he, o, B⟩
  rcases o with ⟨h, _⟩ | ⟨_, b, c, hv, hb, oz, _⟩
  · have := ord_len l; rw [h] at this; simp at this; omega
  · have f := fun j hj => (oz.c 0 j (by rw [ord_len]; omega) hj).1
    have e0 := f 0 (by omega); have e1 := f 1 (by omega); have e2 := f 2 (by omega); have e3 := f 3 (by omega)
    unfold first at hy
    unfold zof at e0 e1 e2 e3
    rw [hy] at e0 e1 e2 e3
    exact ⟨b, c, by rw [he, hv, ord_len, hn], hb, oz.lt, e0, e1, e2, e3, B⟩
set_option maxHeartbeats 1000000 in
theorem spike_small {g : Nat} {tol : Int} {l : List Sm} {any : Bool} {fr : Int} (h : l.length < 2) (xo xd xp xt : Int) (w : World) (F : Fi w g tol l any fr) :
    Calls Try.prog 19 #[.pointer (some ⟨g, 0, none⟩), .agg #[.int .i64 xo, .int .i64 xd, .int .i64 xp, .int .i64 xt]] w fun e w' => e = .returned (.bool (spk l ⟨xo, xd, xp, xt⟩)) ∧ Below w.heap.size w w' := by
  have c := F.c33
  have E : Hid (spk l ⟨xo, xd, xp, xt⟩ = false) := Lib.hid (by unfold spk; rw [decide_eq_false (show ¬ 2 ≤ l.length by omega)]; simp)
  have lt := F.lt
  rw [E.out]
  obtain ⟨n, hn⟩ : ∃ n, l.length = n := ⟨_, rfl⟩
  rw [hn] at c h
  have h' : (n : Int) < 2 := by omega
  clear hn F h
  go_enter Try.func19, Try.ntmps19
  go_wp2_with (fail)
  go_ret
  exact ⟨rfl, by (repeat (first | exact Below.refl _ _ | refine Below.drew ?_ | refine Hp.drewN ?_ _ | refine Below.setCell ?_ (by first | (simp; done) | (simp; omega) | omega) _ | refine Below.alloc ?_ (by first | (simp; done) | (simp; omega) | omega) _ | (refine Hp.step ?_ (by assumption))))⟩
set_option maxHeartbeats 4000000 in
theorem spike_bad {g : Nat} {tol : Int} {l : List Sm} {any : Bool} {fr : Int} (h : 2 ≤ l.length) (xo xd xp xt : Int) (hx : Sx.okS xo xd xp xt = false) (w : World) (F : Fi w g tol l any fr) :
    Calls Try.prog 19 #[.pointer (some ⟨g, 0, none⟩), .agg #[.int .i64 xo, .int .i64 xd, .int .i64 xp, .int .i64 xt]] w fun e w' => e = .returned (.bool (spk l ⟨xo, xd, xp, xt⟩)) ∧ Below w.heap.size w w' := by
  have c := F.c33
  have E : Hid (spk l ⟨xo, xd, xp, xt⟩ = false) := Lib.hid (by unfold spk; rw [show okb ⟨xo, xd, xp, xt⟩ = false from hx]; simp)
  have lt := F.lt
  have CK := Lib.hid (fun W => scheck_no xo xd xp xt hx W)
  rw [E.out]
  obtain ⟨n, hn⟩ : ∃ n, l.length = n := ⟨_, rfl⟩
  rw [hn] at c h
  have h' : ¬ (n : Int) < 2 := by omega
  clear hn F h hx
  go_enter Try.func19, Try.ntmps19
  go_wp2_with (go_at_call 28; (with_reducible refine (CK.out _).mono ?_); rintro e w2 ⟨rfl, hb2⟩; have HB2 := Lib.hid hb2; clear hb2)
  go_ret
  exact ⟨rfl, Below.trans (by (repeat (first | exact Below.refl _ _ | refine Below.drew ?_ | refine Hp.drewN ?_ _ | refine Below.setCell ?_ (by first | (simp; done) | (simp; omega) | omega) _ | refine Below.alloc ?_ (by first | (simp; done) | (simp; omega) | omega) _ | (refine Hp.step ?_ (by assumption))))) (HB2.out.mono (by simp))⟩
set_option maxHeartbeats 8000000 in
theorem spike_ok {g : Nat} {tol : Int} {l : List Sm} {any : Bool} {fr : Int} (V : Val l) (h : 2 ≤ l.length) (xo xd xp xt : Int) (hx : Sx.okS xo xd xp xt = true) (w : World) (F : Fi w g tol l any fr) :
    Calls Try.prog 19 #[.pointer (some ⟨g, 0, none⟩), .agg #[.int .i64 xo, .int .i64 xd, .int .i64 xp, .int .i64 xt]] w fun e w' => e = .returned (.bool (spk l ⟨xo, xd, xp, xt⟩)) ∧ Below w.heap.size w w' := by
  have c := F.c33
  have lt := F.lt
  have HF := Lib.hid F
  have CK := Lib.hid (fun W => scheck_ok xo xd xp xt hx W)
  have bx := Sx.okS_iff.1 hx
  have by0 := V.bd (first_mem (l := l) (by omega))
  have jb := jit_bd l
  have E0 : spk l ⟨xo, xd, xp, xt⟩ = decide (3 * max (jit l) 1 < Fx.iabs (xo - (first l).o)) := by
    unfold spk; rw [show okb ⟨xo, xd, xp, xt⟩ = true from hx, decide_eq_true h]; simp
  obtain ⟨y, hy⟩ : ∃ y, first l = y := ⟨_, rfl⟩
  obtain ⟨yo, yd, yp, yt⟩ := y
  have rb : Fx.iabs (xo - yo) ≤ 9007199254740992 := by rw [hy] at by0; simp only at by0; unfold Fx.iabs; split <;> omega
  rw [hy] at by0 E0
  simp only at by0 E0
  have OR := Lib.hid (fun W (F : Fi W g tol l any fr) => ordered_first V rfl (show 0 < l.length by omega) hy W F)
  have JI := Lib.hid (fun W (F : Fi W g tol l any fr) => jitter_any V W F)
  have DI := Lib.hid (fun W => distance_any ⟨xo, xd, xp, xt⟩ ⟨yo, yd, yp, yt⟩ bx.1 bx.2.1 by0.1 by0.2.1 W)
  obtain ⟨J, eJ⟩ : ∃ J, jit l = J := ⟨_, rfl⟩
  rw [eJ] at jb E0 JI
  obtain ⟨r, er⟩ : ∃ r, Fx.iabs (xo - yo) = r := ⟨_, rfl⟩
  simp only at DI
  rw [er] at rb E0 DI
  have E := Lib.hid E0
  have j0 := jb.1; have j1 := jb.2
  have m1 : 1 ≤ max J 1 := by omega
  have m2 : max J 1 ≤ 1073741824 := by omega
  obtain ⟨n, hn⟩ : ∃ n, l.length = n := ⟨_, rfl⟩
  rw [hn] at c h OR
  have h' : ¬ (n : Int) < 2 := by omega
  have n0 : 0 < n := by omega
  rw [E.out]
  clear hn F hx V bx by0 jb hy eJ er E0 h
  go_enter Try.func19, Try.ntmps19
  go_wp2_with (go_at_call 28; (with_reducible refine (CK.out _).mono ?_); rintro e w2 ⟨rfl, hb2⟩; have HB2 := Lib.hid hb2; clear hb2)
  have B0 : Hid (Below w.heap.size w (w.alloc (.cells #[.int .i64 xo, .int .i64 xd, .int .i64 xp, .int .i64 xt] 29))) := Lib.hid (by (repeat (first | exact Below.refl _ _ | refine Below.drew ?_ | refine Hp.drewN ?_ _ | refine Below.setCell ?_ (by first | (simp; done) | (simp; omega) | omega) _ | refine Below.alloc ?_ (by first | (simp; done) | (simp; omega) | omega) _ | (refine Hp.step ?_ (by assumption)))))
  have B2 := Lib.hid (B0.out.trans (HB2.out.mono (by simp)))
  have blk : w2.heap[w.heap.size]? = some (.cells #[.int .i64 xo, .int .i64 xd, .int .i64 xp, .int .i64 xt] 29 (0, 0)) := by rw [HB2.out.block _ (by simp)]; exact Hp.blk_new w _
  have z0 : w2.cell? ⟨w.heap.size, 0, none⟩ = some (.int .i64 xo) := Hp.blk_cell blk rfl
  have z1 : w2.cell? ⟨w.heap.size, 1, none⟩ = some (.int .i64 xd) := Hp.blk_cell blk rfl
  have z2 : w2.cell? ⟨w.heap.size, 2, none⟩ = some (.int .i64 xp) := Hp.blk_cell blk rfl
  have z3 : w2.cell? ⟨w.heap.size, 3, none⟩ = some (.int .i64 xt) := Hp.blk_cell blk rfl
  have lz := Lib.hid (Hp.blk_lt blk)
  have F2 := Lib.hid (HF.out.later B2.out)
  have D2 : Hid (Below w2.heap.size w2 w2.drew) := Lib.hid (by (repeat (first | exact Below.refl _ _ | refine Below.drew ?_ | refine Hp.drewN ?_ _ | refine Below.setCell ?_ (by first | (simp; done) | (simp; omega) | omega) _ | refine Below.alloc ?_ (by first | (simp; done) | (simp; omega) | omega) _ | (refine Hp.step ?_ (by assumption)))))
  have FD := Lib.hid (F2.out.later D2.out)
  obtain ⟨gy, hgy⟩ : ∃ gy, w.heap.size = gy := ⟨_, rfl⟩
  rw [hgy] at z0 z1 z2 z3 lz
  rw [hgy]
  have Z := Lib.hid (And.intro z0 (And.intro z1 (And.intro z2 z3)))
  have KC := Lib.hid (fun (W W' : World) (z : W.cell? ⟨gy, 0, none⟩ = some (.int .i64 xo) ∧ W.cell? ⟨gy, 1, none⟩ = some (.int .i64 xd) ∧ W.cell? ⟨gy, 2, none⟩ = some (.int .i64 xp) ∧ W.cell? ⟨gy, 3, none⟩ = some (.int .i64 xt)) (lt : gy < W.heap.size) (k : Below W.heap.size W W') =>
    show W'.cell? ⟨gy, 0, none⟩ = some (.int .i64 xo) ∧ W'.cell? ⟨gy, 1, none⟩ = some (.int .i64 xd) ∧ W'.cell? ⟨gy, 2, none⟩ = some (.int .i64 xp) ∧ W'.cell? ⟨gy, 3, none⟩ = some (.int .i64 xt) from
      ⟨(k.cell (p := ⟨gy, 0, none⟩) lt).trans z.1, (k.cell (p := ⟨gy, 1, none⟩) lt).trans z.2.1, (k.cell (p := ⟨gy, 2, none⟩) lt).trans z.2.2.1, (k.cell (p := ⟨gy, 3, none⟩) lt).trans z.2.2.2⟩)
  have ZD : Hid (w2.drew.cell? ⟨gy, 0, none⟩ = some (.int .i64 xo) ∧ w2.drew.cell? ⟨gy, 1, none⟩ = some (.int .i64 xd) ∧ w2.drew.cell? ⟨gy, 2, none⟩ = some (.int .i64 xp) ∧ w2.drew.cell? ⟨gy, 3, none⟩ = some (.int .i64 xt)) := Lib.hid (KC.out _ _ Z.out lz.out D2.out)
  clear blk hgy
  have mw : IntKind.i64.wrap (3 * max J 1) = 3 * max J 1 := IntWalk.i64_in _ (by omega)
  obtain ⟨d0, d1, d2, d3⟩ := ZD.out
  go_region_with
    (first
      | (go_at_call 31; refine (OR.out _ FD.out).mono ?_; rintro e w3 ⟨b3, c3, rfl, -, lb, y0, y1, y2, y3, B3⟩; have HB3 := Lib.hid (D2.out.trans B3); have F3 := Lib.hid (FD.out.later B3); have Z3 := Lib.hid (KC.out _ _ ZD.out lz.out B3); have L3 := Lib.hid (Nat.lt_of_lt_of_le lz.out B3.size); obtain ⟨k0, k1, k2, k3⟩ := Z3.out; clear B3)
      | (go_at_call 35; refine (DI.out _).mono ?_; rintro e w4 ⟨rfl, B4⟩; have HB4 := Lib.hid (HB3.out.trans (B4.mono HB3.out.size)); have F4 := Lib.hid (F3.out.later B4); have Z4 := Lib.hid (KC.out _ _ Z3.out L3.out B4); have L4 := Lib.hid (Nat.lt_of_lt_of_le L3.out B4.size); obtain ⟨k0, k1, k2, k3⟩ := Z4.out; clear B4)
      | (go_at_call 23; refine (JI.out _ F4.out).mono ?_; rintro e w5 ⟨rfl, B5⟩; have HB5 := Lib.hid (HB4.out.trans (B5.mono HB4.out.size)); have Z5 := Lib.hid (KC.out _ _ Z4.out L4.out B5); obtain ⟨k0, k1, k2, k3⟩ := Z5.out; clear B5))
  all_goals
    go_wp2_with (fail)
    go_ret
    exact ⟨rfl, B2.out.trans (HB5.out.mono B2.out.size)⟩
end Go.Proofs.Ytdaedhgbkamjpaa.JxW
