/- The law FilterRuns of layer 22. -/
import Derived.Test.YtdaedhgbkamjpaaNh
import Derived.Test.YtdaedhgbkamjpaaJy
import Derived.LoopTactic
set_option linter.unusedVariables false
set_option linter.unusedSimpArgs false
namespace Go.Proofs.Ytdaedhgbkamjpaa.JxW
open Go.RowKit FxW
open Go.Proofs.Ytdaedhgbkamjpaa.Jx
/-- the cells of a list of calls -/
def Os (w : World) (a : Option Addr) (n : Nat) (z : Nat → Nat → Int) : Prop := ∀ i, i < n → ∃ b o, a = some ⟨b, o, none⟩ ∧ b < w.heap.size ∧ w.cell? ⟨b, o + i * 6, none⟩ = some (.int .i64 (z i 0)) ∧ w.cell? ⟨b, o + i * 6 + 1, none⟩ = some (.int .i64 (z i 1)) ∧ w.cell? ⟨b, o + i * 6 + 2, none⟩ = some (.int .i64 (z i 2)) ∧ w.cell? ⟨b, o + i * 6 + 3, none⟩ = some (.int .i64 (z i 3)) ∧ w.cell? ⟨b, o + i * 6 + 4, none⟩ = some (.int .i64 (z i 4)) ∧ w.cell? ⟨b, o + i * 6 + 5, none⟩ = some (.int .i64 (z i 5))
theorem Os.of {w : World} {a : Option Addr} {n c : Nat} {z : Nat → Nat → Int} (h : In.IsStructs [.i64, .i64, .i64, .i64, .i64, .i64] w a n c z) : Os w a n z := fun i hi => by
  obtain ⟨b, o, ha, hb, hc⟩ := h.elem (by simp) i hi
  exact ⟨b, o, ha, hb, (hc 0 .i64 rfl).1, (hc 1 .i64 rfl).1, (hc 2 .i64 rfl).1, (hc 3 .i64 rfl).1, (hc 4 .i64 rfl).1, (hc 5 .i64 rfl).1⟩
theorem Os.later {w w' : World} {a : Option Addr} {n : Nat} {z : Nat → Nat → Int} (h : Os w a n z) (k : Below w.heap.size w w') : Os w' a n z := fun i hi => by
  obtain ⟨b, o, ha, hb, c0, c1, c2, c3, c4, c5⟩ := h i hi
  exact ⟨b, o, ha, Nat.lt_of_lt_of_le hb k.size, (k.cell hb).trans c0, (k.cell hb).trans c1, (k.cell hb).trans c2, (k.cell hb).trans c3, (k.cell hb).trans c4, (k.cell hb).trans c5⟩
theorem raddf_at {base g : Nat} {tol : Int} {l m : List Sm} {any : Bool} {fr r : Int} (V : Val l) {xo xd xp xt : Int} (h : addE l ⟨xo, xd, xp, xt⟩ = r) (h2 : addL l ⟨xo, xd, xp, xt⟩ = m) (w : World) (hb : base ≤ w.heap.size) (F : Ri w base g tol l any fr) :
    Calls Try.prog 15 #[.pointer (some ⟨g, 0, none⟩), .agg #[.int .i64 xo, .int .i64 xd, .int .i64 xp, .int .i64 xt]] w fun e w' => e = .returned (.int .i64 r) ∧ AddedR w w' base g tol m any fr := by
  rw [← h, ← h2]; exact radd_any V xo xd xp xt w hb F
theorem rbest_at {base g : Nat} {tol : Int} {l : List Sm} {any b a2 : Bool} {fr f2 now bo bd bp bt be : Int} (V : Val l) (h : bestR l now tol = ⟨bo, bd, bp, bt, be⟩) (h1 : freshB l any fr now tol = b) (h2 : anyN l any fr now tol = a2) (h3 : frN l any fr now tol = f2) (w : World) (F : Ri w base g tol l any fr) :
    Calls Try.prog 17 #[.pointer (some ⟨g, 0, none⟩), .int .i64 now] w fun e w' => e = .returned (.tuple #[.agg #[.int .i64 bo, .int .i64 bd, .int .i64 bp, .int .i64 bt], .bool b, .int .i64 be]) ∧ AddedR w w' base g tol l a2 f2 := by
  refine (rbest_any V now w F).mono ?_
  rintro e w' ⟨hr, hf, hb⟩
  rw [h, h1] at hr
  rw [h2, h3] at hf
  exact ⟨hr, hf, hb⟩
theorem rjitter_at {base g : Nat} {tol : Int} {l : List Sm} {any : Bool} {fr r : Int} (V : Val l) (h : jit l = r) (w : World) (F : Ri w base g tol l any fr) :
    Calls Try.prog 24 #[.pointer (some ⟨g, 0, none⟩)] w fun e w' => e = .returned (.int .i64 r) ∧ Below w.heap.size w w' := by
  rw [← h]; exact rjitter_any V w F
theorem disp_callq {w : World} {y : Qb.Later w} {g : Nat} {tol : Int} {l : List Sm} {any : Bool} {fr r now : Int} (V : Val l) (h : Hid (dispV l now tol = r)) (F : Fi w g tol l any fr) :
    Calls Try.prog 11 #[.pointer (some ⟨g, 0, none⟩), .int .i64 now] y.1 fun e w'' => e = .returned (.int .i64 r) ∧ ∃ y' : Qb.Later w, w'' = y'.1 := by
  rw [← h.out]; exact Qb.call (disp_any V now _ (F.later y.2))
theorem rdisp_callq {w : World} {y : Qb.Later w} {base g : Nat} {tol : Int} {l : List Sm} {any : Bool} {fr r now : Int} (V : Val l) (h : Hid (dispV l now tol = r)) (F : Ri w base g tol l any fr) :
    Calls Try.prog 18 #[.pointer (some ⟨g, 0, none⟩), .int .i64 now] y.1 fun e w'' => e = .returned (.int .i64 r) ∧ ∃ y' : Qb.Later w, w'' = y'.1 := by
  rw [← h.out]; exact Qb.call (rdisp_any V now _ (F.later y.2))
theorem spike_callq {w : World} {y : Qb.Later w} {g : Nat} {tol : Int} {l : List Sm} {any r : Bool} {fr xo xd xp xt : Int} (V : Val l) (h : Hid (spk l ⟨xo, xd, xp, xt⟩ = r)) (F : Fi w g tol l any fr) :
    Calls Try.prog 19 #[.pointer (some ⟨g, 0, none⟩), .agg #[.int .i64 xo, .int .i64 xd, .int .i64 xp, .int .i64 xt]] y.1 fun e w'' => e = .returned (.bool r) ∧ ∃ y' : Qb.Later w, w'' = y'.1 := by
  rw [← h.out]; exact Qb.call (spike_any V xo xd xp xt _ (F.later y.2))
theorem rspike_callq {w : World} {y : Qb.Later w} {base g : Nat} {tol : Int} {l : List Sm} {any r : Bool} {fr xo xd xp xt : Int} (V : Val l) (h : Hid (spk l ⟨xo, xd, xp, xt⟩ = r)) (F : Ri w base g tol l any fr) :
    Calls Try.prog 20 #[.pointer (some ⟨g, 0, none⟩), .agg #[.int .i64 xo, .int .i64 xd, .int .i64 xp, .int .i64 xt]] y.1 fun e w'' => e = .returned (.bool r) ∧ ∃ y' : Qb.Later w, w'' = y'.1 := by
  rw [← h.out]; exact Qb.call (rspike_any V xo xd xp xt _ (F.later y.2))
theorem cell_but2' {w w' : World} {g : Nat} {p : Addr} {v : Value} (h : w.cell? p = some v) (k : But g w w') (lt : p.block < w.heap.size) (ne : p.block ≠ g) : w'.cell? p = some v := by
  rw [← h]; simp [World.cell?, k.block _ lt ne]
set_option maxHeartbeats 4000000 in
theorem lruns_tol (tol : Int) (n : Nat) (a : Option Addr) (c : Nat) (h : tol < 0 ∨ (0 ≤ tol ∧ 500000 < tol)) (w : World) :
    Calls Try.prog 4 #[.int .i64 tol, .slice a n c] w fun e w' => e = .returned (.bool true) ∧ Below w.heap.size w w' := by
  go_enter Try.func4, Try.ntmps4
  go_wp2_with (fail)
  refine (new_no tol h _).mono ?_
  rintro en w1 ⟨rfl, rfl⟩
  go_wp2_with (fail)
  refine (rnew_no tol h _).mono ?_
  rintro en w1 ⟨rfl, rfl⟩
  have HB1 := Lib.hid (Below.refl w.heap.size w)
  go_wp2_with (fail)
  refine (awake22_any _).mono ?_
  rintro en wz ⟨rfl, Bz⟩
  have HBz := Lib.hid (HB1.out.trans (Bz.mono HB1.out.size))
  clear Bz
  go_wp2_with (fail)
  go_ret
  exact ⟨rfl, HBz.out⟩
set_option maxHeartbeats 4000000 in
theorem lruns_long (tol : Int) (n : Nat) (a : Option Addr) (c : Nat) (h0 : 0 ≤ tol) (h1 : tol ≤ 500000) (h : 60 < n) (w : World) :
    Calls Try.prog 4 #[.int .i64 tol, .slice a n c] w fun e w' => e = .returned (.bool true) ∧ Below w.heap.size w w' := by
  have h' : (60 : Int) < (n : Int) := by omega
  clear h
  go_enter Try.func4, Try.ntmps4
  go_wp2_with (fail)
  refine (new_ok tol h0 h1 _).mono ?_
  rintro en w1 ⟨ga, hga, rfl, f1, B1⟩
  have HB1 := Lib.hid B1
  clear hga f1 B1
  go_wp2_with (fail)
  refine (rnew_ok tol h0 h1 _).mono ?_
  rintro en w2 ⟨gb, hgb, -, rfl, f2, B2⟩
  have HB2 := Lib.hid (HB1.out.trans (B2.mono HB1.out.size))
  clear hgb f2 B2
  go_wp2_with (fail)
  refine (awake22_any _).mono ?_
  rintro en wz ⟨rfl, Bz⟩
  have HBz := Lib.hid (HB2.out.trans (Bz.mono HB2.out.size))
  clear Bz
  go_wp2_with (fail)
  go_ret
  exact ⟨rfl, HBz.out⟩
set_option maxHeartbeats 32000000 in
set_option maxRecDepth 4000 in
theorem lruns_main (tol : Int) (n : Nat) (a : Option Addr) (c : Nat) (z : Nat → Nat → Int) (h0 : 0 ≤ tol) (h1 : tol ≤ 500000) (h : n ≤ 60) (w : World) (S : Os w a n z) :
    Calls Try.prog 4 #[.int .i64 tol, .slice a n c] w fun e w' => e = .returned (.bool true) ∧ Below w.heap.size w w' := by
  have h' : ¬ (60 : Int) < (n : Int) := by omega
  have hS := Lib.hid S
  clear S h
  go_enter Try.func4, Try.ntmps4
  go_wp2_with (fail)
  refine (new_ok tol h0 h1 _).mono ?_
  rintro en w1 ⟨ga, hga, rfl, f1, B1⟩
  have HG := Lib.hid hga; have F1 := Lib.hid f1; have HB1 := Lib.hid B1
  clear hga f1 B1
  go_wp2_with (fail)
  refine (rnew_ok tol h0 h1 _).mono ?_
  rintro en w2 ⟨gb, hgb, hgb2, rfl, f2, B2⟩
  have HGB := Lib.hid (show w.heap.size ≤ gb ∧ ga ≠ gb ∧ ga < w2.heap.size from ⟨Nat.le_trans HB1.out.size hgb, by have := F1.out.lt; omega, Nat.lt_of_lt_of_le F1.out.lt B2.size⟩)
  have R2 := Lib.hid f2; have F2 := Lib.hid (F1.out.later B2); have HB2 := Lib.hid (HB1.out.trans (B2.mono HB1.out.size))
  clear hgb hgb2 f2 B2
  obtain ⟨base, hbase⟩ : ∃ base, w2.heap.size = base := ⟨_, rfl⟩
  rw [hbase] at R2 HGB
  have BZ2 := Lib.hid (Nat.le_of_eq hbase.symm)
  clear hbase
  go_wp2_with (fail)
  go_loopw [7] (fun vi wr => ∃ (i : Nat) (l : List Sm) (any : Bool) (fr : Int), i ≤ n ∧ vi = .int .i64 i ∧ Val l ∧ Fi wr ga tol l any fr ∧ Ri wr base gb tol l any fr ∧ base ≤ wr.heap.size ∧ Below w.heap.size w wr) (fun vi _ => n - (intOf vi).toNat)
  case atStart => exact ⟨0, [], false, 0, by omega, rfl, Val.nil, F2.out, R2.out, BZ2.out, HB2.out⟩
  case round =>
    rename World => wr
    obtain ⟨i, l, any, fr, hi, rfl, vl, f, r, bz, hb⟩ := hrel
    have V := Lib.hid vl; have FR := Lib.hid f; have RR := Lib.hid r; have BZ := Lib.hid bz; have HR := Lib.hid hb
    by_cases hlt : i < n
    · have i60 : (i : Int) ≤ 60 := by omega
      obtain ⟨b, o, rfl, lb, x0, x1, x2, x3, x4, x5⟩ := (hS.out.later hb) i hlt
      obtain ⟨kd, hkd⟩ : ∃ x, z i 0 = x := ⟨_, rfl⟩
      obtain ⟨xo, hxo⟩ : ∃ x, z i 1 = x := ⟨_, rfl⟩
      obtain ⟨xd, hxd⟩ : ∃ x, z i 2 = x := ⟨_, rfl⟩
      obtain ⟨xp, hxp⟩ : ∃ x, z i 3 = x := ⟨_, rfl⟩
      obtain ⟨xt, hxt⟩ : ∃ x, z i 4 = x := ⟨_, rfl⟩
      obtain ⟨now, hnow⟩ : ∃ x, z i 5 = x := ⟨_, rfl⟩
      rw [hkd] at x0; rw [hxo] at x1; rw [hxd] at x2; rw [hxp] at x3; rw [hxt] at x4; rw [hnow] at x5
      clear vl f r bz hb hkd hxo hxd hxp hxt hnow
      have LB := Lib.hid lb
      clear lb
      have HGA := Lib.hid (Nat.lt_of_lt_of_le HGB.out.2.2 BZ.out)
      have LGB := Lib.hid RR.out.lt
      obtain ⟨wq, hwq⟩ : ∃ wq, wr.alloc (.cells #[.int .i64 kd, .int .i64 xo, .int .i64 xd, .int .i64 xp, .int .i64 xt, .int .i64 now] 35) = wq := ⟨_, rfl⟩
      have AQ : Hid (Below wr.heap.size wr wq) := Lib.hid (by rw [← hwq]; exact (Below.refl _ _).alloc (Nat.le_refl _) _)
      have BK : Hid (wq.heap[wr.heap.size]? = some (.cells #[.int .i64 kd, .int .i64 xo, .int .i64 xd, .int .i64 xp, .int .i64 xt, .int .i64 now] 35 (0, 0))) := Lib.hid (by rw [← hwq]; exact Hp.blk_new wr _)
      have FQ := Lib.hid (FR.out.later AQ.out); have RQ := Lib.hid (RR.out.later AQ.out); have HQ := Lib.hid (HR.out.trans (AQ.out.mono HR.out.size)); have BZQ := Lib.hid (Nat.le_trans BZ.out AQ.out.size)
      have NA : Hid (wr.heap.size ≠ ga) := Lib.hid (by have := HGA.out; omega)
      have NB : Hid (wr.heap.size ≠ gb) := Lib.hid (by have := LGB.out; omega)
      have HWQ := Lib.hid hwq
      clear hwq
      obtain ⟨gx, hgx⟩ : ∃ gx, wr.heap.size = gx := ⟨_, rfl⟩
      have HGX := Lib.hid hgx
      rw [hgx] at BK NA NB
      have LX := Lib.hid (Hp.blk_lt BK.out)
      have GW := Lib.hid (show w.heap.size ≤ ga from HG.out)
      have kc : kd = 0 ∨ kd = 1 ∨ kd = 2 ∨ (kd ≠ 0 ∧ kd ≠ 1 ∧ kd ≠ 2) := by omega
      have JUMP : Hid (∀ p v, wq.cell? p = some v → p.block = gx → ∀ g w', But g wq w' → gx ≠ g → w'.cell? p = some v) := Lib.hid (fun p v h hp g w' k ne => cell_but2' h k (by rw [hp]; exact LX.out) (by rw [hp]; exact ne))
      clear hgx
      rcases kc with rfl | rfl | rfl | ⟨k0, k1, k2⟩
      · go_wp2_with (fail)
        rw [HGX.out]
        rw [show wr.alloc (.cells #[.int .i64 0, .int .i64 xo, .int .i64 xd, .int .i64 xp, .int .i64 xt, .int .i64 now] 35) = wq from HWQ.out]
        clear x0 x1 x2 x3 x4 x5
        obtain ⟨r, hr⟩ : ∃ r, addE l ⟨xo, xd, xp, xt⟩ = r := ⟨_, rfl⟩
        obtain ⟨m, hm⟩ : ∃ m, addL l ⟨xo, xd, xp, xt⟩ = m := ⟨_, rfl⟩
        have AE := Lib.hid hr; have AL := Lib.hid hm
        have VE : Hid (Val m) := Lib.hid (by rw [← hm]; exact V.out.add _)
        have ee : Hid (∃ a2 f2, any = a2 ∧ fr = f2) := Lib.hid ⟨_, _, rfl, rfl⟩
        clear hr hm
        have DQ : Hid (Below wq.heap.size wq wq.drew) := Lib.hid (by (repeat (first | exact Below.refl _ _ | refine Below.drew ?_ | refine Hp.drewN ?_ _ | refine Below.setCell ?_ (by first | (simp; done) | (simp; omega) | omega) _ | refine Below.alloc ?_ (by first | (simp; done) | (simp; omega) | omega) _ | (refine Hp.step ?_ (by assumption)))))
        have FD := Lib.hid (FQ.out.later DQ.out); have RD := Lib.hid (RQ.out.later DQ.out)
        have z1 : wq.cell? ⟨gx, 1, none⟩ = some (.int .i64 xo) := Hp.blk_cell BK.out rfl
        have z2 : wq.cell? ⟨gx, 2, none⟩ = some (.int .i64 xd) := Hp.blk_cell BK.out rfl
        have z3 : wq.cell? ⟨gx, 3, none⟩ = some (.int .i64 xp) := Hp.blk_cell BK.out rfl
        have z4 : wq.cell? ⟨gx, 4, none⟩ = some (.int .i64 xt) := Hp.blk_cell BK.out rfl
        have KC := Lib.hid (fun g W (k : But g wq W) (ne : gx ≠ g) => show W.cell? ⟨gx, 1, none⟩ = some (.int .i64 xo) ∧ W.cell? ⟨gx, 2, none⟩ = some (.int .i64 xd) ∧ W.cell? ⟨gx, 3, none⟩ = some (.int .i64 xp) ∧ W.cell? ⟨gx, 4, none⟩ = some (.int .i64 xt) from ⟨JUMP.out _ _ z1 rfl g W k ne, JUMP.out _ _ z2 rfl g W k ne, JUMP.out _ _ z3 rfl g W k ne, JUMP.out _ _ z4 rfl g W k ne⟩)
        go_region_held3 (fun w' => w'.cell? ⟨gx, 1, none⟩ = some (.int .i64 xo) ∧ w'.cell? ⟨gx, 2, none⟩ = some (.int .i64 xd) ∧ w'.cell? ⟨gx, 3, none⟩ = some (.int .i64 xp) ∧ w'.cell? ⟨gx, 4, none⟩ = some (.int .i64 xt)) (go_keep)
          (first
            | (go_at_call 13; (with_reducible refine (addf_at V.out AE.out AL.out wq.drew FD.out).mono ?_); rintro e w3 ⟨rfl, ad⟩; have BU3 := Lib.hid ((But.drew (But.refl ga wq)).trans ad.but); have F3 := Lib.hid ad.fi; have R3 := Lib.hid (RD.out.but ad.but (Ne.symm HGB.out.2.1) HGB.out.2.2); have H3 := Lib.hid (BU3.out.toBelow GW.out HQ.out HQ.out.size); have Z3 := Lib.hid (Nat.le_trans BZQ.out BU3.out.size); obtain ⟨k1, k2, k3, k4⟩ := KC.out ga w3 BU3.out NA.out; have L3 := Lib.hid (Nat.lt_of_lt_of_le LX.out BU3.out.size); have K3 := Lib.hid (And.intro k1 (And.intro k2 (And.intro k3 k4))); clear ad)
            | (go_at_call 15; (with_reducible refine (raddf_at V.out AE.out AL.out w3 Z3.out R3.out).mono ?_); rintro e we ⟨rfl, ad⟩; have RE := Lib.hid ad.ri; have FE := Lib.hid (F3.out.but ad.but HGB.out.2.1); have HE := Lib.hid (ad.but.toBelow HGB.out.1 H3.out H3.out.size); have BZE := Lib.hid (Nat.le_trans Z3.out ad.but.size); have k1 := cell_but2' K3.out.1 ad.but L3.out NB.out; have k2 := cell_but2' K3.out.2.1 ad.but L3.out NB.out; have k3 := cell_but2' K3.out.2.2.1 ad.but L3.out NB.out; have k4 := cell_but2' K3.out.2.2.2 ad.but L3.out NB.out; clear ad)
            | (fail))
        clear z1 z2 z3 z4 k1 k2 k3 k4
        go_wp2_with (fail)
        refine (len_any _ FE.out).mono ?_
        rintro en wy ⟨rfl, rfl⟩
        go_wp2_with (fail)
        refine (rlen_any _ RE.out).mono ?_
        rintro en wy ⟨rfl, rfl⟩
        obtain ⟨J, hJ⟩ : ∃ J, jit m = J := ⟨_, rfl⟩
        have HJ := Lib.hid hJ
        clear hJ
        go_wp2_with (fail)
        refine (jitter_at VE.out HJ.out _ FE.out).mono ?_
        rintro en w5 ⟨rfl, B5⟩
        have F5 := Lib.hid (FE.out.later B5); have R5 := Lib.hid (RE.out.later B5); have H5 := Lib.hid (HE.out.trans (B5.mono HE.out.size)); have Z5 := Lib.hid (Nat.le_trans BZE.out B5.size)
        clear B5
        go_wp2_with (fail)
        refine (rjitter_at VE.out HJ.out _ R5.out).mono ?_
        rintro en w6 ⟨rfl, B6⟩
        have F6 := Lib.hid (F5.out.later B6); have R6 := Lib.hid (R5.out.later B6); have H6 := Lib.hid (H5.out.trans (B6.mono H5.out.size)); have Z6 := Lib.hid (Nat.le_trans Z5.out B6.size)
        clear B6
        go_wp2_with (fail)
        refine (samples_any VE.out _ F6.out).mono ?_
        rintro en w7 ⟨v7, rfl, o7, B7⟩
        obtain ⟨a7, c7, rfl, s7⟩ := o7.rd
        have S7 := Lib.hid s7
        have F7 := Lib.hid (F6.out.later B7); have R7 := Lib.hid (R6.out.later B7); have H7 := Lib.hid (H6.out.trans (B7.mono H6.out.size)); have Z7 := Lib.hid (Nat.le_trans Z6.out B7.size)
        clear o7 B7 s7
        go_wp2_with (fail)
        refine (rsamples_any VE.out.len _ R7.out).mono ?_
        rintro en w8 ⟨v8, rfl, o8, B8⟩
        obtain ⟨a8, c8, rfl, s8, _⟩ := o8.rd
        have S8 := Lib.hid s8; have T8 := Lib.hid (S7.out.later B8)
        have F8 := Lib.hid (F7.out.later B8); have R8 := Lib.hid (R7.out.later B8); have H8 := Lib.hid (H7.out.trans (B8.mono H7.out.size)); have Z8 := Lib.hid (Nat.le_trans Z7.out B8.size)
        clear o8 B8 s8
        go_wp2_with (fail)
        refine (same_smps m a7 a8 c7 c8 (Nat.le_trans VE.out.len (by decide)) _ T8.out S8.out).mono ?_
        rintro en w9 ⟨rfl, B9⟩
        have F9 := Lib.hid (F8.out.later B9); have R9 := Lib.hid (R8.out.later B9); have H9 := Lib.hid (H8.out.trans (B9.mono H8.out.size)); have Z9 := Lib.hid (Nat.le_trans Z8.out B9.size)
        clear B9
        go_wp2_with (fail)
        go_roundw
        case rel => exact ⟨i + 1, m, any, fr, by omega, by go_num, VE.out, F9.out, R9.out, Z9.out, H9.out⟩
        case measure => (simp [intOf] <;> omega)
      · go_wp2_with (fail)
        rw [HGX.out]
        rw [show wr.alloc (.cells #[.int .i64 1, .int .i64 xo, .int .i64 xd, .int .i64 xp, .int .i64 xt, .int .i64 now] 35) = wq from HWQ.out]
        clear x0 x1 x2 x3 x4 x5
        obtain ⟨G, hG⟩ : ∃ G, bestR l now tol = G := ⟨_, rfl⟩
        obtain ⟨bo, bd, bp, bt, be⟩ := G
        obtain ⟨fb, hfb⟩ : ∃ x, freshB l any fr now tol = x := ⟨_, rfl⟩
        obtain ⟨a2, ha2⟩ : ∃ x, anyN l any fr now tol = x := ⟨_, rfl⟩
        obtain ⟨f2, hf2⟩ : ∃ x, frN l any fr now tol = x := ⟨_, rfl⟩
        have GE := Lib.hid hG; have P1 := Lib.hid hfb; have P2 := Lib.hid ha2; have P3 := Lib.hid hf2
        clear hG hfb ha2 hf2
        have z5 : wq.cell? ⟨gx, 5, none⟩ = some (.int .i64 now) := Hp.blk_cell BK.out rfl
        have Z5 := Lib.hid z5
        go_wp2_with (fail)
        refine (best_at V.out GE.out P1.out P2.out P3.out _ FQ.out).mono ?_
        rintro en w3 ⟨rfl, ad⟩
        have F3 := Lib.hid ad.fi; have R3 := Lib.hid (RQ.out.but ad.but (Ne.symm HGB.out.2.1) HGB.out.2.2); have H3 := Lib.hid (ad.but.toBelow GW.out HQ.out HQ.out.size); have Z3 := Lib.hid (Nat.le_trans BZQ.out ad.but.size)
        have y5 : w3.cell? ⟨gx, 5, none⟩ = some (.int .i64 now) := JUMP.out _ _ Z5.out rfl ga w3 ad.but NA.out
        have l3 : gx < w3.heap.size := Nat.lt_of_lt_of_le LX.out ad.but.size
        have yL := World.new_ne w3 _ y5
        have A4 : Hid (Below w3.heap.size w3 (w3.alloc (.cells #[.int .i64 bo, .int .i64 bd, .int .i64 bp, .int .i64 bt] 29))) := Lib.hid ((Below.refl _ _).alloc (Nat.le_refl _) _)
        have B4 : Hid ((w3.alloc (.cells #[.int .i64 bo, .int .i64 bd, .int .i64 bp, .int .i64 bt] 29)).heap[w3.heap.size]? = some (.cells #[.int .i64 bo, .int .i64 bd, .int .i64 bp, .int .i64 bt] 29 (0, 0))) := Lib.hid (Hp.blk_new w3 _)
        have F4 := Lib.hid (F3.out.later A4.out); have R4 := Lib.hid (R3.out.later A4.out); have H4 := Lib.hid (H3.out.trans (A4.out.mono H3.out.size)); have Z4 := Lib.hid (Nat.le_trans Z3.out A4.out.size)
        have N3 : Hid (w3.heap.size ≠ gb) := Lib.hid (by have := R3.out.lt; omega)
        clear ad z5
        go_wp2_with (fail)
        refine (rbest_at V.out GE.out P1.out P2.out P3.out _ R4.out).mono ?_
        rintro en w5 ⟨rfl, ad⟩
        have R5 := Lib.hid ad.ri; have F5 := Lib.hid (F4.out.but ad.but HGB.out.2.1); have H5 := Lib.hid (ad.but.toBelow HGB.out.1 H4.out H4.out.size); have Z5' := Lib.hid (Nat.le_trans Z4.out ad.but.size)
        have bk5 := (ad.but.block w3.heap.size (Hp.blk_lt B4.out) N3.out).trans B4.out
        obtain ⟨g3, hg3⟩ : ∃ g3, w3.heap.size = g3 := ⟨_, rfl⟩
        rw [hg3] at bk5
        rw [hg3]
        have t0 : w5.cell? ⟨g3, 0, none⟩ = some (.int .i64 bo) := Hp.blk_cell bk5 rfl
        have t1 : w5.cell? ⟨g3, 1, none⟩ = some (.int .i64 bd) := Hp.blk_cell bk5 rfl
        have t2 : w5.cell? ⟨g3, 2, none⟩ = some (.int .i64 bp) := Hp.blk_cell bk5 rfl
        have t3 : w5.cell? ⟨g3, 3, none⟩ = some (.int .i64 bt) := Hp.blk_cell bk5 rfl
        have tL := World.new_ne w5 _ t0
        have tl := Hp.blk_lt bk5
        have A6 : Hid (Below w5.heap.size w5 (w5.alloc (.cells #[.int .i64 bo, .int .i64 bd, .int .i64 bp, .int .i64 bt] 29))) := Lib.hid ((Below.refl _ _).alloc (Nat.le_refl _) _)
        have FE := Lib.hid (F5.out.later A6.out); have RE := Lib.hid (R5.out.later A6.out); have HE := Lib.hid (H5.out.trans (A6.out.mono H5.out.size)); have BZE := Lib.hid (Nat.le_trans Z5'.out A6.out.size)
        have VE := V
        have fbc : (fb != fb) = false := by cases fb <;> rfl
        clear ad y5 yL bk5 hg3 l3
        go_wp2_with (fail)
        clear t0 t1 t2 t3 tL tl fbc
        go_wp2_with (fail)
        refine (len_any _ FE.out).mono ?_
        rintro en wy ⟨rfl, rfl⟩
        go_wp2_with (fail)
        refine (rlen_any _ RE.out).mono ?_
        rintro en wy ⟨rfl, rfl⟩
        obtain ⟨J, hJ⟩ : ∃ J, jit l = J := ⟨_, rfl⟩
        have HJ := Lib.hid hJ
        clear hJ
        go_wp2_with (fail)
        refine (jitter_at VE.out HJ.out _ FE.out).mono ?_
        rintro en w5 ⟨rfl, B5⟩
        have F5 := Lib.hid (FE.out.later B5); have R5 := Lib.hid (RE.out.later B5); have H5 := Lib.hid (HE.out.trans (B5.mono HE.out.size)); have Z5 := Lib.hid (Nat.le_trans BZE.out B5.size)
        clear B5
        go_wp2_with (fail)
        refine (rjitter_at VE.out HJ.out _ R5.out).mono ?_
        rintro en w6 ⟨rfl, B6⟩
        have F6 := Lib.hid (F5.out.later B6); have R6 := Lib.hid (R5.out.later B6); have H6 := Lib.hid (H5.out.trans (B6.mono H5.out.size)); have Z6 := Lib.hid (Nat.le_trans Z5.out B6.size)
        clear B6
        go_wp2_with (fail)
        refine (samples_any VE.out _ F6.out).mono ?_
        rintro en w7 ⟨v7, rfl, o7, B7⟩
        obtain ⟨a7, c7, rfl, s7⟩ := o7.rd
        have S7 := Lib.hid s7
        have F7 := Lib.hid (F6.out.later B7); have R7 := Lib.hid (R6.out.later B7); have H7 := Lib.hid (H6.out.trans (B7.mono H6.out.size)); have Z7 := Lib.hid (Nat.le_trans Z6.out B7.size)
        clear o7 B7 s7
        go_wp2_with (fail)
        refine (rsamples_any VE.out.len _ R7.out).mono ?_
        rintro en w8 ⟨v8, rfl, o8, B8⟩
        obtain ⟨a8, c8, rfl, s8, _⟩ := o8.rd
        have S8 := Lib.hid s8; have T8 := Lib.hid (S7.out.later B8)
        have F8 := Lib.hid (F7.out.later B8); have R8 := Lib.hid (R7.out.later B8); have H8 := Lib.hid (H7.out.trans (B8.mono H7.out.size)); have Z8 := Lib.hid (Nat.le_trans Z7.out B8.size)
        clear o8 B8 s8
        go_wp2_with (fail)
        refine (same_smps l a7 a8 c7 c8 (Nat.le_trans VE.out.len (by decide)) _ T8.out S8.out).mono ?_
        rintro en w9 ⟨rfl, B9⟩
        have F9 := Lib.hid (F8.out.later B9); have R9 := Lib.hid (R8.out.later B9); have H9 := Lib.hid (H8.out.trans (B9.mono H8.out.size)); have Z9 := Lib.hid (Nat.le_trans Z8.out B9.size)
        clear B9
        go_wp2_with (fail)
        go_roundw
        case rel => exact ⟨i + 1, l, a2, f2, by omega, by go_num, VE.out, F9.out, R9.out, Z9.out, H9.out⟩
        case measure => (simp [intOf] <;> omega)
      · go_wp2_with (fail)
        rw [HGX.out]
        rw [show wr.alloc (.cells #[.int .i64 2, .int .i64 xo, .int .i64 xd, .int .i64 xp, .int .i64 xt, .int .i64 now] 35) = wq from HWQ.out]
        clear x0 x1 x2 x3 x4 x5
        obtain ⟨D, hD⟩ : ∃ D, dispV l now tol = D := ⟨_, rfl⟩
        have HD := Lib.hid hD
        have z5 : wq.cell? ⟨gx, 5, none⟩ = some (.int .i64 now) := Hp.blk_cell BK.out rfl
        have lx := LX.out
        clear hD
        refine Qb.region (by kernel_rfl) (by kernel_rfl) ?_
        have q5 := Qb.cell z5 lx
        repeat (go_big_quiet_step (first | (go_at_call 11; exact disp_callq V.out HD FQ.out) | (go_at_call 18; exact rdisp_callq V.out HD RQ.out)))
        refine wpQuiet_nil ?_
        rintro _ ⟨⟨we, hbe⟩, rfl⟩
        have FE := Lib.hid (FQ.out.later hbe); have RE := Lib.hid (RQ.out.later hbe); have HE := Lib.hid (HQ.out.trans (hbe.mono HQ.out.size)); have BZE := Lib.hid (Nat.le_trans BZQ.out hbe.size)
        have VE := V
        clear hbe z5 q5 lx
        go_wp2_with (fail)
        refine (len_any _ FE.out).mono ?_
        rintro en wy ⟨rfl, rfl⟩
        go_wp2_with (fail)
        refine (rlen_any _ RE.out).mono ?_
        rintro en wy ⟨rfl, rfl⟩
        obtain ⟨J, hJ⟩ : ∃ J, jit l = J := ⟨_, rfl⟩
        have HJ := Lib.hid hJ
        clear hJ
        go_wp2_with (fail)
        refine (jitter_at VE.out HJ.out _ FE.out).mono ?_
        rintro en w5 ⟨rfl, B5⟩
        have F5 := Lib.hid (FE.out.later B5); have R5 := Lib.hid (RE.out.later B5); have H5 := Lib.hid (HE.out.trans (B5.mono HE.out.size)); have Z5 := Lib.hid (Nat.le_trans BZE.out B5.size)
        clear B5
        go_wp2_with (fail)
        refine (rjitter_at VE.out HJ.out _ R5.out).mono ?_
        rintro en w6 ⟨rfl, B6⟩
        have F6 := Lib.hid (F5.out.later B6); have R6 := Lib.hid (R5.out.later B6); have H6 := Lib.hid (H5.out.trans (B6.mono H5.out.size)); have Z6 := Lib.hid (Nat.le_trans Z5.out B6.size)
        clear B6
        go_wp2_with (fail)
        refine (samples_any VE.out _ F6.out).mono ?_
        rintro en w7 ⟨v7, rfl, o7, B7⟩
        obtain ⟨a7, c7, rfl, s7⟩ := o7.rd
        have S7 := Lib.hid s7
        have F7 := Lib.hid (F6.out.later B7); have R7 := Lib.hid (R6.out.later B7); have H7 := Lib.hid (H6.out.trans (B7.mono H6.out.size)); have Z7 := Lib.hid (Nat.le_trans Z6.out B7.size)
        clear o7 B7 s7
        go_wp2_with (fail)
        refine (rsamples_any VE.out.len _ R7.out).mono ?_
        rintro en w8 ⟨v8, rfl, o8, B8⟩
        obtain ⟨a8, c8, rfl, s8, _⟩ := o8.rd
        have S8 := Lib.hid s8; have T8 := Lib.hid (S7.out.later B8)
        have F8 := Lib.hid (F7.out.later B8); have R8 := Lib.hid (R7.out.later B8); have H8 := Lib.hid (H7.out.trans (B8.mono H7.out.size)); have Z8 := Lib.hid (Nat.le_trans Z7.out B8.size)
        clear o8 B8 s8
        go_wp2_with (fail)
        refine (same_smps l a7 a8 c7 c8 (Nat.le_trans VE.out.len (by decide)) _ T8.out S8.out).mono ?_
        rintro en w9 ⟨rfl, B9⟩
        have F9 := Lib.hid (F8.out.later B9); have R9 := Lib.hid (R8.out.later B9); have H9 := Lib.hid (H8.out.trans (B9.mono H8.out.size)); have Z9 := Lib.hid (Nat.le_trans Z8.out B9.size)
        clear B9
        go_wp2_with (fail)
        go_roundw
        case rel => exact ⟨i + 1, l, any, fr, by omega, by go_num, VE.out, F9.out, R9.out, Z9.out, H9.out⟩
        case measure => (simp [intOf] <;> omega)
      · have e0 : (kd == 0) = false := by simpa using k0
        have e1 : (kd == 1) = false := by simpa using k1
        have e2 : (kd == 2) = false := by simpa using k2
        clear k0 k1 k2
        go_wp2_with (fail)
        rw [HGX.out]
        rw [show wr.alloc (.cells #[.int .i64 kd, .int .i64 xo, .int .i64 xd, .int .i64 xp, .int .i64 xt, .int .i64 now] 35) = wq from HWQ.out]
        clear x0 x1 x2 x3 x4 x5
        obtain ⟨D, hD⟩ : ∃ D, spk l ⟨xo, xd, xp, xt⟩ = D := ⟨_, rfl⟩
        have HD := Lib.hid hD
        have z1 : wq.cell? ⟨gx, 1, none⟩ = some (.int .i64 xo) := Hp.blk_cell BK.out rfl
        have z2 : wq.cell? ⟨gx, 2, none⟩ = some (.int .i64 xd) := Hp.blk_cell BK.out rfl
        have z3 : wq.cell? ⟨gx, 3, none⟩ = some (.int .i64 xp) := Hp.blk_cell BK.out rfl
        have z4 : wq.cell? ⟨gx, 4, none⟩ = some (.int .i64 xt) := Hp.blk_cell BK.out rfl
        have lx := LX.out
        have fbc : (D != D) = false := by cases D <;> rfl
        clear hD
        refine Qb.region (by kernel_rfl) (by kernel_rfl) ?_
        have q1 := Qb.cell z1 lx; have q2 := Qb.cell z2 lx; have q3 := Qb.cell z3 lx; have q4 := Qb.cell z4 lx
        repeat (go_big_quiet_step (first | (go_at_call 19; exact spike_callq V.out HD FQ.out) | (go_at_call 20; exact rspike_callq V.out HD RQ.out)))
        refine wpQuiet_nil ?_
        rintro _ ⟨⟨we, hbe⟩, rfl⟩
        have FE := Lib.hid (FQ.out.later hbe); have RE := Lib.hid (RQ.out.later hbe); have HE := Lib.hid (HQ.out.trans (hbe.mono HQ.out.size)); have BZE := Lib.hid (Nat.le_trans BZQ.out hbe.size)
        have VE := V
        clear hbe z1 z2 z3 z4 q1 q2 q3 q4 lx
        go_wp2_with (fail)
        refine (len_any _ FE.out).mono ?_
        rintro en wy ⟨rfl, rfl⟩
        go_wp2_with (fail)
        refine (rlen_any _ RE.out).mono ?_
        rintro en wy ⟨rfl, rfl⟩
        obtain ⟨J, hJ⟩ : ∃ J, jit l = J := ⟨_, rfl⟩
        have HJ := Lib.hid hJ
        clear hJ
        go_wp2_with (fail)
        refine (jitter_at VE.out HJ.out _ FE.out).mono ?_
        rintro en w5 ⟨rfl, B5⟩
        have F5 := Lib.hid (FE.out.later B5); have R5 := Lib.hid (RE.out.later B5); have H5 := Lib.hid (HE.out.trans (B5.mono HE.out.size)); have Z5 := Lib.hid (Nat.le_trans BZE.out B5.size)
        clear B5
        go_wp2_with (fail)
        refine (rjitter_at VE.out HJ.out _ R5.out).mono ?_
        rintro en w6 ⟨rfl, B6⟩
        have F6 := Lib.hid (F5.out.later B6); have R6 := Lib.hid (R5.out.later B6); have H6 := Lib.hid (H5.out.trans (B6.mono H5.out.size)); have Z6 := Lib.hid (Nat.le_trans Z5.out B6.size)
        clear B6
        go_wp2_with (fail)
        refine (samples_any VE.out _ F6.out).mono ?_
        rintro en w7 ⟨v7, rfl, o7, B7⟩
        obtain ⟨a7, c7, rfl, s7⟩ := o7.rd
        have S7 := Lib.hid s7
        have F7 := Lib.hid (F6.out.later B7); have R7 := Lib.hid (R6.out.later B7); have H7 := Lib.hid (H6.out.trans (B7.mono H6.out.size)); have Z7 := Lib.hid (Nat.le_trans Z6.out B7.size)
        clear o7 B7 s7
        go_wp2_with (fail)
        refine (rsamples_any VE.out.len _ R7.out).mono ?_
        rintro en w8 ⟨v8, rfl, o8, B8⟩
        obtain ⟨a8, c8, rfl, s8, _⟩ := o8.rd
        have S8 := Lib.hid s8; have T8 := Lib.hid (S7.out.later B8)
        have F8 := Lib.hid (F7.out.later B8); have R8 := Lib.hid (R7.out.later B8); have H8 := Lib.hid (H7.out.trans (B8.mono H7.out.size)); have Z8 := Lib.hid (Nat.le_trans Z7.out B8.size)
        clear o8 B8 s8
        go_wp2_with (fail)
        refine (same_smps l a7 a8 c7 c8 (Nat.le_trans VE.out.len (by decide)) _ T8.out S8.out).mono ?_
        rintro en w9 ⟨rfl, B9⟩
        have F9 := Lib.hid (F8.out.later B9); have R9 := Lib.hid (R8.out.later B9); have H9 := Lib.hid (H8.out.trans (B9.mono H8.out.size)); have Z9 := Lib.hid (Nat.le_trans Z8.out B9.size)
        clear B9
        go_wp2_with (fail)
        go_roundw
        case rel => exact ⟨i + 1, l, any, fr, by omega, by go_num, VE.out, F9.out, R9.out, Z9.out, H9.out⟩
        case measure => (simp [intOf] <;> omega)
    · obtain rfl : n = i := by omega
      clear vl f r bz hb
      go_wp2_with (fail)
      refine (awake22_any _).mono ?_
      rintro en wz ⟨rfl, Bz⟩
      have HBz := Lib.hid (HR.out.trans (Bz.mono HR.out.size))
      clear Bz
      go_wp2_with (fail)
      go_ret
      exact ⟨rfl, HBz.out⟩
theorem law_FilterRuns (tol : Int) (a : Option Addr) (n c : Nat) (z : Nat → Nat → Int) (w : World) (S : Os w a n z) :
    Calls Try.prog 4 #[.int .i64 tol, .slice a n c] w fun e w' => e = .returned (.bool true) ∧ Below w.heap.size w w' := by
  by_cases h : 0 ≤ tol ∧ tol ≤ 500000
  · by_cases h2 : 60 < n
    · exact lruns_long tol n a c h.1 h.2 h2 w
    · exact lruns_main tol n a c z h.1 h.2 (by omega) w S
  · exact lruns_tol tol n a c (by omega) w
end Go.Proofs.Ytdaedhgbkamjpaa.JxW
