/- Contracts of layer 48: the reference's Detrend. -/
import Derived.Test.YtbidogefodfakaaYp
import Derived.StillTailTactics
set_option linter.unusedVariables false
set_option linter.unusedSimpArgs false
namespace Go.Proofs.Ytbidogefodfakaa.YxW
open Go.RowKit Ls Orw Rw
set_option maxHeartbeats 4000000 in
theorem rdetrend_no (a : Option Addr) (len cap : Nat) (x : Nat → Int) (w : World) (S : Is w a len x) (h : ¬ (Yx.chk len x = 0 ∧ 2 ≤ len)) :
    Calls Try.prog 28 #[.slice a len cap] w (NonePost (Yx.dtE len x) w) := by
  have hS := Lib.hid S
  by_cases hc : Yx.chk len x = 0
  · have C := Lib.hid hc
    have E1 : Hid (Yx.dtE len x = 14) := Lib.hid (by unfold Yx.dtE; rw [if_pos hc, if_pos (by omega)])
    have h2 : (len : Int) < 2 := by omega
    clear S hc h
    go_enter Try.func28, Try.ntmps28
    go_wp2_with (go_at_call 17; refine (rcheck_at hS.out C).mono ?_; rintro e w' ⟨rfl, rfl⟩)
    go_ret2
    rw [E1.out]
    exact ⟨rfl, rfl⟩
  · have E1 : Hid (Yx.dtE len x = Yx.chk len x) := Lib.hid (by unfold Yx.dtE; rw [if_neg hc])
    obtain ⟨r, hr⟩ : ∃ r, Yx.chk len x = r := ⟨_, rfl⟩
    have C := Lib.hid hr
    have hq : (r != 0) = true := by rw [hr] at hc; simpa using hc
    clear S hc hr h
    go_enter Try.func28, Try.ntmps28
    go_wp2_with (go_at_call 17; refine (rcheck_at hS.out C).mono ?_; rintro e w' ⟨rfl, rfl⟩)
    go_ret2
    rw [E1.out, C.out]
    exact ⟨rfl, rfl⟩
set_option maxHeartbeats 8000000 in
theorem rdetrend_yes (a : Option Addr) (len cap : Nat) (x : Nat → Int) (w : World) (S : Is w a len x) (hc : Yx.chk len x = 0) (h2 : 2 ≤ len) :
    Calls Try.prog 28 #[.slice a len cap] w (OwnPost len (Yx.dt len x) w) := by
  obtain ⟨hl, hB⟩ := Yx.chk_ok hc
  have hS := Lib.hid S; have C := Lib.hid hc; have HB := Lib.hid hB
  obtain ⟨b, o, rfl, hb, hx⟩ := S.addr (by omega)
  have HX := Lib.hid hx
  have hmk := fun W => make_run len _ rfl (by omega) W
  have b0 := hB 0 (by omega); have b1 := hB (len - 1) (by omega)
  have hx0 := hx 0 (by omega); have hx1 := hx (len - 1) (by omega)
  obtain ⟨u, hu⟩ : ∃ u, x 0 = u := ⟨_, rfl⟩
  obtain ⟨t, ht⟩ : ∃ u, x (len - 1) = u := ⟨_, rfl⟩
  have HU := Lib.hid hu; have HT := Lib.hid ht
  rw [hu] at b0 hx0; rw [ht] at b1 hx1
  have u1 := b0.1; have u2 := b0.2; have t1 := b1.1; have t2 := b1.2
  have HX0 := Lib.hid hx0; have HX1 := Lib.hid hx1
  have i2 : (2 : Int) ≤ (len : Int) := by omega
  have i3 : (len : Int) ≤ 1024 := by omega
  have HO := Lib.hid (Ob.made w len)
  clear S hc hB hx hu ht b0 b1 hx0 hx1
  go_enter Try.func28, Try.ntmps28
  go_wp2_with (go_at_call 17; refine (rcheck_at hS.out C).mono ?_; rintro e w' ⟨rfl, rfl⟩)
  go_loopw [7] (fun c wr => ∃ k : Nat, k ≤ len ∧ c = .int .i64 k ∧ Ob wr w.heap.size len (part (Yx.dt len x) k) ∧ Below w.heap.size w wr) (fun c _ => len - (intOf c).toNat)
  case atStart => exact ⟨0, by omega, rfl, by rw [part_zero]; exact HO.out, by (repeat (first | exact Below.refl _ _ | refine Below.drew ?_ | refine Hp.drewN ?_ _ | refine Below.setCell ?_ (by first | (simp; done) | (simp; omega) | omega) _ | refine Below.alloc ?_ (by first | (simp; done) | (simp; omega) | omega) _ | (refine Hp.step ?_ (by assumption))))⟩
  case round =>
    obtain ⟨k, hk, rfl, ob, hbl⟩ := hrel
    have O := Lib.hid ob; have HBl := Lib.hid hbl
    have olt := ob.lt
    clear ob hbl
    by_cases hlt : k < len
    · have c0 := (HBl.out.cell (p := ⟨b, o + k, none⟩) hb).trans (HX.out k hlt)
      have c1 : wr.cell? ⟨b, o, none⟩ = some (.int .i64 u) := (HBl.out.cell (p := ⟨b, o, none⟩) hb).trans (by simpa using HX0.out)
      have c2 : wr.cell? ⟨b, o + (len - 1), none⟩ = some (.int .i64 t) := (HBl.out.cell (p := ⟨b, o + (len - 1), none⟩) hb).trans HX1.out
      have bk := HB.out k hlt
      obtain ⟨v, hv⟩ : ∃ v, x k = v := ⟨_, rfl⟩
      have HV := Lib.hid hv
      rw [hv] at c0 bk
      have v1 := bk.1; have v2 := bk.2
      have P := dk_bd (D := t - u) (k := k) (by omega) (by omega) (by omega) (by omega)
      have p1 := P.1; have p2 := P.2
      have qb := fdiv_between (b := (len : Int) - 1) p1 p2 (by omega) (by omega) (by omega)
      obtain ⟨q, hq⟩ : ∃ q, Int.fdiv ((t - u) * (k : Int)) ((len : Int) - 1) = q := ⟨_, rfl⟩
      have HQ := Lib.hid hq
      rw [hq] at qb
      have qb1 := qb.1; have qb2 := qb.2
      have HD : Hid (Yx.dt len x k = v - u - q) := Lib.hid (by unfold Yx.dt; rw [HT.out, hv, HU.out, hq])
      have q1 := O.out.cell hlt
      have q2 := O.out.free k
      rw [show part (Yx.dt len x) k k = 0 by unfold part; rw [if_neg (by omega)]] at q1
      have W1 : IntKind.i64.wrap (t - u) = t - u := IntWalk.i64_in _ (by omega)
      have W2 : IntKind.i64.wrap ((t - u) * (k : Int)) = (t - u) * (k : Int) := IntWalk.i64_in _ (by omega)
      have T1 : ((len : Int) - 1).toNat = len - 1 := by omega
      have hl1 : len - 1 < len := by omega
      have hl0 : 0 < len := by omega
      clear hv bk P qb hq
      go_wp2_with (fail)
      go_quiet ((go_at_call 41; exact Qb.same (rfloor_at (by omega) (by omega) (by omega) (by omega) HQ _)))
      clear W1 W2 T1
      have W3 : IntKind.i64.wrap (v - u) = v - u := IntWalk.i64_in _ (by omega)
      have W4 : IntKind.i64.wrap (v - u - q) = v - u - q := IntWalk.i64_in _ (by omega)
      go_wp2_with (fail)
      go_region_law (fail)
      all_goals
        go_wp2_with (fail)
        go_roundw
        case rel => exact ⟨k + 1, by omega, by go_num, by have := (O.out.drewN (nq + 1)).set k (v - u - q); rw [← HD.out, part_succ] at this; rw [← HD.out]; exact this, by have := HBl.out; (repeat (first | exact Below.refl _ _ | refine Below.drew ?_ | refine Hp.drewN ?_ _ | refine Below.setCell ?_ (by first | (simp; done) | (simp; omega) | omega) _ | refine Below.alloc ?_ (by first | (simp; done) | (simp; omega) | omega) _ | (refine Hp.step ?_ (by assumption))))⟩
        case measure => simp [intOf]; omega
    · obtain rfl : k = len := by omega
      go_wp2_with (fail)
      go_ret2
      exact ⟨_, rfl, O.out.congr fun i hi => part_all _ hi, Nat.le_refl _, HBl.out⟩
end Go.Proofs.Ytbidogefodfakaa.YxW
