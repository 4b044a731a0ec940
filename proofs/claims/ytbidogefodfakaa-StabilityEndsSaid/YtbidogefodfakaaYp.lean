/- Contracts of layer 48: Detrend (both). -/
import Derived.Test.YtbidogefodfakaaYo
import Derived.Test.YtbidogefodfakaaYa
import Derived.Test.YtbidogefodfakaaRm
import Derived.Deep.RegionLaw
set_option linter.unusedVariables false
set_option linter.unusedSimpArgs false
namespace Go.Proofs.Ytbidogefodfakaa.YxW
open Go.RowKit Ls Orw Rw
theorem fdiv_between {a b lo hi : Int} (h0 : lo ≤ a) (h1 : a ≤ hi) (l0 : lo ≤ 0) (u0 : 0 ≤ hi) (hb : 1 ≤ b) : lo ≤ Int.fdiv a b ∧ Int.fdiv a b ≤ hi := by
  rw [Int.fdiv_eq_ediv_of_nonneg a (show 0 ≤ b by omega)]
  constructor
  · refine Int.le_ediv_of_mul_le (by omega) ?_
    have := Int.mul_le_mul_of_nonpos_left (a := lo) (b := b) (c := 1) l0 hb
    omega
  · refine Int.ediv_le_of_le_mul (by omega) ?_
    have := Int.mul_le_mul_of_nonneg_left hb u0
    omega
theorem floor_at {a b q : Int} (a1 : -9223372036854775808 ≤ a) (a2 : a ≤ 9223372036854775807) (b1 : 1 ≤ b) (b2 : b ≤ 9223372036854775807) (h : Hid (Int.fdiv a b = q)) (w : World) :
    Calls Try.prog 40 #[.int .i64 a, .int .i64 b] w fun e w' => e = .returned (.tuple #[.int .i64 q, .bool true]) ∧ ∃ n, w' = w.drewN n := by
  have e := FxW.floor_any a b a1 a2 (by omega) b2 w
  have bd := fdiv_between (b := b) a1 a2 (by omega) (by omega) b1
  have ok : Fx.fitOk (Fx.fl a b) = true := Fx.fitOk_true bd.1 bd.2
  have hb : ¬ b = 0 := by omega
  rw [show Fx.qV b (Fx.fl a b) = q by unfold Fx.qV; rw [if_neg hb, Fx.fitV_of ok]; exact h.out, show Fx.qOk b (Fx.fl a b) = true by unfold Fx.qOk; rw [if_neg hb]; exact ok] at e
  exact e
theorem rfloor_at {a b q : Int} (a1 : -9223372036854775808 ≤ a) (a2 : a ≤ 9223372036854775807) (b1 : 1 ≤ b) (b2 : b ≤ 9223372036854775807) (h : Hid (Int.fdiv a b = q)) (w : World) :
    Calls Try.prog 41 #[.int .i64 a, .int .i64 b] w fun e w' => e = .returned (.tuple #[.int .i64 q, .bool true]) ∧ w = w' := by
  have e := FxW.rfloor_any a b a1 a2 (by omega) b2 w
  have bd := fdiv_between (b := b) a1 a2 (by omega) (by omega) b1
  have ok : Fx.fitOk (Fx.fl a b) = true := Fx.fitOk_true bd.1 bd.2
  have hb : ¬ b = 0 := by omega
  rw [show Fx.qV b (Fx.fl a b) = q by unfold Fx.qV; rw [if_neg hb, Fx.fitV_of ok]; exact h.out, show Fx.qOk b (Fx.fl a b) = true by unfold Fx.qOk; rw [if_neg hb]; exact ok] at e
  exact e
theorem dk_bd {D k : Int} (d1 : -2199023255552 ≤ D) (d2 : D ≤ 2199023255552) (k0 : 0 ≤ k) (k1 : k ≤ 1024) : -2251799813685248 ≤ D * k ∧ D * k ≤ 2251799813685248 := by
  have a := Int.mul_le_mul_of_nonneg_right d1 k0
  have b := Int.mul_le_mul_of_nonneg_right d2 k0
  omega
/-- an own list of len numbers and an error: a block known whole, or nothing -/
def OwnPost (len : Nat) (f : Nat → Int) (w : World) (e : Ending) (w' : World) : Prop := ∃ g, e = .returned (.tuple #[.slice (some ⟨g, 0, none⟩) len len, .int .i64 0]) ∧ Ob w' g len f ∧ w.heap.size ≤ g ∧ Below w.heap.size w w'
def NonePost (E : Int) (w : World) (e : Ending) (w' : World) : Prop := e = .returned (.tuple #[.slice none 0 0, .int .i64 E]) ∧ w = w'
set_option maxHeartbeats 4000000 in
theorem detrend_no (a : Option Addr) (len cap : Nat) (x : Nat → Int) (w : World) (S : Is w a len x) (h : ¬ (Yx.chk len x = 0 ∧ 2 ≤ len)) :
    Calls Try.prog 23 #[.slice a len cap] w (NonePost (Yx.dtE len x) w) := by
  have hS := Lib.hid S
  by_cases hc : Yx.chk len x = 0
  · have C := Lib.hid hc
    have E1 : Hid (Yx.dtE len x = 14) := Lib.hid (by unfold Yx.dtE; rw [if_pos hc, if_pos (by omega)])
    have h2 : (len : Int) < 2 := by omega
    clear S hc h
    go_enter Try.func23, Try.ntmps23
    go_wp2_with (go_at_call 16; refine (check_at hS.out C).mono ?_; rintro e w' ⟨rfl, rfl⟩)
    go_ret2
    rw [E1.out]
    exact ⟨rfl, rfl⟩
  · have E1 : Hid (Yx.dtE len x = Yx.chk len x) := Lib.hid (by unfold Yx.dtE; rw [if_neg hc])
    obtain ⟨r, hr⟩ : ∃ r, Yx.chk len x = r := ⟨_, rfl⟩
    have C := Lib.hid hr
    have hq : (r != 0) = true := by rw [hr] at hc; simpa using hc
    clear S hc hr h
    go_enter Try.func23, Try.ntmps23
    go_wp2_with (go_at_call 16; refine (check_at hS.out C).mono ?_; rintro e w' ⟨rfl, rfl⟩)
    go_ret2
    rw [E1.out, C.out]
    exact ⟨rfl, rfl⟩
set_option maxHeartbeats 8000000 in
theorem detrend_yes (a : Option Addr) (len cap : Nat) (x : Nat → Int) (w : World) (S : Is w a len x) (hc : Yx.chk len x = 0) (h2 : 2 ≤ len) :
    Calls Try.prog 23 #[.slice a len cap] w (OwnPost len (Yx.dt len x) w) := by
  obtain ⟨hl, hB⟩ := Yx.chk_ok hc
  have hS := Lib.hid S; have C := Lib.hid hc; have HB := Lib.hid hB
  obtain ⟨b, o, rfl, hb, hx⟩ := S.addr (by omega)
  have HX := Lib.hid hx
  have hmk := fun W => make_run len _ rfl (by omega) W
  have b0 := hB 0 (by omega); have b1 := hB (len - 1) (by omega)
  have hx0 := hx 0 (by omega); have hx1 := hx (len - 1) (by omega)
  obtain ⟨u, hu⟩ : ∃ u, x 0 = u := ⟨_, rfl⟩
  obtain ⟨t, ht⟩ : ∃ u, x (len - 1) = u := ⟨_, rfl⟩
  have HU := Lib.hid hu; have HT := Lib.hid ht
  rw [hu] at b0 hx0; rw [ht] at b1 hx1
  have u1 := b0.1; have u2 := b0.2; have t1 := b1.1; have t2 := b1.2
  have HX0 := Lib.hid hx0; have HX1 := Lib.hid hx1
  have i2 : (2 : Int) ≤ (len : Int) := by omega
  have i3 : (len : Int) ≤ 1024 := by omega
  have HO := Lib.hid (Ob.made w len)
  clear S hc hB hx hu ht b0 b1 hx0 hx1
  go_enter Try.func23, Try.ntmps23
  go_wp2_with (go_at_call 16; refine (check_at hS.out C).mono ?_; rintro e w' ⟨rfl, rfl⟩)
  go_loopw [27] (fun c wr => ∃ k : Nat, k ≤ len ∧ c = .int .i64 k ∧ Ob wr w.heap.size len (part (Yx.dt len x) k) ∧ Below w.heap.size w wr) (fun c _ => len - (intOf c).toNat)
  case atStart => exact ⟨0, by omega, rfl, by rw [part_zero]; exact HO.out, by (repeat (first | exact Below.refl _ _ | refine Below.drew ?_ | refine Hp.drewN ?_ _ | refine Below.setCell ?_ (by first | (simp; done) | (simp; omega) | omega) _ | refine Below.alloc ?_ (by first | (simp; done) | (simp; omega) | omega) _ | (refine Hp.step ?_ (by assumption))))⟩
  case round =>
    obtain ⟨k, hk, rfl, ob, hbl⟩ := hrel
    have O := Lib.hid ob; have HBl := Lib.hid hbl
    have olt := ob.lt
    clear ob hbl
    by_cases hlt : k < len
    · have c0 := (HBl.out.cell (p := ⟨b, o + k, none⟩) hb).trans (HX.out k hlt)
      have c1 : wr.cell? ⟨b, o, none⟩ = some (.int .i64 u) := (HBl.out.cell (p := ⟨b, o, none⟩) hb).trans (by simpa using HX0.out)
      have c2 : wr.cell? ⟨b, o + (len - 1), none⟩ = some (.int .i64 t) := (HBl.out.cell (p := ⟨b, o + (len - 1), none⟩) hb).trans HX1.out
      have bk := HB.out k hlt
      obtain ⟨v, hv⟩ : ∃ v, x k = v := ⟨_, rfl⟩
      have HV := Lib.hid hv
      rw [hv] at c0 bk
      have v1 := bk.1; have v2 := bk.2
      have P := dk_bd (D := t - u) (k := k) (by omega) (by omega) (by omega) (by omega)
      have p1 := P.1; have p2 := P.2
      have qb := fdiv_between (b := (len : Int) - 1) p1 p2 (by omega) (by omega) (by omega)
      obtain ⟨q, hq⟩ : ∃ q, Int.fdiv ((t - u) * (k : Int)) ((len : Int) - 1) = q := ⟨_, rfl⟩
      have HQ := Lib.hid hq
      rw [hq] at qb
      have qb1 := qb.1; have qb2 := qb.2
      have HD : Hid (Yx.dt len x k = v - u - q) := Lib.hid (by unfold Yx.dt; rw [HT.out, hv, HU.out, hq])
      have q1 := O.out.cell hlt
      have q2 := O.out.free k
      rw [show part (Yx.dt len x) k k = 0 by unfold part; rw [if_neg (by omega)]] at q1
      have W1 : IntKind.i64.wrap (t - u) = t - u := IntWalk.i64_in _ (by omega)
      have W2 : IntKind.i64.wrap ((t - u) * (k : Int)) = (t - u) * (k : Int) := IntWalk.i64_in _ (by omega)
      have T1 : ((len : Int) - 1).toNat = len - 1 := by omega
      have hl1 : len - 1 < len := by omega
      have hl0 : 0 < len := by omega
      clear hv bk P qb hq
      go_wp2_with (fail)
      go_quiet ((go_at_call 40; exact Qb.draw (floor_at (by omega) (by omega) (by omega) (by omega) HQ _)))
      clear W1 W2 T1
      go_wp2_with (fail)
      go_roundw
      case rel => exact ⟨k + 1, by omega, by go_num, by have := (O.out.drewN nq).set k (v - u - q); rw [← HD.out, part_succ] at this; rw [← HD.out]; exact this, by have := HBl.out; (repeat (first | exact Below.refl _ _ | refine Below.drew ?_ | refine Hp.drewN ?_ _ | refine Below.setCell ?_ (by first | (simp; done) | (simp; omega) | omega) _ | refine Below.alloc ?_ (by first | (simp; done) | (simp; omega) | omega) _ | (refine Hp.step ?_ (by assumption))))⟩
      case measure => simp [intOf]; omega
    · obtain rfl : k = len := by omega
      go_wp2_with (fail)
      go_ret2
      exact ⟨_, rfl, O.out.congr fun i hi => part_all _ hi, Nat.le_refl _, HBl.out⟩
end Go.Proofs.Ytbidogefodfakaa.YxW
