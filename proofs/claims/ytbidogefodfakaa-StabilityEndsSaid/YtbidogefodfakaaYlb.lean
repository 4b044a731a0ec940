/- The law StabilityLists of layer 48. -/
import Derived.Test.YtbidogefodfakaaYla
set_option linter.unusedVariables false
set_option linter.unusedSimpArgs false
namespace Go.Proofs.Ytbidogefodfakaa.YxW
open Go.RowKit Ls Orw Rw
theorem is_of_row2 {w : World} {base : Nat} {v : Value} {zs : List Int} (h : Row w base v zs) : ∃ a cap, v = .slice a zs.length cap ∧ Is w a zs.length (lst zs) := by
  rcases h.form with ⟨hv, rfl⟩ | ⟨g, cap, cur, hv, _, hh, _, hc⟩
  · exact ⟨none, 0, hv, ⟨.inl rfl⟩⟩
  · exact ⟨_, cap, hv, Is.of_block hh fun i hi => hc i hi⟩
def dtN (len : Nat) (x : Nat → Int) : Nat := if Yx.chk len x = 0 ∧ 2 ≤ len then len else 0
def LPost (m : Nat) (f : Nat → Int) (E : Int) (w : World) (e : Ending) (w' : World) : Prop := ∃ a cap, e = .returned (.tuple #[.slice a m cap, .int .i64 E]) ∧ Is w' a m f ∧ Below w.heap.size w w'
theorem detrend_any (a : Option Addr) (len cap : Nat) (x : Nat → Int) (w : World) (S : Is w a len x) :
    Calls Try.prog 23 #[.slice a len cap] w (LPost (dtN len x) (Yx.dt len x) (Yx.dtE len x) w) := by
  unfold dtN
  by_cases h : Yx.chk len x = 0 ∧ 2 ≤ len
  · rw [if_pos h, show Yx.dtE len x = 0 by unfold Yx.dtE; rw [if_pos h.1, if_neg (by omega)]]
    exact (detrend_yes a len cap x w S h.1 h.2).mono fun e w' ⟨g, he, o, _, hb⟩ => ⟨_, _, he, o.is, hb⟩
  · rw [if_neg h]
    exact (detrend_no a len cap x w S h).mono fun e w' ⟨he, hw⟩ => ⟨_, _, he, ⟨.inl rfl⟩, by rw [← hw]; exact Below.refl _ _⟩
theorem rdetrend_any (a : Option Addr) (len cap : Nat) (x : Nat → Int) (w : World) (S : Is w a len x) :
    Calls Try.prog 28 #[.slice a len cap] w (LPost (dtN len x) (Yx.dt len x) (Yx.dtE len x) w) := by
  unfold dtN
  by_cases h : Yx.chk len x = 0 ∧ 2 ≤ len
  · rw [if_pos h, show Yx.dtE len x = 0 by unfold Yx.dtE; rw [if_pos h.1, if_neg (by omega)]]
    exact (rdetrend_yes a len cap x w S h.1 h.2).mono fun e w' ⟨g, he, o, _, hb⟩ => ⟨_, _, he, o.is, hb⟩
  · rw [if_neg h]
    exact (rdetrend_no a len cap x w S h).mono fun e w' ⟨he, hw⟩ => ⟨_, _, he, ⟨.inl rfl⟩, by rw [← hw]; exact Below.refl _ _⟩
theorem dtN_le {len : Nat} {x : Nat → Int} : dtN len x ≤ len := by unfold dtN; split <;> omega
theorem decim_any (a : Option Addr) (len cap : Nat) (x : Nat → Int) (n : Int) (w : World) (S : Is w a len x) (n2 : n ≤ 9223372036854775807) :
    Calls Try.prog 26 #[.slice a len cap, .int .i64 n] w (LPost (Yx.dcL len x n).length (lst (Yx.dcL len x n)) (Yx.dcE len x n) w) :=
  (decimate_any a len cap x n w S n2).mono fun e w' ⟨v, he, R, hb⟩ => by
    obtain ⟨a', cap', rfl, hi⟩ := is_of_row2 R
    exact ⟨_, _, he, hi, hb⟩
theorem rdecim_any (a : Option Addr) (len cap : Nat) (x : Nat → Int) (n : Int) (w : World) (S : Is w a len x) (n2 : n ≤ 9223372036854775807) :
    Calls Try.prog 27 #[.slice a len cap, .int .i64 n] w (LPost (Yx.dcL len x n).length (lst (Yx.dcL len x n)) (Yx.dcE len x n) w) :=
  (rdecimate_any a len cap x n w S n2).mono fun e w' ⟨v, he, R, hb⟩ => by
    obtain ⟨a', cap', rfl, hi⟩ := is_of_row2 R
    exact ⟨_, _, he, hi, hb⟩
theorem dcL_len {len : Nat} {x : Nat → Int} {n : Int} : (Yx.dcL len x n).length ≤ len := by
  unfold Yx.dcL; split
  · exact Yx.dec_len _ _ _
  · simp
set_option maxHeartbeats 4000000 in
theorem lists_long (a : Option Addr) (n cap : Nat) (m : Int) (h : 1100 < n) (w : World) :
    Calls Try.prog 9 #[.slice a n cap, .int .i64 m] w fun e w' => e = .returned (.bool true) ∧ Below w.heap.size w w' := by
  have L : Hid (decide ((1100 : Int) < (n : Int)) = true) := Lib.hid (decide_eq_true (by omega))
  go_enter Try.func9, Try.ntmps9
  go_wp2_with (go_at_call 12; refine (long_any _ _ _ _ L _).mono ?_; rintro e w' ⟨rfl, rfl⟩)
  refine (awake48_any _).mono ?_
  rintro e w1 ⟨rfl, B1⟩
  have HB1 := Lib.hid B1
  clear B1
  go_wp2_with (fail)
  go_ret
  exact ⟨rfl, HB1.out⟩
set_option maxHeartbeats 4000000 in
theorem lists_short (a : Option Addr) (n cap : Nat) (x : Nat → Int) (m : Int) (m2 : m ≤ 9223372036854775807) (h : ¬ 1100 < n) (w : World) (S : Is w a n x) :
    Calls Try.prog 9 #[.slice a n cap, .int .i64 m] w fun e w' => e = .returned (.bool true) ∧ Below w.heap.size w w' := by
  have L : Hid (decide ((1100 : Int) < (n : Int)) = false) := Lib.hid (decide_eq_false (by omega))
  have HS := Lib.hid S
  have hn : n ≤ 1100 := by omega
  have b1 := dcL_len (len := n) (x := x) (n := m); have b2 := dtN_le (len := n) (x := x)
  obtain ⟨k1, hk1⟩ : ∃ r, (Yx.dcL n x m).length = r := ⟨_, rfl⟩
  obtain ⟨f1, hf1⟩ : ∃ r, lst (Yx.dcL n x m) = r := ⟨_, rfl⟩
  obtain ⟨e1, he1⟩ : ∃ r, Yx.dcE n x m = r := ⟨_, rfl⟩
  obtain ⟨k2, hk2⟩ : ∃ r, dtN n x = r := ⟨_, rfl⟩
  obtain ⟨f2, hf2⟩ : ∃ r, Yx.dt n x = r := ⟨_, rfl⟩
  obtain ⟨e2, he2⟩ : ∃ r, Yx.dtE n x = r := ⟨_, rfl⟩
  obtain ⟨q, hq⟩ : ∃ r, rms n x = r := ⟨_, rfl⟩
  rw [hk1] at b1; rw [hk2] at b2
  have K1 := Lib.hid hk1; have F1 := Lib.hid hf1; have E1 := Lib.hid he1; have K2 := Lib.hid hk2; have F2 := Lib.hid hf2; have E2 := Lib.hid he2; have Q := Lib.hid hq
  clear S h hk1 hf1 he1 hk2 hf2 he2 hq
  go_enter Try.func9, Try.ntmps9
  go_wp2_with (go_at_call 12; refine (long_any _ _ _ _ L _).mono ?_; rintro e w' ⟨rfl, rfl⟩)
  refine (decim_any a n cap x m _ HS.out m2).mono ?_
  rw [K1.out, F1.out, E1.out]
  rintro e w1 ⟨a1, c1, rfl, I1, B1⟩
  have HB1 := Lib.hid B1; have HS1 := Lib.hid (HS.out.later B1); have HI1 := Lib.hid I1
  clear I1 B1
  go_wp2_with (fail)
  refine (rdecim_any a n cap x m _ HS1.out m2).mono ?_
  rw [K1.out, F1.out, E1.out]
  rintro e w2 ⟨a2, c2, rfl, I2, B2⟩
  have HB2 := Lib.hid (HB1.out.trans (B2.mono HB1.out.size)); have HS2 := Lib.hid (HS1.out.later B2); have HI2 := Lib.hid I2; have HI1b := Lib.hid (HI1.out.later B2)
  clear I2 B2 HB1 HS1 HI1
  go_wp2_with (fail)
  refine (detrend_any a n cap x _ HS2.out).mono ?_
  rw [K2.out, F2.out, E2.out]
  rintro e w3 ⟨a3, c3, rfl, I3, B3⟩
  have HB3 := Lib.hid (HB2.out.trans (B3.mono HB2.out.size)); have HS3 := Lib.hid (HS2.out.later B3); have HI3 := Lib.hid I3; have HI1c := Lib.hid (HI1b.out.later B3); have HI2c := Lib.hid (HI2.out.later B3)
  clear I3 B3 HB2 HS2 HI1b HI2
  go_wp2_with (fail)
  refine (rdetrend_any a n cap x _ HS3.out).mono ?_
  rw [K2.out, F2.out, E2.out]
  rintro e w4 ⟨a4, c4, rfl, I4, B4⟩
  have HB4 := Lib.hid (HB3.out.trans (B4.mono HB3.out.size)); have HS4 := Lib.hid (HS3.out.later B4); have HI4 := Lib.hid I4; have HI1d := Lib.hid (HI1c.out.later B4); have HI2d := Lib.hid (HI2c.out.later B4); have HI3d := Lib.hid (HI3.out.later B4)
  clear I4 B4 HB3 HS3 HI1c HI2c HI3
  go_wp2_with (fail)
  refine (equal_same (x := f1) _ HI1d.out HI2d.out (by omega)).mono ?_
  rintro e w' ⟨rfl, q1, rfl⟩
  go_wp2_with (fail)
  refine (equal_same (x := f2) _ (HI3d.out.drewN _) (HI4.out.drewN _) (by omega)).mono ?_
  rintro e w' ⟨rfl, q2, rfl⟩
  go_wp2_with (fail)
  refine (rms_any a n cap x _ (HS4.out.drewN _)).mono ?_
  rw [Q.out]
  rintro e w' ⟨rfl, q3, rfl⟩
  go_wp2_with (fail)
  refine (rrms_any a n cap x _ (HS4.out.drewN _)).mono ?_
  rw [Q.out]
  rintro e w' ⟨rfl, rfl⟩
  go_wp2_with (fail)
  refine (awake48_any _).mono ?_
  rintro e w6 ⟨rfl, B6⟩
  have HB6 := Lib.hid (HB4.out.trans ((Hp.step (w := w4) (by (repeat (first | exact Below.refl _ _ | refine Below.drew ?_ | refine Hp.drewN ?_ _ | refine Below.setCell ?_ (by first | (simp; done) | (simp; omega) | omega) _ | refine Below.alloc ?_ (by first | (simp; done) | (simp; omega) | omega) _ | (refine Hp.step ?_ (by assumption))))) B6).mono HB4.out.size))
  clear B6
  go_wp2_with (fail)
  go_ret
  exact ⟨rfl, HB6.out⟩
theorem law_StabilityLists (a : Option Addr) (n cap : Nat) (zs : List Int) (m : Int) (m2 : m ≤ 9223372036854775807) (w : World) (S : In.IsInts .i64 w a n cap zs) :
    Calls Try.prog 9 #[.slice a n cap, .int .i64 m] w fun e w' => e = .returned (.bool true) ∧ Below w.heap.size w w' := by
  by_cases h : 1100 < n
  · exact lists_long a n cap m h w
  · exact lists_short a n cap _ m m2 h w (Is.of_ints S)
end Go.Proofs.Ytbidogefodfakaa.YxW
