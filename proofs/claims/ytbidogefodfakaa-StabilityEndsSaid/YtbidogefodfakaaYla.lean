/- The laws StabilityRanges, StabilityAllan, StabilityModified of layer 48. -/
import Derived.Test.YtbidogefodfakaaYz
import Derived.Test.YtbidogefodfakaaYs
set_option linter.unusedVariables false
set_option linter.unusedSimpArgs false
namespace Go.Proofs.Ytbidogefodfakaa.YxW
open Go.RowKit Ls Orw Rw
theorem long_any (a : Option Addr) (n cap : Nat) (r : Bool) (h : Hid (decide ((1100 : Int) < (n : Int)) = r)) (w : World) : Calls Try.prog 12 #[.slice a n cap] w fun e w' => e = .returned (.bool r) ∧ w = w' := by
  go_enter Try.func12, Try.ntmps12
  go_wp2
  go_ret
  exact ⟨Hp.ret_bool h.out, rfl⟩
set_option maxHeartbeats 4000000 in
theorem ranges_long (a : Option Addr) (n cap : Nat) (m : Int) (h : 1100 < n) (w : World) :
    Calls Try.prog 3 #[.slice a n cap, .int .i64 m] w fun e w' => e = .returned (.bool true) ∧ Below w.heap.size w w' := by
  have L : Hid (decide ((1100 : Int) < (n : Int)) = true) := Lib.hid (decide_eq_true (by omega))
  go_enter Try.func3, Try.ntmps3
  go_wp2_with (go_at_call 12; refine (long_any _ _ _ _ L _).mono ?_; rintro e w' ⟨rfl, rfl⟩)
  refine (awake48_any _).mono ?_
  rintro e w1 ⟨rfl, B1⟩
  have HB1 := Lib.hid B1
  clear B1
  go_wp2_with (fail)
  go_ret
  exact ⟨rfl, HB1.out⟩
set_option maxHeartbeats 4000000 in
theorem ranges_short (a : Option Addr) (n cap : Nat) (x : Nat → Int) (m : Int) (h : ¬ 1100 < n) (w : World) (S : Is w a n x) (hlc : n ≤ cap) (hcc : cap ≤ 9223372036854775807) :
    Calls Try.prog 3 #[.slice a n cap, .int .i64 m] w fun e w' => e = .returned (.bool true) ∧ Below w.heap.size w w' := by
  have L : Hid (decide ((1100 : Int) < (n : Int)) = false) := Lib.hid (decide_eq_false (by omega))
  have HS := Lib.hid S
  obtain ⟨r, hr⟩ : ∃ r, Yx.rng n x m = r := ⟨_, rfl⟩
  obtain ⟨e, he⟩ : ∃ r, Yx.rngE n x m = r := ⟨_, rfl⟩
  obtain ⟨c, hc⟩ : ∃ r, Yx.chk n x = r := ⟨_, rfl⟩
  have HR := Lib.hid hr; have HE := Lib.hid he; have HC := Lib.hid hc
  clear S h hr he hc
  go_enter Try.func3, Try.ntmps3
  go_wp2_with (go_at_call 12; refine (long_any _ _ _ _ L _).mono ?_; rintro e w' ⟨rfl, rfl⟩)
  refine (range_any a n cap x m _ HS.out hlc hcc).mono ?_
  rw [HR.out, HE.out]
  rintro e1 w1 ⟨rfl, q1, rfl⟩
  have HS1 := Lib.hid (HS.out.drewN q1)
  go_wp2_with (fail)
  refine (rrange_any a n cap x m _ HS1.out hlc hcc).mono ?_
  rw [HR.out, HE.out]
  rintro e2 w2 ⟨rfl, q2, rfl⟩
  have HS2 := Lib.hid (HS1.out.drewN q2)
  go_wp2_with (first | (go_at_call 16; refine (check_at (HS.out.drewN _) HC).mono ?_; rintro e w' ⟨rfl, rfl⟩) | (go_at_call 17; refine (rcheck_at (HS.out.drewN _) HC).mono ?_; rintro e w' ⟨rfl, rfl⟩))
  refine (awake48_any _).mono ?_
  rintro e3 w3 ⟨rfl, B3⟩
  have HB3 := Lib.hid (Hp.step (w := w) (by (repeat (first | exact Below.refl _ _ | refine Below.drew ?_ | refine Hp.drewN ?_ _ | refine Below.setCell ?_ (by first | (simp; done) | (simp; omega) | omega) _ | refine Below.alloc ?_ (by first | (simp; done) | (simp; omega) | omega) _ | (refine Hp.step ?_ (by assumption))))) B3)
  clear B3
  go_wp2_with (fail)
  go_ret
  exact ⟨rfl, HB3.out⟩
theorem law_StabilityRanges (a : Option Addr) (n cap : Nat) (zs : List Int) (m : Int) (w : World) (S : In.IsInts .i64 w a n cap zs) :
    Calls Try.prog 3 #[.slice a n cap, .int .i64 m] w fun e w' => e = .returned (.bool true) ∧ Below w.heap.size w w' := by
  obtain ⟨h1, h2⟩ := S.lens
  by_cases h : 1100 < n
  · exact ranges_long a n cap m h w
  · exact ranges_short a n cap _ m h w (Is.of_ints S) h1 h2
set_option maxHeartbeats 4000000 in
theorem allans_long (a : Option Addr) (n cap : Nat) (m : Int) (h : 1100 < n) (w : World) :
    Calls Try.prog 4 #[.slice a n cap, .int .i64 m] w fun e w' => e = .returned (.bool true) ∧ Below w.heap.size w w' := by
  have L : Hid (decide ((1100 : Int) < (n : Int)) = true) := Lib.hid (decide_eq_true (by omega))
  go_enter Try.func4, Try.ntmps4
  go_wp2_with (go_at_call 12; refine (long_any _ _ _ _ L _).mono ?_; rintro e w' ⟨rfl, rfl⟩)
  refine (awake48_any _).mono ?_
  rintro e w1 ⟨rfl, B1⟩
  have HB1 := Lib.hid B1
  clear B1
  go_wp2_with (fail)
  go_ret
  exact ⟨rfl, HB1.out⟩
set_option maxHeartbeats 4000000 in
theorem allans_short (a : Option Addr) (n cap : Nat) (x : Nat → Int) (m : Int) (h : ¬ 1100 < n) (w : World) (S : Is w a n x) :
    Calls Try.prog 4 #[.slice a n cap, .int .i64 m] w fun e w' => e = .returned (.bool true) ∧ Below w.heap.size w w' := by
  have L : Hid (decide ((1100 : Int) < (n : Int)) = false) := Lib.hid (decide_eq_false (by omega))
  have HS := Lib.hid S
  obtain ⟨r, hr⟩ : ∃ r, Yx.alN n x m = r := ⟨_, rfl⟩
  obtain ⟨d, hd⟩ : ∃ r, Yx.alD n x m = r := ⟨_, rfl⟩
  obtain ⟨e, he⟩ : ∃ r, Yx.alE n x m = r := ⟨_, rfl⟩
  have HR := Lib.hid hr; have HE := Lib.hid he; have HD := Lib.hid hd
  have hn : n ≤ 1100 := by omega
  clear S h hr he hd
  go_enter Try.func4, Try.ntmps4
  go_wp2_with (go_at_call 12; refine (long_any _ _ _ _ L _).mono ?_; rintro e w' ⟨rfl, rfl⟩)
  refine (allan_any a n cap x m _ HS.out (by omega)).mono ?_
  rw [HR.out, HE.out, HD.out]
  rintro e1 w1 ⟨rfl, B1⟩
  have HS1 := Lib.hid ((HS.out.later B1).later ((Below.refl w1.heap.size w1).alloc (Nat.le_refl _) (.cells #[.int .i64 r, .int .i64 d] 31)))
  have HB1 := Lib.hid B1
  clear B1
  go_wp2_with (fail)
  refine (rallan_any a n cap x m _ HS1.out (by omega)).mono ?_
  rw [HR.out, HE.out, HD.out]
  rintro e2 w2 ⟨rfl, B2⟩
  have hA : w2.heap[w1.heap.size]? = some (.cells #[.int .i64 r, .int .i64 d] 31 (0, 0)) := (B2.block _ (by simp)).trans (Hp.blk_new w1 _)
  have c0 : w2.cell? ⟨w1.heap.size, 0, none⟩ = some (.int .i64 r) := Hp.blk_cell hA rfl
  have c1 : w2.cell? ⟨w1.heap.size, 1, none⟩ = some (.int .i64 d) := Hp.blk_cell hA rfl
  have HB2 := Lib.hid ((HB1.out.alloc HB1.out.size (.cells #[.int .i64 r, .int .i64 d] 31)).trans (B2.mono (by have := HB1.out.size; simp; omega)))
  have lt := Hp.blk_lt hA
  clear B2 hA HB1
  go_wp2_with (fail)
  refine (awake48_any _).mono ?_
  rintro e3 w3 ⟨rfl, B3⟩
  have HB3 := Lib.hid ((HB2.out.alloc HB2.out.size _).trans (B3.mono (by have := HB2.out.size; simp; omega)))
  clear B3
  go_wp2_with (fail)
  go_ret
  exact ⟨rfl, HB3.out⟩
theorem law_StabilityAllan (a : Option Addr) (n cap : Nat) (zs : List Int) (m : Int) (w : World) (S : In.IsInts .i64 w a n cap zs) :
    Calls Try.prog 4 #[.slice a n cap, .int .i64 m] w fun e w' => e = .returned (.bool true) ∧ Below w.heap.size w w' := by
  by_cases h : 1100 < n
  · exact allans_long a n cap m h w
  · exact allans_short a n cap _ m h w (Is.of_ints S)
set_option maxHeartbeats 4000000 in
theorem modifs_long (a : Option Addr) (n cap : Nat) (m : Int) (h : 1100 < n) (w : World) :
    Calls Try.prog 5 #[.slice a n cap, .int .i64 m] w fun e w' => e = .returned (.bool true) ∧ Below w.heap.size w w' := by
  have L : Hid (decide ((1100 : Int) < (n : Int)) = true) := Lib.hid (decide_eq_true (by omega))
  go_enter Try.func5, Try.ntmps5
  go_wp2_with (go_at_call 12; refine (long_any _ _ _ _ L _).mono ?_; rintro e w' ⟨rfl, rfl⟩)
  refine (awake48_any _).mono ?_
  rintro e w1 ⟨rfl, B1⟩
  have HB1 := Lib.hid B1
  clear B1
  go_wp2_with (fail)
  go_ret
  exact ⟨rfl, HB1.out⟩
set_option maxHeartbeats 4000000 in
theorem modifs_short (a : Option Addr) (n cap : Nat) (x : Nat → Int) (m : Int) (h : ¬ 1100 < n) (w : World) (S : Is w a n x) :
    Calls Try.prog 5 #[.slice a n cap, .int .i64 m] w fun e w' => e = .returned (.bool true) ∧ Below w.heap.size w w' := by
  have L : Hid (decide ((1100 : Int) < (n : Int)) = false) := Lib.hid (decide_eq_false (by omega))
  have HS := Lib.hid S
  obtain ⟨r, hr⟩ : ∃ r, Yx.moN n x m = r := ⟨_, rfl⟩
  obtain ⟨d, hd⟩ : ∃ r, Yx.moD n x m = r := ⟨_, rfl⟩
  obtain ⟨e, he⟩ : ∃ r, Yx.moE n x m = r := ⟨_, rfl⟩
  have HR := Lib.hid hr; have HE := Lib.hid he; have HD := Lib.hid hd
  have hn : n ≤ 1100 := by omega
  clear S h hr he hd
  go_enter Try.func5, Try.ntmps5
  go_wp2_with (go_at_call 12; refine (long_any _ _ _ _ L _).mono ?_; rintro e w' ⟨rfl, rfl⟩)
  refine (modified_any a n cap x m _ HS.out (by omega)).mono ?_
  rw [HR.out, HE.out, HD.out]
  rintro e1 w1 ⟨rfl, B1⟩
  have HS1 := Lib.hid ((HS.out.later B1).later ((Below.refl w1.heap.size w1).alloc (Nat.le_refl _) (.cells #[.int .i64 r, .int .i64 d] 31)))
  have HB1 := Lib.hid B1
  clear B1
  go_wp2_with (fail)
  refine (rmodified_any a n cap x m _ HS1.out (by omega)).mono ?_
  rw [HR.out, HE.out, HD.out]
  rintro e2 w2 ⟨rfl, B2⟩
  have hA : w2.heap[w1.heap.size]? = some (.cells #[.int .i64 r, .int .i64 d] 31 (0, 0)) := (B2.block _ (by simp)).trans (Hp.blk_new w1 _)
  have c0 : w2.cell? ⟨w1.heap.size, 0, none⟩ = some (.int .i64 r) := Hp.blk_cell hA rfl
  have c1 : w2.cell? ⟨w1.heap.size, 1, none⟩ = some (.int .i64 d) := Hp.blk_cell hA rfl
  have HB2 := Lib.hid ((HB1.out.alloc HB1.out.size (.cells #[.int .i64 r, .int .i64 d] 31)).trans (B2.mono (by have := HB1.out.size; simp; omega)))
  have lt := Hp.blk_lt hA
  clear B2 hA HB1
  go_wp2_with (fail)
  refine (awake48_any _).mono ?_
  rintro e3 w3 ⟨rfl, B3⟩
  have HB3 := Lib.hid ((HB2.out.alloc HB2.out.size _).trans (B3.mono (by have := HB2.out.size; simp; omega)))
  clear B3
  go_wp2_with (fail)
  go_ret
  exact ⟨rfl, HB3.out⟩
theorem law_StabilityModified (a : Option Addr) (n cap : Nat) (zs : List Int) (m : Int) (w : World) (S : In.IsInts .i64 w a n cap zs) :
    Calls Try.prog 5 #[.slice a n cap, .int .i64 m] w fun e w' => e = .returned (.bool true) ∧ Below w.heap.size w w' := by
  by_cases h : 1100 < n
  · exact modifs_long a n cap m h w
  · exact modifs_short a n cap _ m h w (Is.of_ints S)
end Go.Proofs.Ytbidogefodfakaa.YxW
