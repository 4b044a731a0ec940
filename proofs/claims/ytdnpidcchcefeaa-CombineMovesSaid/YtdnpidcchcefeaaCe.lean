/- Contracts: combine.Weights, timesyncref26.Weights. -/
import Derived.Test.YtdnpidcchcefeaaCd
import Derived.Test.YtdnpidcchcefeaaRo
set_option linter.unusedVariables false
set_option linter.unusedSimpArgs false
namespace Go.Proofs.Ytdnpidcchcefeaa.CxW
open Go.RowKit Rw
set_option maxHeartbeats 4000000 in
theorem weights_yes (a : Option Addr) (n cap : Nat) (z : Nat → Nat → Int) (w : World) (S : Cs w a n z) (hc : Cx.chk n z = 0) :
    Calls Try.prog 13 #[.slice a n cap] w fun e w' => ∃ v, e = .returned v ∧ Rw.Row w' w.heap.size v (Cx.wtsN z n) ∧ Below w.heap.size w w' := by
  obtain ⟨hn12, _, hok⟩ := Cx.chk_ok hc
  have hS := Lib.hid S; have hC := Lib.hid hc; have hOk := Lib.hid hok
  clear S hc hok
  go_enter Try.func13, Try.ntmps13
  go_wp2_with (fail)
  refine (check_any a n cap z _ hS.out).mono ?_
  rw [hC.out]
  rintro e w1 ⟨rfl, B1⟩
  have hs1 := B1.size
  have HB1 := Lib.hid B1
  clear B1
  go_wp2_with (fail)
  go_loopw [11, 3] (fun c v wr => ∃ k : Nat, k ≤ n ∧ c = .int .i64 k ∧ Rw.Row wr w.heap.size v (Cx.wtsN z k) ∧ Below w.heap.size w wr) (fun c _ _ => n - (intOf c).toNat)
  case atStart => exact ⟨0, by omega, rfl, Rw.Row.nil _ _, HB1.out⟩
  case round =>
    obtain ⟨k, hk, rfl, hR, hB⟩ := hrel
    have HR := Lib.hid hR; have HB := Lib.hid hB
    have hbs := hB.size
    by_cases hlt : k < n
    · obtain ⟨b, o, rfl, hb, c0, c1, c2, c3, c4⟩ := (hS.out.later hB).elem hlt
      obtain ⟨_, _, _, _, d0, d1⟩ := hOk.out k hlt
      obtain ⟨d, hd⟩ : ∃ d, d = z k 2 := ⟨_, rfl⟩
      rw [← hd] at c2 d0 d1
      have HD := Lib.hid hd
      clear hd hR hB
      by_cases hq : 1 < 1073741824 / (d / 1000 + 1)
      · have HQ : Hid (1 < 1073741824 / (d / 1000 + 1)) := hq
        have hq' := hq
        have HW := Lib.hid (by rw [Cx.wt_q d0]; omega : Cx.wt d = 1073741824 / (d / 1000 + 1))
        clear hq
        have Rx := Lib.hid ((HR.out.alloc (.cells #[.int .i64 (z k 0), .int .i64 (z k 1), .int .i64 d, .int .i64 (z k 3), .int .i64 (z k 4)] 34)).alloc (.cells #[.int .i64 (1073741824 / (d / 1000 + 1))] 3))
        have BX := Lib.hid (Below.alloc (Below.alloc HB.out hbs (.cells #[.int .i64 (z k 0), .int .i64 (z k 1), .int .i64 d, .int .i64 (z k 3), .int .i64 (z k 4)] 34)) (by simp; omega) (.cells #[.int .i64 (1073741824 / (d / 1000 + 1))] 3))
        have cz := Lib.hid (show ((wr.alloc (.cells #[.int .i64 (z k 0), .int .i64 (z k 1), .int .i64 d, .int .i64 (z k 3), .int .i64 (z k 4)] 34)).alloc (.cells #[.int .i64 (1073741824 / (d / 1000 + 1))] 3)).cell? ⟨wr.heap.size + 1, 0, none⟩ = some (.int .i64 (1073741824 / (d / 1000 + 1))) from Hp.blk_cell (by have := Hp.blk_new (wr.alloc (.cells #[.int .i64 (z k 0), .int .i64 (z k 1), .int .i64 d, .int .i64 (z k 3), .int .i64 (z k 4)] 34)) (.cells #[.int .i64 (1073741824 / (d / 1000 + 1))] 3); simpa using this) rfl)
        have sm := Lib.hid (show (Cx.wtsN z k).length ≤ 1000000 by rw [Cx.wtsN_len]; omega)
        have bs := Lib.hid (show w.heap.size ≤ ((wr.alloc (.cells #[.int .i64 (z k 0), .int .i64 (z k 1), .int .i64 d, .int .i64 (z k 3), .int .i64 (z k 4)] 34)).alloc (.cells #[.int .i64 (1073741824 / (d / 1000 + 1))] 3)).heap.size by simp; omega)
        have sb := Lib.hid (show ((wr.alloc (.cells #[.int .i64 (z k 0), .int .i64 (z k 1), .int .i64 d, .int .i64 (z k 3), .int .i64 (z k 4)] 34)).alloc (.cells #[.int .i64 (1073741824 / (d / 1000 + 1))] 3)).heap.size = ((wr.alloc (.cells #[.int .i64 (z k 0), .int .i64 (z k 1), .int .i64 d, .int .i64 (z k 3), .int .i64 (z k 4)] 34)).alloc (.cells #[.int .i64 (1073741824 / (d / 1000 + 1))] 3)).heap.size from rfl)
        go_wp2_with (at_builtin; refine append_int rfl (.tmp 15) (.tmp 22) rfl rfl Rx.out ⟨wr.heap.size + 1, 0, none⟩ rfl cz.out sm.out bs.out ?_; intro v2 w2 R2 G2; have HR2 := Lib.hid R2; have HG2 := Lib.hid G2; clear R2 G2)
        go_roundw
        case rel => exact ⟨k + 1, by omega, by go_num, by rw [Cx.wtsN_succ, ← HD.out, HW.out]; exact HR2.out, Row.below Rx.out (Nat.le_refl _) HG2.out BX.out bs.out⟩
        case measure => simp [intOf]; omega
      · have hq' : 1073741824 / (d / 1000 + 1) ≤ 1 := by omega
        have HW := Lib.hid (by rw [Cx.wt_q d0]; omega : Cx.wt d = 1)
        clear hq
        have Rx := Lib.hid ((HR.out.alloc (.cells #[.int .i64 (z k 0), .int .i64 (z k 1), .int .i64 d, .int .i64 (z k 3), .int .i64 (z k 4)] 34)).alloc (.cells #[.int .i64 (1)] 3))
        have BX := Lib.hid (Below.alloc (Below.alloc HB.out hbs (.cells #[.int .i64 (z k 0), .int .i64 (z k 1), .int .i64 d, .int .i64 (z k 3), .int .i64 (z k 4)] 34)) (by simp; omega) (.cells #[.int .i64 (1)] 3))
        have cz := Lib.hid (show ((wr.alloc (.cells #[.int .i64 (z k 0), .int .i64 (z k 1), .int .i64 d, .int .i64 (z k 3), .int .i64 (z k 4)] 34)).alloc (.cells #[.int .i64 (1)] 3)).cell? ⟨wr.heap.size + 1, 0, none⟩ = some (.int .i64 (1)) from Hp.blk_cell (by have := Hp.blk_new (wr.alloc (.cells #[.int .i64 (z k 0), .int .i64 (z k 1), .int .i64 d, .int .i64 (z k 3), .int .i64 (z k 4)] 34)) (.cells #[.int .i64 (1)] 3); simpa using this) rfl)
        have sm := Lib.hid (show (Cx.wtsN z k).length ≤ 1000000 by rw [Cx.wtsN_len]; omega)
        have bs := Lib.hid (show w.heap.size ≤ ((wr.alloc (.cells #[.int .i64 (z k 0), .int .i64 (z k 1), .int .i64 d, .int .i64 (z k 3), .int .i64 (z k 4)] 34)).alloc (.cells #[.int .i64 (1)] 3)).heap.size by simp; omega)
        have sb := Lib.hid (show ((wr.alloc (.cells #[.int .i64 (z k 0), .int .i64 (z k 1), .int .i64 d, .int .i64 (z k 3), .int .i64 (z k 4)] 34)).alloc (.cells #[.int .i64 (1)] 3)).heap.size = ((wr.alloc (.cells #[.int .i64 (z k 0), .int .i64 (z k 1), .int .i64 d, .int .i64 (z k 3), .int .i64 (z k 4)] 34)).alloc (.cells #[.int .i64 (1)] 3)).heap.size from rfl)
        go_wp2_with (at_builtin; refine append_int rfl (.tmp 15) (.tmp 22) rfl rfl Rx.out ⟨wr.heap.size + 1, 0, none⟩ rfl cz.out sm.out bs.out ?_; intro v2 w2 R2 G2; have HR2 := Lib.hid R2; have HG2 := Lib.hid G2; clear R2 G2)
        go_roundw
        case rel => exact ⟨k + 1, by omega, by go_num, by rw [Cx.wtsN_succ, ← HD.out, HW.out]; exact HR2.out, Row.below Rx.out (Nat.le_refl _) HG2.out BX.out bs.out⟩
        case measure => simp [intOf]; omega
    · have K : Hid (k = n) := by show _ = _; omega
      clear hR hB
      go_wp2
      go_ret
      exact ⟨_, rfl, by have := HR.out; rw [K.out] at this; exact this, HB.out⟩
theorem weights_no (a : Option Addr) (n cap : Nat) (z : Nat → Nat → Int) (w : World) (S : Cs w a n z) (hc : Cx.chk n z ≠ 0) :
    Calls Try.prog 13 #[.slice a n cap] w fun e w' => ∃ v, e = .returned v ∧ Rw.Row w' w.heap.size v [] ∧ Below w.heap.size w w' := by
  have hS := Lib.hid S
  have hq : (Cx.chk n z != 0) = true := by simp [hc]
  have hC := Lib.hid hc
  clear S hc
  go_enter Try.func13, Try.ntmps13
  go_wp2_with (fail)
  refine (check_any a n cap z _ hS.out).mono ?_
  rintro e w1 ⟨rfl, B1⟩
  have HB1 := Lib.hid B1
  clear B1
  go_wp2_with (fail)
  go_ret
  exact ⟨_, rfl, Rw.Row.nil _ _, HB1.out⟩
theorem weights_any (a : Option Addr) (n cap : Nat) (z : Nat → Nat → Int) (w : World) (S : Cs w a n z) :
    Calls Try.prog 13 #[.slice a n cap] w fun e w' => ∃ v, e = .returned v ∧ Rw.Row w' w.heap.size v (Cx.wts n z) ∧ Below w.heap.size w w' := by
  unfold Cx.wts
  by_cases h : Cx.chk n z = 0
  · rw [if_pos h]; exact weights_yes a n cap z w S h
  · rw [if_neg h]; exact weights_no a n cap z w S h
set_option maxHeartbeats 4000000 in
theorem rweights_yes (a : Option Addr) (n cap : Nat) (z : Nat → Nat → Int) (w : World) (S : Cs w a n z) (hc : Cx.chk n z = 0) :
    Calls Try.prog 14 #[.slice a n cap] w fun e w' => ∃ v, e = .returned v ∧ Rw.Row w' w.heap.size v (Cx.wtsN z n) ∧ Below w.heap.size w w' := by
  obtain ⟨hn12, _, hok⟩ := Cx.chk_ok hc
  have hS := Lib.hid S; have hC := Lib.hid hc; have hOk := Lib.hid hok
  clear S hc hok
  go_enter Try.func14, Try.ntmps14
  go_wp2_with (fail)
  refine (rcheck_any a n cap z _ hS.out).mono ?_
  rw [hC.out]
  rintro e w1 ⟨rfl, B1⟩
  have hs1 := B1.size
  have HB1 := Lib.hid B1
  clear B1
  go_wp2_with (fail)
  go_loopw [4, 3] (fun c v wr => ∃ k : Nat, k ≤ n ∧ c = .int .i64 k ∧ Rw.Row wr w.heap.size v (Cx.wtsN z k) ∧ Below w.heap.size w wr) (fun c _ _ => n - (intOf c).toNat)
  case atStart => exact ⟨0, by omega, rfl, Rw.Row.nil _ _, HB1.out⟩
  case round =>
    obtain ⟨k, hk, rfl, hR, hB⟩ := hrel
    have HR := Lib.hid hR; have HB := Lib.hid hB
    have hbs := hB.size
    by_cases hlt : k < n
    · obtain ⟨b, o, rfl, hb, c0, c1, c2, c3, c4⟩ := (hS.out.later hB).elem hlt
      obtain ⟨_, _, _, _, d0, d1⟩ := hOk.out k hlt
      obtain ⟨d, hd⟩ : ∃ d, d = z k 2 := ⟨_, rfl⟩
      rw [← hd] at c2 d0 d1
      have HD := Lib.hid hd
      clear hd hR hB
      by_cases hq : 1 < 1073741824 / (d / 1000 + 1)
      · have HQ : Hid (1 < 1073741824 / (d / 1000 + 1)) := hq
        have hq' := hq
        have HW := Lib.hid (by rw [Cx.wt_q d0]; omega : Cx.wt d = 1073741824 / (d / 1000 + 1))
        clear hq
        have Rx := Lib.hid (HR.out.alloc (.cells #[.int .i64 (1073741824 / (d / 1000 + 1))] 3))
        have BX := Lib.hid (Below.alloc HB.out hbs (.cells #[.int .i64 (1073741824 / (d / 1000 + 1))] 3))
        have cz := Lib.hid (show (wr.alloc (.cells #[.int .i64 (1073741824 / (d / 1000 + 1))] 3)).cell? ⟨wr.heap.size, 0, none⟩ = some (.int .i64 (1073741824 / (d / 1000 + 1))) from Hp.blk_cell (by have := Hp.blk_new wr (.cells #[.int .i64 (1073741824 / (d / 1000 + 1))] 3); simpa using this) rfl)
        have sm := Lib.hid (show (Cx.wtsN z k).length ≤ 1000000 by rw [Cx.wtsN_len]; omega)
        have bs := Lib.hid (show w.heap.size ≤ (wr.alloc (.cells #[.int .i64 (1073741824 / (d / 1000 + 1))] 3)).heap.size by simp; omega)
        have sb := Lib.hid (show (wr.alloc (.cells #[.int .i64 (1073741824 / (d / 1000 + 1))] 3)).heap.size = (wr.alloc (.cells #[.int .i64 (1073741824 / (d / 1000 + 1))] 3)).heap.size from rfl)
        go_wp2_with (at_builtin; refine append_int rfl (.tmp 14) (.tmp 24) rfl rfl Rx.out ⟨wr.heap.size, 0, none⟩ rfl cz.out sm.out bs.out ?_; intro v2 w2 R2 G2; have HR2 := Lib.hid R2; have HG2 := Lib.hid G2; clear R2 G2)
        go_roundw
        case rel => exact ⟨k + 1, by omega, by go_num, by rw [Cx.wtsN_succ, ← HD.out, HW.out]; exact HR2.out, Row.below Rx.out (Nat.le_refl _) HG2.out BX.out bs.out⟩
        case measure => simp [intOf]; omega
      · have hq' : 1073741824 / (d / 1000 + 1) ≤ 1 := by omega
        have HW := Lib.hid (by rw [Cx.wt_q d0]; omega : Cx.wt d = 1)
        clear hq
        have Rx := Lib.hid (HR.out.alloc (.cells #[.int .i64 (1)] 3))
        have BX := Lib.hid (Below.alloc HB.out hbs (.cells #[.int .i64 (1)] 3))
        have cz := Lib.hid (show (wr.alloc (.cells #[.int .i64 (1)] 3)).cell? ⟨wr.heap.size, 0, none⟩ = some (.int .i64 (1)) from Hp.blk_cell (by have := Hp.blk_new wr (.cells #[.int .i64 (1)] 3); simpa using this) rfl)
        have sm := Lib.hid (show (Cx.wtsN z k).length ≤ 1000000 by rw [Cx.wtsN_len]; omega)
        have bs := Lib.hid (show w.heap.size ≤ (wr.alloc (.cells #[.int .i64 (1)] 3)).heap.size by simp; omega)
        have sb := Lib.hid (show (wr.alloc (.cells #[.int .i64 (1)] 3)).heap.size = (wr.alloc (.cells #[.int .i64 (1)] 3)).heap.size from rfl)
        go_wp2_with (at_builtin; refine append_int rfl (.tmp 14) (.tmp 24) rfl rfl Rx.out ⟨wr.heap.size, 0, none⟩ rfl cz.out sm.out bs.out ?_; intro v2 w2 R2 G2; have HR2 := Lib.hid R2; have HG2 := Lib.hid G2; clear R2 G2)
        go_roundw
        case rel => exact ⟨k + 1, by omega, by go_num, by rw [Cx.wtsN_succ, ← HD.out, HW.out]; exact HR2.out, Row.below Rx.out (Nat.le_refl _) HG2.out BX.out bs.out⟩
        case measure => simp [intOf]; omega
    · have K : Hid (k = n) := by show _ = _; omega
      clear hR hB
      go_wp2
      go_ret
      exact ⟨_, rfl, by have := HR.out; rw [K.out] at this; exact this, HB.out⟩
theorem rweights_no (a : Option Addr) (n cap : Nat) (z : Nat → Nat → Int) (w : World) (S : Cs w a n z) (hc : Cx.chk n z ≠ 0) :
    Calls Try.prog 14 #[.slice a n cap] w fun e w' => ∃ v, e = .returned v ∧ Rw.Row w' w.heap.size v [] ∧ Below w.heap.size w w' := by
  have hS := Lib.hid S
  have hq : (Cx.chk n z != 0) = true := by simp [hc]
  have hC := Lib.hid hc
  clear S hc
  go_enter Try.func14, Try.ntmps14
  go_wp2_with (fail)
  refine (rcheck_any a n cap z _ hS.out).mono ?_
  rintro e w1 ⟨rfl, B1⟩
  have HB1 := Lib.hid B1
  clear B1
  go_wp2_with (fail)
  go_ret
  exact ⟨_, rfl, Rw.Row.nil _ _, HB1.out⟩
theorem rweights_any (a : Option Addr) (n cap : Nat) (z : Nat → Nat → Int) (w : World) (S : Cs w a n z) :
    Calls Try.prog 14 #[.slice a n cap] w fun e w' => ∃ v, e = .returned v ∧ Rw.Row w' w.heap.size v (Cx.wts n z) ∧ Below w.heap.size w w' := by
  unfold Cx.wts
  by_cases h : Cx.chk n z = 0
  · rw [if_pos h]; exact rweights_yes a n cap z w S h
  · rw [if_neg h]; exact rweights_no a n cap z w S h
end Go.Proofs.Ytdnpidcchcefeaa.CxW
