/- Contracts: combine.Mean. -/
import Derived.Test.YtdnpidcchcefeaaCg
import Derived.Test.YtdnpidcchcefeaaQb
set_option linter.unusedVariables false
set_option linter.unusedSimpArgs false
namespace Go.Proofs.Ytdnpidcchcefeaa.CxW
open Go.RowKit Rw
theorem mean_call {w : World} {y : Qb.Later w} {p : Nat} {a : Option Addr} {n cap : Nat} {z : Nat → Nat → Int} (S : Cs w a n z) (hc : Cx.chk n z = 0) (hn : 0 < n) (hp : p < w.heap.size) (hv : w.cell? ⟨p, 0, none⟩ = some (.int .i64 (z 0 1))) {r : Int} (hr : Hid (Cx.ws n z (Cx.dif z) n = r)) :
    Calls Try.prog 21 #[.slice a n cap, .func (.func 22) #[] #[.pointer (some ⟨p, 0, none⟩)]] y.1 fun e w'' => e = .returned (.int .i64 r) ∧ ∃ y' : Qb.Later w, w'' = y'.1 := by
  obtain ⟨_, _, h3⟩ := Cx.chk_ok hc
  rw [← hr.out]
  refine Qb.call (weighted_mean p (z 0 1) (Cx.dif z) (-9007199254740992) 9007199254740992 (by omega) (by omega) (by omega) (by omega) a n cap z _ (S.later y.2) hc hn (fun i hi => Cx.dif_bd hc hi) (Nat.lt_of_lt_of_le hp y.2.size) (Qb.cell hv hp y) ?_)
  intro i hi w' hp' hv'
  have b0 := h3 0 hn
  have bi := h3 i hi
  exact mean1_any _ _ _ _ _ _ p (by omega) (by omega) (by omega) (by omega) w' hp' hv'
set_option maxHeartbeats 4000000 in
theorem mean_yes (a : Option Addr) (n cap : Nat) (z : Nat → Nat → Int) (w : World) (S : Cs w a n z) (hc : Cx.chk n z = 0) (hn : 0 < n) :
    Calls Try.prog 10 #[.slice a n cap] w fun e w' => e = .returned (.tuple #[.int .i64 (Cx.mean n z), .int .i64 0]) ∧ Below w.heap.size w w' := by
  have hS := Lib.hid S; have hC := Lib.hid hc
  obtain ⟨hn12, _, h3⟩ := Cx.chk_ok hc
  obtain ⟨_, _, f0, f1, _, _⟩ := h3 0 hn
  have wb := Cx.ws_bd (x := Cx.dif z) hc hn (lo := -9007199254740992) (hi := 9007199254740992) (by omega) (by omega) (by omega) (by omega) (fun i hi => Cx.dif_bd hc hi) n (Nat.le_refl _)
  have me := Lib.hid (show Cx.mean n z = z 0 1 + Cx.ws n z (Cx.dif z) n by unfold Cx.mean; rw [if_pos ⟨hc, hn⟩])
  obtain ⟨r, hr⟩ : ∃ r, Cx.ws n z (Cx.dif z) n = r := ⟨_, rfl⟩
  have HR := Lib.hid hr
  rw [hr] at wb
  clear S hc h3 hr
  go_enter Try.func10, Try.ntmps10
  go_wp2_with (fail)
  refine (check_any a n cap z _ hS.out).mono ?_
  rw [hC.out]
  rintro e w1 ⟨rfl, B1⟩
  have hs1 := B1.size
  have HB1 := Lib.hid B1
  have HS1 := Lib.hid (hS.out.later B1)
  obtain ⟨b, o, rfl, hb, c0, c1, c2, c3, c4⟩ := HS1.out.elem hn
  have c1' : w1.cell? ⟨b, o + 1, none⟩ = some (.int .i64 (z 0 1)) := by simpa using c1
  obtain ⟨f, hf⟩ : ∃ f, z 0 1 = f := ⟨_, rfl⟩
  have HF := Lib.hid hf
  rw [hf] at c1' f0 f1
  clear B1 c0 c1 c2 c3 c4 hf
  have HC2 := Lib.hid (HS1.out.later ((Below.refl w1.heap.size w1).alloc (Nat.le_refl _) (.cells #[.int .i64 f] 3)))
  have K0 : Hid ((w1.alloc (.cells #[.int .i64 f] 3)).cell? ⟨w1.heap.size, 0, none⟩ = some (.int .i64 (z 0 1))) := by rw [HF.out]; exact Hp.blk_cell (Hp.blk_new _ _) rfl
  go_wp2_with (fail)
  refine Qb.region (by kernel_rfl) (by kernel_rfl) ?_
  have k0 := Qb.cell (w := w1.alloc (.cells #[.int .i64 f] 3)) (b := w1.heap.size) (o := 0) (v := .int .i64 f) (by have := K0.out; rw [HF.out] at this; exact this) (by simp)
  repeat (go_big_quiet_step (first | (go_at_call 21; exact mean_call HC2.out hC.out hn (by simp) K0.out HR)))
  refine wpQuiet_nil ?_
  rintro _ ⟨⟨w9, hb9⟩, rfl⟩
  have H9 := Lib.hid hb9
  clear hb9 k0
  go_wp2_with (fail)
  go_ret2
  exact ⟨by rw [me.out, HR.out, HF.out]; rfl, past_below HB1.out hs1 H9.out⟩
theorem mean_no (a : Option Addr) (n cap : Nat) (z : Nat → Nat → Int) (w : World) (S : Cs w a n z) (hc : Cx.chk n z ≠ 0) :
    Calls Try.prog 10 #[.slice a n cap] w fun e w' => e = .returned (.tuple #[.int .i64 0, .int .i64 (Cx.chk n z)]) ∧ Below w.heap.size w w' := by
  have hS := Lib.hid S
  have hq : (Cx.chk n z != 0) = true := by simp [hc]
  have hC := Lib.hid hc
  clear S hc
  go_enter Try.func10, Try.ntmps10
  go_wp2_with (fail)
  refine (check_any a n cap z _ hS.out).mono ?_
  rintro e w1 ⟨rfl, B1⟩
  have HB1 := Lib.hid B1
  clear B1
  go_wp2_with (fail)
  go_ret2
  exact ⟨rfl, HB1.out⟩
theorem mean_nil (a : Option Addr) (cap : Nat) (z : Nat → Nat → Int) (w : World) (S : Cs w a 0 z) :
    Calls Try.prog 10 #[.slice a 0 cap] w fun e w' => e = .returned (.tuple #[.int .i64 0, .int .i64 14]) ∧ Below w.heap.size w w' := by
  have hS := Lib.hid S
  clear S
  go_enter Try.func10, Try.ntmps10
  go_wp2_with (fail)
  refine (check_any a 0 cap z _ hS.out).mono ?_
  rw [show Cx.chk 0 z = 0 from rfl]
  rintro e w1 ⟨rfl, B1⟩
  have HB1 := Lib.hid B1
  clear B1
  go_wp2_with (fail)
  go_ret2
  exact ⟨rfl, HB1.out⟩
/-- what Mean returns -/
theorem mean_any (a : Option Addr) (n cap : Nat) (z : Nat → Nat → Int) (w : World) (S : Cs w a n z) :
    Calls Try.prog 10 #[.slice a n cap] w fun e w' => e = .returned (.tuple #[.int .i64 (Cx.mean n z), .int .i64 (Cx.meanE n z)]) ∧ Below w.heap.size w w' := by
  by_cases hc : Cx.chk n z = 0
  · by_cases hn : 0 < n
    · rw [show Cx.meanE n z = 0 by unfold Cx.meanE; rw [if_pos hc, if_pos hn]]
      exact mean_yes a n cap z w S hc hn
    · obtain rfl : n = 0 := by omega
      rw [show Cx.meanE 0 z = 14 from rfl, show Cx.mean 0 z = 0 from rfl]
      exact mean_nil a cap z w S
  · rw [show Cx.meanE n z = Cx.chk n z by unfold Cx.meanE; rw [if_neg hc], show Cx.mean n z = 0 by unfold Cx.mean; rw [if_neg (fun h => hc h.1)]]
    exact mean_no a n cap z w S hc
end Go.Proofs.Ytdnpidcchcefeaa.CxW
