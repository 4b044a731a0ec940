/- Contracts: combine.Jitter, combine.Dist. -/
import Derived.Test.YtdnpidcchcefeaaCh
import Derived.Test.YtdnpidcchcefeaaFs
set_option linter.unusedVariables false
set_option linter.unusedSimpArgs false
namespace Go.Proofs.Ytdnpidcchcefeaa.CxW
open Go.RowKit Rw
theorem meanE_yes {n : Nat} {z : Nat → Nat → Int} (hc : Cx.chk n z = 0) (hn : 0 < n) : Cx.meanE n z = 0 := by unfold Cx.meanE; rw [if_pos hc, if_pos hn]
theorem meanE_no {n : Nat} {z : Nat → Nat → Int} (h : ¬ (Cx.chk n z = 0 ∧ 0 < n)) : Cx.meanE n z ≠ 0 := by
  unfold Cx.meanE
  by_cases hc : Cx.chk n z = 0
  · rw [if_pos hc, if_neg (fun hn => h ⟨hc, hn⟩)]; omega
  · rw [if_neg hc]; exact hc
theorem sqrt_at {n r : Int} (h0 : 0 ≤ n) (h1 : n ≤ 9223372036854775807) (h : Hid (Fx.isq n = r)) (w : World) :
    Calls Try.prog 26 #[.int .i64 n] w fun e w' => e = .returned (.tuple #[.int .i64 r, .bool true]) ∧ w = w' := by
  obtain ⟨m, rfl⟩ := Int.eq_ofNat_of_zero_le h0
  rw [← h.out]
  exact FxW.sqrt_any m (by omega) w
set_option maxHeartbeats 4000000 in
theorem jitter_yes (a : Option Addr) (n cap : Nat) (z : Nat → Nat → Int) (w : World) (S : Cs w a n z) (hc : Cx.chk n z = 0) (hn : 0 < n) :
    Calls Try.prog 15 #[.slice a n cap] w fun e w' => e = .returned (.int .i64 (Cx.jit n z)) ∧ Below w.heap.size w w' := by
  have hS := Lib.hid S; have hC := Lib.hid hc
  obtain ⟨hn12, _, h3⟩ := Cx.chk_ok hc
  have H3 := Lib.hid h3
  have je := Lib.hid (show Cx.jit n z = Fx.isq (Cx.ws n z (Cx.sq n z) n) by unfold Cx.jit; rw [if_pos ⟨hc, hn⟩])
  have sb := Cx.sqs_bd hc hn n (Nat.le_refl _)
  obtain ⟨m0, m1⟩ := Cx.mean_bd hc hn
  obtain ⟨m, hm⟩ : ∃ m, Cx.mean n z = m := ⟨_, rfl⟩
  have HM := Lib.hid hm
  rw [hm] at m0 m1
  obtain ⟨s, hs⟩ : ∃ s, Cx.ws n z (Cx.sq n z) n = s := ⟨_, rfl⟩
  have HS := Lib.hid hs
  rw [hs] at sb
  obtain ⟨q, hq⟩ : ∃ q, Fx.isq s = q := ⟨_, rfl⟩
  have HQ := Lib.hid hq
  clear S hc h3 hm hs hq
  go_enter Try.func15, Try.ntmps15
  go_wp2_with (fail)
  refine (mean_yes a n cap z _ hS.out hC.out hn).mono ?_
  rw [HM.out]
  rintro e w1 ⟨rfl, B1⟩
  have hs1 := B1.size
  have HB1 := Lib.hid B1
  have HC2 := Lib.hid ((hS.out.later B1).later ((Below.refl w1.heap.size w1).alloc (Nat.le_refl _) (.cells #[.int .i64 m] 3)))
  have K0 : Hid ((w1.alloc (.cells #[.int .i64 m] 3)).cell? ⟨w1.heap.size, 0, none⟩ = some (.int .i64 m)) := Hp.blk_cell (Hp.blk_new _ _) rfl
  have HF : Hid (∀ i, i < n → ∀ w' : World, w1.heap.size < w'.heap.size → w'.cell? ⟨w1.heap.size, 0, none⟩ = some (.int .i64 m) → Calls Try.prog 27 #[cand z i, .pointer (some ⟨w1.heap.size, 0, none⟩)] w' fun e w'' => e = .returned (.int .i64 (Cx.sq n z i)) ∧ Below w'.heap.size w' w'') := by
    intro i hi w' hp' hv'
    have bi := H3.out i hi
    have := jit1_any (z i 0) (z i 1) (z i 2) (z i 3) (z i 4) m w1.heap.size (by omega) (by omega) (by omega) (by omega) w' hp' hv'
    unfold Cx.sq; rw [HM.out]; exact this
  have HW : Hid (∀ cc, Calls Try.prog 21 #[.slice a n cc, .func (.func 27) #[] #[.pointer (some ⟨w1.heap.size, 0, none⟩)]] (w1.alloc (.cells #[.int .i64 m] 3)) fun e w' => e = .returned (.int .i64 s) ∧ Below (w1.alloc (.cells #[.int .i64 m] 3)).heap.size (w1.alloc (.cells #[.int .i64 m] 3)) w') := by
    intro cc
    rw [← HS.out]
    exact weighted_jit w1.heap.size m (Cx.sq n z) 0 1152921504606846976 (by omega) (by omega) (by omega) (by omega) a n cc z _ HC2.out hC.out hn (fun i _ => Cx.sq_bd n z i) (by simp) K0.out HF.out
  clear B1
  go_wp2_with (first | (go_at_call 21; refine (HW.out _).mono ?_; rintro e w5 ⟨rfl, hb5⟩; have HB5 := Lib.hid hb5; have hs5 := hb5.size; clear hb5) | (go_at_call 26; refine (sqrt_at (by omega) (by omega) HQ _).mono ?_; rintro e w' ⟨rfl, rfl⟩))
  go_ret
  exact ⟨Hp.ret_int (by rw [je.out, HS.out, HQ.out]), past_below HB1.out hs1 HB5.out⟩
theorem jitter_no (a : Option Addr) (n cap : Nat) (z : Nat → Nat → Int) (w : World) (S : Cs w a n z) (h : ¬ (Cx.chk n z = 0 ∧ 0 < n)) :
    Calls Try.prog 15 #[.slice a n cap] w fun e w' => e = .returned (.int .i64 (Cx.jit n z)) ∧ Below w.heap.size w w' := by
  rw [show Cx.jit n z = 0 by unfold Cx.jit; rw [if_neg h]]
  have hS := Lib.hid S
  have hq : (Cx.meanE n z != 0) = true := by simp [meanE_no h]
  clear S h
  go_enter Try.func15, Try.ntmps15
  go_wp2_with (fail)
  refine (mean_any a n cap z _ hS.out).mono ?_
  rintro e w1 ⟨rfl, B1⟩
  have hs1 := B1.size
  have HB1 := Lib.hid B1
  clear B1
  go_wp2_with (fail)
  go_ret
  exact ⟨rfl, Below.alloc HB1.out hs1 _⟩
theorem jitter_any (a : Option Addr) (n cap : Nat) (z : Nat → Nat → Int) (w : World) (S : Cs w a n z) :
    Calls Try.prog 15 #[.slice a n cap] w fun e w' => e = .returned (.int .i64 (Cx.jit n z)) ∧ Below w.heap.size w w' := by
  by_cases h : Cx.chk n z = 0 ∧ 0 < n
  · exact jitter_yes a n cap z w S h.1 h.2
  · exact jitter_no a n cap z w S h
end Go.Proofs.Ytdnpidcchcefeaa.CxW
