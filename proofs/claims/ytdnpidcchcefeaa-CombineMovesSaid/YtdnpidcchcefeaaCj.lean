/- Contracts: combine.Dist. -/
import Derived.Test.YtdnpidcchcefeaaCi
set_option linter.unusedVariables false
set_option linter.unusedSimpArgs false
namespace Go.Proofs.Ytdnpidcchcefeaa.CxW
open Go.RowKit Rw
theorem dist_call {w : World} {y : Qb.Later w} {a b c d e m r : Int} (b1 : -4503599627370496 ≤ b) (b2 : b ≤ 4503599627370496) (m1 : -18014398509481984 ≤ m) (m2 : m ≤ 18014398509481984) (h : Hid (Cx.far b m = r)) :
    Calls Try.prog 28 #[.agg #[.int .i64 a, .int .i64 b, .int .i64 c, .int .i64 d, .int .i64 e], .int .i64 m] y.1 fun e w'' => e = .returned (.int .i64 r) ∧ ∃ y' : Qb.Later w, w'' = y'.1 := by
  rw [← h.out]
  exact Qb.call (distance_any a b c d e m b1 b2 m1 m2 _)
set_option maxHeartbeats 4000000 in
theorem dist_yes (a : Option Addr) (n cap : Nat) (z : Nat → Nat → Int) (w : World) (S : Cs w a n z) (hc : Cx.chk n z = 0) (hn : 0 < n) :
    Calls Try.prog 17 #[.slice a n cap] w fun e w' => e = .returned (.int .i64 (Cx.dist n z)) ∧ Below w.heap.size w w' := by
  have hS := Lib.hid S; have hC := Lib.hid hc
  obtain ⟨hn12, _, h3⟩ := Cx.chk_ok hc
  have H3 := Lib.hid h3
  have HFar := Lib.hid (fun i (hi : i < n) => Cx.far_bd hc hi)
  have HL := Lib.hid (Cx.leastN_bd hc hn)
  have je := Lib.hid (show Cx.dist n z = Cx.leastN z (Cx.mean n z) n by unfold Cx.dist; rw [if_pos ⟨hc, hn⟩])
  obtain ⟨m0, m1⟩ := Cx.mean_bd hc hn
  obtain ⟨m, hm⟩ : ∃ m, Cx.mean n z = m := ⟨_, rfl⟩
  have HM := Lib.hid hm
  rw [hm] at m0 m1
  obtain ⟨_, _, p0, p1, q0, q1⟩ := h3 0 hn
  obtain ⟨g0, g1⟩ := HFar.out 0 hn
  rw [hm] at g0 g1
  obtain ⟨f, hf⟩ : ∃ f, Cx.far (z 0 1) m = f := ⟨_, rfl⟩
  have HF := Lib.hid hf
  rw [hf] at g0 g1
  have L0 := Lib.hid (show Cx.leastN z m 0 = z 0 2 + f by rw [← hf]; rfl)
  clear S hc h3 hm hf
  go_enter Try.func17, Try.ntmps17
  go_wp2_with (fail)
  refine (mean_yes a n cap z _ hS.out hC.out hn).mono ?_
  rw [HM.out]
  rintro e w1 ⟨rfl, B1⟩
  have hs1 := B1.size
  have HB1 := Lib.hid B1
  have HS1 := Lib.hid (hS.out.later B1)
  obtain ⟨b, o, rfl, hb, c0, c1, c2, c3, c4⟩ := HS1.out.elem hn
  have k0 := Qb.cell (w := w1) (b := b) (o := o) (v := .int .i64 (z 0 0)) (by simpa using c0) hb
  have k1 := Qb.cell (w := w1) (b := b) (o := o + 1) (v := .int .i64 (z 0 1)) (by simpa using c1) hb
  have k2 := Qb.cell (w := w1) (b := b) (o := o + 2) (v := .int .i64 (z 0 2)) (by simpa using c2) hb
  have k3 := Qb.cell (w := w1) (b := b) (o := o + 3) (v := .int .i64 (z 0 3)) (by simpa using c3) hb
  have k4 := Qb.cell (w := w1) (b := b) (o := o + 4) (v := .int .i64 (z 0 4)) (by simpa using c4) hb
  clear B1 c0 c1 c2 c3 c4
  go_wp2_with (fail)
  refine Qb.region (by kernel_rfl) (by kernel_rfl) ?_
  repeat (go_big_quiet_step (first | (go_at_call 28; exact dist_call p0 p1 m0 m1 HF)))
  refine wpQuiet_nil ?_
  rintro _ ⟨⟨w9, hb9⟩, rfl⟩
  have H9 := Lib.hid hb9
  clear hb9 k0 k1 k2 k3 k4
  go_wp2_with (fail)
  go_loopw [27, 5] (fun c t wr => ∃ k : Nat, k ≤ n ∧ c = .int .i64 k ∧ t = .int .i64 (Cx.leastN z m k) ∧ Below w1.heap.size w1 wr) (fun c _ _ => n - (intOf c).toNat)
  case atStart => exact ⟨0, by omega, rfl, by rw [L0.out], H9.out⟩
  case round =>
    obtain ⟨k, hk, rfl, rfl, hB⟩ := hrel
    have HB := Lib.hid hB
    have hbs := hB.size
    by_cases hlt : k < n
    · obtain ⟨b', o', hab, hb', d0, d1, d2, d3, d4⟩ := (HS1.out.later hB).elem hlt
      obtain ⟨rfl, rfl⟩ : b' = b ∧ o' = o := by simpa [eq_comm] using hab
      obtain ⟨_, _, r0, r1, s0, s1⟩ := H3.out k hlt
      obtain ⟨t0, t1⟩ := HFar.out k hlt
      obtain ⟨l0, l1⟩ := HL.out k (by omega)
      rw [HM.out] at t0 t1 l0 l1
      have hln : Cx.leastN z m (k + 1) = min (Cx.leastN z m k) (z k 2 + Cx.far (z k 1) m) := rfl
      obtain ⟨u, hu⟩ : ∃ u, Cx.far (z k 1) m = u := ⟨_, rfl⟩
      have HU := Lib.hid hu
      obtain ⟨L, hL⟩ : ∃ L, Cx.leastN z m k = L := ⟨_, rfl⟩
      rw [hu] at t0 t1 hln; rw [hL] at l0 l1 hln; rw [hL]
      have HLn := Lib.hid hln
      have k0 := Qb.cell (w := wr.alloc (.cells #[.int .i64 (z k 0), .int .i64 (z k 1), .int .i64 (z k 2), .int .i64 (z k 3), .int .i64 (z k 4)] 34)) (b := wr.heap.size) (o := 0) (v := .int .i64 (z k 0)) (by simp) (by simp)
      have k1 := Qb.cell (w := wr.alloc (.cells #[.int .i64 (z k 0), .int .i64 (z k 1), .int .i64 (z k 2), .int .i64 (z k 3), .int .i64 (z k 4)] 34)) (b := wr.heap.size) (o := 1) (v := .int .i64 (z k 1)) (by simp) (by simp)
      have k2 := Qb.cell (w := wr.alloc (.cells #[.int .i64 (z k 0), .int .i64 (z k 1), .int .i64 (z k 2), .int .i64 (z k 3), .int .i64 (z k 4)] 34)) (b := wr.heap.size) (o := 2) (v := .int .i64 (z k 2)) (by simp) (by simp)
      have k3 := Qb.cell (w := wr.alloc (.cells #[.int .i64 (z k 0), .int .i64 (z k 1), .int .i64 (z k 2), .int .i64 (z k 3), .int .i64 (z k 4)] 34)) (b := wr.heap.size) (o := 3) (v := .int .i64 (z k 3)) (by simp) (by simp)
      have k4 := Qb.cell (w := wr.alloc (.cells #[.int .i64 (z k 0), .int .i64 (z k 1), .int .i64 (z k 2), .int .i64 (z k 3), .int .i64 (z k 4)] 34)) (b := wr.heap.size) (o := 4) (v := .int .i64 (z k 4)) (by simp) (by simp)
      clear hu hL hB hab hln
      go_wp2_with (fail)
      refine Qb.region (by kernel_rfl) (by kernel_rfl) ?_
      repeat (go_big_quiet_step (first | (go_at_call 28; exact dist_call r0 r1 m0 m1 HU)))
      refine wpQuiet_nil ?_
      rintro _ ⟨⟨w9, hb9⟩, rfl⟩
      have H9 := Lib.hid hb9
      clear hb9 k0 k1 k2 k3 k4
      go_wp2_with (fail)
      go_roundw
      case rel => exact ⟨k + 1, by omega, by go_num, by rw [HLn.out], past_below HB.out hbs H9.out⟩
      case measure => simp [intOf]; omega
    · obtain rfl : k = n := by omega
      clear hB
      go_wp2_with (fail)
      go_ret
      exact ⟨Hp.ret_int (by rw [je.out, HM.out]), HB1.out.trans (HB.out.mono hs1)⟩
theorem dist_no (a : Option Addr) (n cap : Nat) (z : Nat → Nat → Int) (w : World) (S : Cs w a n z) (h : ¬ (Cx.chk n z = 0 ∧ 0 < n)) :
    Calls Try.prog 17 #[.slice a n cap] w fun e w' => e = .returned (.int .i64 (Cx.dist n z)) ∧ Below w.heap.size w w' := by
  rw [show Cx.dist n z = 0 by unfold Cx.dist; rw [if_neg h]]
  have hS := Lib.hid S
  have hq : (Cx.meanE n z != 0) = true := by simp [meanE_no h]
  clear S h
  go_enter Try.func17, Try.ntmps17
  go_wp2_with (fail)
  refine (mean_any a n cap z _ hS.out).mono ?_
  rintro e w1 ⟨rfl, B1⟩
  have hs1 := B1.size
  have HB1 := Lib.hid B1
  clear B1
  go_wp2_with (fail)
  go_ret
  exact ⟨rfl, HB1.out⟩
theorem dist_any (a : Option Addr) (n cap : Nat) (z : Nat → Nat → Int) (w : World) (S : Cs w a n z) :
    Calls Try.prog 17 #[.slice a n cap] w fun e w' => e = .returned (.int .i64 (Cx.dist n z)) ∧ Below w.heap.size w w' := by
  by_cases h : Cx.chk n z = 0 ∧ 0 < n
  · exact dist_yes a n cap z w S h.1 h.2
  · exact dist_no a n cap z w S h
end Go.Proofs.Ytdnpidcchcefeaa.CxW
