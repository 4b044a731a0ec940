/- Contracts: timesyncref26.Jitter, Dist. -/
import Derived.Test.YtdnpidcchcefeaaCk
import Derived.Test.YtdnpidcchcefeaaRn
set_option linter.unusedVariables false
set_option linter.unusedSimpArgs false
namespace Go.Proofs.Ytdnpidcchcefeaa.CxW
open Go.RowKit Rw
theorem rsqrt_at {n r : Int} (h0 : 0 ≤ n) (h1 : n ≤ 9223372036854775807) (h : Hid (Fx.isq n = r)) (w : World) :
    Calls Try.prog 30 #[.int .i64 n] w fun e w' => e = .returned (.tuple #[.int .i64 r, .bool true]) ∧ w = w' := by
  rw [← h.out]; exact FxW.rsqrt_int n h0 h1 w
set_option maxHeartbeats 1000000 in
theorem rjitter_yes (a : Option Addr) (n cap : Nat) (z : Nat → Nat → Int) (w : World) (S : Cs w a n z) (hc : Cx.chk n z = 0) (hn : 0 < n) :
    Calls Try.prog 16 #[.slice a n cap] w fun e w' => e = .returned (.int .i64 (Cx.jit n z)) ∧ Below w.heap.size w w' := by
  have hS := Lib.hid S; have hC := Lib.hid hc
  obtain ⟨hn12, _, h3⟩ := Cx.chk_ok hc
  have H3 := Lib.hid h3
  have je := Lib.hid (show Cx.jit n z = Fx.isq (Cx.ws n z (Cx.sq n z) n) by unfold Cx.jit; rw [if_pos ⟨hc, hn⟩])
  have HSb := Lib.hid (Cx.sqs_bd hc hn)
  obtain ⟨_, t1, t2⟩ := Cx.tot_bd hc n (Nat.le_refl _)
  have tp := Cx.tot_pos hc hn
  obtain ⟨T, hT⟩ : ∃ T, Cx.tot z n = T := ⟨_, rfl⟩
  have HT := Lib.hid hT
  rw [hT] at t2 tp
  obtain ⟨m0, m1⟩ := Cx.mean_bd hc hn
  obtain ⟨m, hm⟩ : ∃ m, Cx.mean n z = m := ⟨_, rfl⟩
  have HM := Lib.hid hm
  rw [hm] at m0 m1
  clear S hc h3 hT t1 hm
  go_enter Try.func16, Try.ntmps16
  go_wp2_with (fail)
  refine (rmean_yes a n cap z _ hS.out hC.out hn).mono ?_
  rw [HM.out]
  rintro e w1 ⟨rfl, B1⟩
  have hs1 := B1.size
  have HB1 := Lib.hid B1
  have HS1 := Lib.hid (hS.out.later B1)
  clear B1
  go_wp2_with (fail)
  refine (rweights_yes a n cap z _ HS1.out hC.out).mono ?_
  rintro e w2 ⟨vw, rfl, R2, B2⟩
  have hs2 := B2.size
  have HB2 := Lib.hid B2; have HR2 := Lib.hid R2
  have HS2 := Lib.hid (HS1.out.later B2)
  obtain ⟨g, gc, rfl, _⟩ := row_elem R2 (Below.refl _ _) hn
  clear B2 R2
  go_wp2_with (fail)
  go_loopw [7, 6] (fun c t wr => ∃ k : Nat, k ≤ n ∧ c = .int .i64 k ∧ t = .int .i64 (Cx.ws n z (Cx.sq n z) k) ∧ Below w2.heap.size w2 wr) (fun c _ _ => n - (intOf c).toNat)
  case atStart => exact ⟨0, by omega, rfl, rfl, Below.refl _ _⟩
  case round =>
    obtain ⟨j, hj, rfl, rfl, hB⟩ := hrel
    have HB := Lib.hid hB
    by_cases hlt : j < n
    · obtain ⟨g', gc', hv, r0⟩ := row_elem HR2.out hB hlt
      obtain ⟨rfl, rfl⟩ : g' = g ∧ gc' = gc := by simpa [eq_comm] using hv
      have HRr := Lib.hid (HR2.out.later hB)
      obtain ⟨b, o, rfl, hb, d0, d1, d2, d3, d4⟩ := (HS2.out.later hB).elem hlt
      obtain ⟨_, _, v0, v1, _, _⟩ := H3.out j hlt
      obtain ⟨x0, x1⟩ := Cx.sq_bd n z j
      have qall := Cx.pt_bd hC.out hlt (lo := 0) (hi := 1152921504606846976) (by omega) (by omega) (by omega) (by omega) x0 x1
      have qo := qall.1; have q0 := qall.2.1; have q1 := qall.2.2.1
      clear qall
      obtain ⟨s0, s1⟩ := HSb.out j (by omega)
      obtain ⟨s2, s3⟩ := HSb.out (j + 1) (by omega)
      obtain ⟨u0, u1⟩ := Cx.wt_tot hC.out hlt
      rw [HT.out] at qo u1
      have qe : Fx.qV T (Fx.fl (Cx.wt (z j 2) * Cx.sq n z j) T) = Cx.pt n z (Cx.sq n z) j := by unfold Cx.pt; rw [HT.out]
      have se : Cx.ws n z (Cx.sq n z) (j + 1) = Cx.ws n z (Cx.sq n z) j + Cx.pt n z (Cx.sq n z) j := rfl
      have sqe : Cx.sq n z j = min (Cx.far (z j 1) m) 1073741824 * min (Cx.far (z j 1) m) 1073741824 := by unfold Cx.sq; rw [HM.out]; rfl
      rw [sqe] at qo qe x0 x1
      rw [se] at s2 s3
      obtain ⟨u, hu⟩ : ∃ u, Cx.wt (z j 2) = u := ⟨_, rfl⟩
      obtain ⟨y, hy⟩ : ∃ y, z j 1 = y := ⟨_, rfl⟩
      obtain ⟨Pt, hP⟩ : ∃ P, Cx.pt n z (Cx.sq n z) j = P := ⟨_, rfl⟩
      obtain ⟨Sj, hSj⟩ : ∃ S, Cx.ws n z (Cx.sq n z) j = S := ⟨_, rfl⟩
      have g0 : 0 ≤ Cx.far y m := Fx.iabs_nonneg _
      rw [hu, hy] at qo; rw [hu, hy, hP] at qe; rw [hy] at x0 x1 d1 v0 v1; rw [hu] at r0 u0 u1; rw [hP] at q0 q1; rw [hSj] at s0 s1; rw [hP, hSj] at se s2 s3; rw [hSj]
      obtain ⟨r, hr⟩ : ∃ r, Cx.far y m = r := ⟨_, rfl⟩
      have HRf : Hid (Cx.far m y = r) := by show _ = _; rw [← hr]; unfold Cx.far Fx.iabs; split <;> split <;> omega
      rw [hr] at g0 qo qe x0 x1
      have SE := Lib.hid se
      clear hu hy hP hSj hr hB hv d0 d2 d3 d4 sqe se
      have QO := Lib.hid qo; have QE := Lib.hid qe; have X0 := Lib.hid x0; have X1 := Lib.hid x1; have S2 := Lib.hid s2; have S3 := Lib.hid s3; have Q0 := Lib.hid q0; have Q1 := Lib.hid q1; have S0 := Lib.hid s0; have S1 := Lib.hid s1
      clear qo qe x0 x1 s0 s1 s2 s3 q0 q1
      go_wp2_with (go_at_call 29; refine (apart_at (by omega) (by omega) (by omega) (by omega) HRf _).mono ?_; rintro e w' ⟨rfl, rfl⟩)
      have x0 := X0.out; have x1 := X1.out
      go_quiet (first | (go_at_call 25; exact Qb.same (rsum_at hC.out _ HRr.out.drewN HT)) | (go_at_call 24; exact Qb.same (rmuldiv_at (by omega) (by omega) (by omega) (by omega) (by omega) (by omega) QE QO _)))
      clear x0 x1
      have s2 := S2.out; have s3 := S3.out
      go_wp2_with (fail)
      go_roundw
      case rel => exact ⟨j + 1, by omega, by go_num, by rw [SE.out], Hp.drewN HB.out _⟩
      case measure => simp [intOf]; omega
    · obtain rfl : j = n := by omega
      have hbs := hB.size
      obtain ⟨s0, s1⟩ := HSb.out j (Nat.le_refl _)
      obtain ⟨Sj, hSj⟩ : ∃ S, Cx.ws j z (Cx.sq j z) j = S := ⟨_, rfl⟩
      rw [hSj] at s0 s1; rw [hSj]
      obtain ⟨q, hq⟩ : ∃ q, Fx.isq Sj = q := ⟨_, rfl⟩
      have HQ := Lib.hid hq; have HSj := Lib.hid hSj
      clear hB hq hSj
      go_wp2_with (go_at_call 30; refine (rsqrt_at (by omega) (by omega) HQ _).mono ?_; rintro e w' ⟨rfl, rfl⟩)
      go_ret
      exact ⟨Hp.ret_int (by rw [je.out, HSj.out, HQ.out]), (HB1.out.trans (HB2.out.mono hs1)).trans (HB.out.mono (by omega))⟩
theorem rjitter_no (a : Option Addr) (n cap : Nat) (z : Nat → Nat → Int) (w : World) (S : Cs w a n z) (h : ¬ (Cx.chk n z = 0 ∧ 0 < n)) :
    Calls Try.prog 16 #[.slice a n cap] w fun e w' => e = .returned (.int .i64 (Cx.jit n z)) ∧ Below w.heap.size w w' := by
  rw [show Cx.jit n z = 0 by unfold Cx.jit; rw [if_neg h]]
  have hS := Lib.hid S
  have hq : (Cx.meanE n z != 0) = true := by simp [meanE_no h]
  clear S h
  go_enter Try.func16, Try.ntmps16
  go_wp2_with (fail)
  refine (rmean_any a n cap z _ hS.out).mono ?_
  rintro e w1 ⟨rfl, B1⟩
  have HB1 := Lib.hid B1
  clear B1
  go_wp2_with (fail)
  go_ret
  exact ⟨rfl, HB1.out⟩
theorem rjitter_any (a : Option Addr) (n cap : Nat) (z : Nat → Nat → Int) (w : World) (S : Cs w a n z) :
    Calls Try.prog 16 #[.slice a n cap] w fun e w' => e = .returned (.int .i64 (Cx.jit n z)) ∧ Below w.heap.size w w' := by
  by_cases h : Cx.chk n z = 0 ∧ 0 < n
  · exact rjitter_yes a n cap z w S h.1 h.2
  · exact rjitter_no a n cap z w S h
set_option maxHeartbeats 4000000 in
theorem rdist_yes (a : Option Addr) (n cap : Nat) (z : Nat → Nat → Int) (w : World) (S : Cs w a n z) (hc : Cx.chk n z = 0) (hn : 0 < n) :
    Calls Try.prog 18 #[.slice a n cap] w fun e w' => e = .returned (.int .i64 (Cx.dist n z)) ∧ Below w.heap.size w w' := by
  have hS := Lib.hid S; have hC := Lib.hid hc
  obtain ⟨hn12, _, h3⟩ := Cx.chk_ok hc
  have H3 := Lib.hid h3
  have HFar := Lib.hid (fun i (hi : i < n) => Cx.far_bd hc hi)
  have HL := Lib.hid (Cx.leastN_bd hc hn)
  have je := Lib.hid (show Cx.dist n z = Cx.leastN z (Cx.mean n z) n by unfold Cx.dist; rw [if_pos ⟨hc, hn⟩])
  obtain ⟨m0, m1⟩ := Cx.mean_bd hc hn
  obtain ⟨m, hm⟩ : ∃ m, Cx.mean n z = m := ⟨_, rfl⟩
  have HM := Lib.hid hm
  rw [hm] at m0 m1
  obtain ⟨_, _, p0, p1, q0, q1⟩ := h3 0 hn
  obtain ⟨g0, g1⟩ := HFar.out 0 hn
  rw [hm] at g0 g1
  obtain ⟨f, hf⟩ : ∃ f, Cx.far (z 0 1) m = f := ⟨_, rfl⟩
  have HF := Lib.hid hf
  rw [hf] at g0 g1
  have L0 := Lib.hid (show Cx.leastN z m 0 = z 0 2 + f by rw [← hf]; rfl)
  clear S hc h3 hm hf
  go_enter Try.func18, Try.ntmps18
  go_wp2_with (fail)
  refine (rmean_yes a n cap z _ hS.out hC.out hn).mono ?_
  rw [HM.out]
  rintro e w1 ⟨rfl, B1⟩
  have hs1 := B1.size
  have HB1 := Lib.hid B1
  have HS1 := Lib.hid (hS.out.later B1)
  obtain ⟨b, o, rfl, hb, c0, c1, c2, c3, c4⟩ := HS1.out.elem hn
  have c1' : w1.cell? ⟨b, o + 1, none⟩ = some (.int .i64 (z 0 1)) := by simpa using c1
  have c2' : w1.cell? ⟨b, o + 2, none⟩ = some (.int .i64 (z 0 2)) := by simpa using c2
  clear B1 c0 c1 c2 c3 c4
  go_wp2_with (fail)
  go_quiet (first | (go_at_call 29; exact Qb.same (apart_at (by omega) (by omega) (by omega) (by omega) HF _)))
  clear c1' c2'
  go_wp2_with (fail)
  go_loopw [6, 5] (fun c t wr => ∃ k : Nat, k ≤ n ∧ c = .int .i64 k ∧ t = .int .i64 (Cx.leastN z m k) ∧ Below w1.heap.size w1 wr) (fun c _ _ => n - (intOf c).toNat)
  case atStart => exact ⟨0, by omega, rfl, by rw [L0.out], Hp.drewN (Below.refl _ _) _⟩
  case round =>
    obtain ⟨k, hk, rfl, rfl, hB⟩ := hrel
    have HB := Lib.hid hB
    have hbs := hB.size
    by_cases hlt : k < n
    · obtain ⟨b', o', hab, hb', d0, d1, d2, d3, d4⟩ := (HS1.out.later hB).elem hlt
      obtain ⟨rfl, rfl⟩ : b' = b ∧ o' = o := by simpa [eq_comm] using hab
      obtain ⟨_, _, r0, r1, s0, s1⟩ := H3.out k hlt
      obtain ⟨t0, t1⟩ := HFar.out k hlt
      obtain ⟨l0, l1⟩ := HL.out k (by omega)
      rw [HM.out] at t0 t1 l0 l1
      have hln : Cx.leastN z m (k + 1) = min (Cx.leastN z m k) (z k 2 + Cx.far (z k 1) m) := rfl
      obtain ⟨u, hu⟩ : ∃ u, Cx.far (z k 1) m = u := ⟨_, rfl⟩
      have HU := Lib.hid hu
      obtain ⟨L, hL⟩ : ∃ L, Cx.leastN z m k = L := ⟨_, rfl⟩
      rw [hu] at t0 t1 hln; rw [hL] at l0 l1 hln; rw [hL]
      have HLn := Lib.hid hln
      clear hu hL hB hab hln d0 d3 d4
      go_wp2_with (fail)
      go_quiet (first | (go_at_call 29; exact Qb.same (apart_at (by omega) (by omega) (by omega) (by omega) HU _)))
      go_wp2_with (fail)
      go_roundw
      case rel => exact ⟨k + 1, by omega, by go_num, by rw [HLn.out], Hp.drewN HB.out _⟩
      case measure => simp [intOf]; omega
    · obtain rfl : k = n := by omega
      clear hB
      go_wp2_with (fail)
      go_ret
      exact ⟨Hp.ret_int (by rw [je.out, HM.out]), HB1.out.trans (HB.out.mono hs1)⟩
theorem rdist_no (a : Option Addr) (n cap : Nat) (z : Nat → Nat → Int) (w : World) (S : Cs w a n z) (h : ¬ (Cx.chk n z = 0 ∧ 0 < n)) :
    Calls Try.prog 18 #[.slice a n cap] w fun e w' => e = .returned (.int .i64 (Cx.dist n z)) ∧ Below w.heap.size w w' := by
  rw [show Cx.dist n z = 0 by unfold Cx.dist; rw [if_neg h]]
  have hS := Lib.hid S
  have hq : (Cx.meanE n z != 0) = true := by simp [meanE_no h]
  clear S h
  go_enter Try.func18, Try.ntmps18
  go_wp2_with (fail)
  refine (rmean_any a n cap z _ hS.out).mono ?_
  rintro e w1 ⟨rfl, B1⟩
  have HB1 := Lib.hid B1
  clear B1
  go_wp2_with (fail)
  go_ret
  exact ⟨rfl, HB1.out⟩
theorem rdist_any (a : Option Addr) (n cap : Nat) (z : Nat → Nat → Int) (w : World) (S : Cs w a n z) :
    Calls Try.prog 18 #[.slice a n cap] w fun e w' => e = .returned (.int .i64 (Cx.dist n z)) ∧ Below w.heap.size w w' := by
  by_cases h : Cx.chk n z = 0 ∧ 0 < n
  · exact rdist_yes a n cap z w S h.1 h.2
  · exact rdist_no a n cap z w S h
end Go.Proofs.Ytdnpidcchcefeaa.CxW
