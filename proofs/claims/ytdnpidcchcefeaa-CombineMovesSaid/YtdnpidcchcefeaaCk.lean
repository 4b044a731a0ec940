/- Contracts: timesyncref26.sum, apart, Mean. -/
import Derived.Test.YtdnpidcchcefeaaCj
import Derived.Test.YtdnpidcchcefeaaRm
set_option linter.unusedVariables false
set_option linter.unusedSimpArgs false
namespace Go.Proofs.Ytdnpidcchcefeaa.CxW
open Go.RowKit Rw
set_option maxHeartbeats 1000000 in
theorem apart_any (a b : Int) (a1 : -36028797018963968 ≤ a) (a2 : a ≤ 36028797018963968) (b1 : -36028797018963968 ≤ b) (b2 : b ≤ 36028797018963968) (w : World) :
    Calls Try.prog 29 #[.int .i64 a, .int .i64 b] w fun e w' => e = .returned (.int .i64 (Cx.far b a)) ∧ w = w' := by
  by_cases h : a - b < b - a
  · have H : Hid (Cx.far b a = b - a) := by show _ = _; unfold Cx.far Fx.iabs; rw [if_neg (by omega)]
    go_enter Try.func29, Try.ntmps29
    go_wp2
    go_ret
    exact ⟨Hp.ret_int (by rw [H.out]; omega), rfl⟩
  · have H : Hid (Cx.far b a = a - b) := by show _ = _; unfold Cx.far Fx.iabs; split <;> omega
    go_enter Try.func29, Try.ntmps29
    go_wp2
    go_ret
    exact ⟨Hp.ret_int (by rw [H.out]; omega), rfl⟩
theorem apart_at {a b r : Int} (a1 : -36028797018963968 ≤ a) (a2 : a ≤ 36028797018963968) (b1 : -36028797018963968 ≤ b) (b2 : b ≤ 36028797018963968) (h : Hid (Cx.far b a = r)) (w : World) :
    Calls Try.prog 29 #[.int .i64 a, .int .i64 b] w fun e w' => e = .returned (.int .i64 r) ∧ w = w' := by
  rw [← h.out]; exact apart_any a b a1 a2 b1 b2 w
theorem rmuldiv_at {a b c r : Int} (a1 : -9223372036854775808 ≤ a) (a2 : a ≤ 9223372036854775807) (b1 : -9223372036854775808 ≤ b) (b2 : b ≤ 9223372036854775807)
    (c1 : -9223372036854775808 ≤ c) (c2 : c ≤ 9223372036854775807) (h : Hid (Fx.qV c (Fx.fl (a * b) c) = r)) (k : Hid (Fx.qOk c (Fx.fl (a * b) c) = true)) (w : World) :
    Calls Try.prog 24 #[.int .i64 a, .int .i64 b, .int .i64 c] w fun e w' => e = .returned (.tuple #[.int .i64 r, .bool true]) ∧ w = w' := by
  have := FxW.rmuldiv_any a b c a1 a2 b1 b2 c1 c2 w
  rw [h.out, k.out] at this
  exact this
set_option maxHeartbeats 1000000 in
theorem rsum_at {base g cap n : Nat} {z : Nat → Nat → Int} {T : Int} (hc : Cx.chk n z = 0) (w : World) (R : Rw.Row w base (.slice (some ⟨g, 0, none⟩) n cap) (Cx.wtsN z n)) (hT : Hid (Cx.tot z n = T)) :
    Calls Try.prog 25 #[.slice (some ⟨g, 0, none⟩) n cap] w fun e w' => e = .returned (.int .i64 T) ∧ w = w' := by
  have HR := Lib.hid R; have hC := Lib.hid hc
  have hn12 := (Cx.chk_ok hc).1
  clear R hc
  go_enter Try.func25, Try.ntmps25
  go_wp2
  go_loop [4, 3] (fun c t => ∃ k : Nat, k ≤ n ∧ c = .int .i64 k ∧ t = .int .i64 (Cx.tot z k)) (fun c _ => n - (intOf c).toNat)
  case atStart => exact ⟨0, by omega, rfl, rfl⟩
  case round =>
    obtain ⟨k, hk, rfl, rfl⟩ := hrel
    by_cases hlt : k < n
    · obtain ⟨g', gc', hv, c0⟩ := row_elem HR.out (Below.refl _ _) hlt
      obtain ⟨rfl, rfl⟩ : g' = g ∧ gc' = cap := by simpa [eq_comm] using hv
      obtain ⟨t0, t1, t2⟩ := Cx.tot_bd hC.out k (by omega)
      obtain ⟨u0, u1, u2⟩ := Cx.tot_bd hC.out (k + 1) (by omega)
      have e2 : Cx.tot z (k + 1) = Cx.tot z k + Cx.wt (z k 2) := rfl
      have E2 := Lib.hid e2
      rw [e2] at u0 u1
      clear hv e2
      go_wp2
      go_round
      case rel => exact ⟨k + 1, by omega, by go_num, by rw [E2.out]⟩
      case measure => simp [intOf]; omega
    · obtain rfl : k = n := by omega
      go_wp2
      go_ret
      exact ⟨Hp.ret_int hT.out, rfl⟩
set_option maxHeartbeats 4000000 in
theorem rmean_yes (a : Option Addr) (n cap : Nat) (z : Nat → Nat → Int) (w : World) (S : Cs w a n z) (hc : Cx.chk n z = 0) (hn : 0 < n) :
    Calls Try.prog 11 #[.slice a n cap] w fun e w' => e = .returned (.tuple #[.int .i64 (Cx.mean n z), .int .i64 0]) ∧ Below w.heap.size w w' := by
  have hS := Lib.hid S; have hC := Lib.hid hc
  obtain ⟨hn12, _, h3⟩ := Cx.chk_ok hc
  have H3 := Lib.hid h3
  obtain ⟨_, _, f0, f1, _, _⟩ := h3 0 hn
  have hx : ∀ i, i < n → -9007199254740992 ≤ Cx.dif z i ∧ Cx.dif z i ≤ 9007199254740992 := fun i hi => Cx.dif_bd hc hi
  have hX := Lib.hid hx
  have me := Lib.hid (show Cx.mean n z = z 0 1 + Cx.ws n z (Cx.dif z) n by unfold Cx.mean; rw [if_pos ⟨hc, hn⟩])
  obtain ⟨_, t1, t2⟩ := Cx.tot_bd hc n (Nat.le_refl _)
  have tp := Cx.tot_pos hc hn
  obtain ⟨T, hT⟩ : ∃ T, Cx.tot z n = T := ⟨_, rfl⟩
  have HT := Lib.hid hT
  rw [hT] at t2 tp
  clear S hc h3 hx hT t1
  go_enter Try.func11, Try.ntmps11
  go_wp2_with (fail)
  refine (rcheck_any a n cap z _ hS.out).mono ?_
  rw [hC.out]
  rintro e w1 ⟨rfl, B1⟩
  have hs1 := B1.size
  have HB1 := Lib.hid B1
  have HS1 := Lib.hid (hS.out.later B1)
  clear B1
  go_wp2_with (fail)
  refine (rweights_yes a n cap z _ HS1.out hC.out).mono ?_
  rintro e w2 ⟨vw, rfl, R2, B2⟩
  have hs2 := B2.size
  have HB2 := Lib.hid B2; have HR2 := Lib.hid R2
  have HS2 := Lib.hid (HS1.out.later B2)
  obtain ⟨g, gc, rfl, _⟩ := row_elem R2 (Below.refl _ _) hn
  obtain ⟨b, o, rfl, hb, c0, c1, c2, c3, c4⟩ := HS2.out.elem hn
  have c1' : w2.cell? ⟨b, o + 1, none⟩ = some (.int .i64 (z 0 1)) := by simpa using c1
  have HC1 := Lib.hid c1'
  clear B2 R2 c0 c1 c2 c3 c4
  go_wp2_with (fail)
  clear c1'
  go_loopw [7, 6] (fun c t wr => ∃ k : Nat, k ≤ n ∧ c = .int .i64 k ∧ t = .int .i64 (z 0 1 + Cx.ws n z (Cx.dif z) k) ∧ Below w2.heap.size w2 wr) (fun c _ _ => n - (intOf c).toNat)
  case atStart => exact ⟨0, by omega, rfl, by simp [Cx.ws, Cx.sum], Below.refl _ _⟩
  case round =>
    obtain ⟨j, hj, rfl, rfl, hB⟩ := hrel
    have HB := Lib.hid hB
    by_cases hlt : j < n
    · obtain ⟨g', gc', hv, r0⟩ := row_elem HR2.out hB hlt
      obtain ⟨rfl, rfl⟩ : g' = g ∧ gc' = gc := by simpa [eq_comm] using hv
      have HRr := Lib.hid (HR2.out.later hB)
      obtain ⟨b', o', hab, hb', d0, d1, d2, d3, d4⟩ := (HS2.out.later hB).elem hlt
      obtain ⟨rfl, rfl⟩ : b' = b ∧ o' = o := by simpa [eq_comm] using hab
      have e1 : wr.cell? ⟨b', o' + 1, none⟩ = some (.int .i64 (z 0 1)) := (hB.cell (p := ⟨b', o' + 1, none⟩) hb).trans HC1.out
      obtain ⟨_, _, v0, v1, _, _⟩ := H3.out j hlt
      obtain ⟨x0, x1⟩ := hX.out j hlt
      obtain ⟨qo, q0, q1, _, _⟩ := Cx.pt_bd hC.out hlt (lo := -9007199254740992) (hi := 9007199254740992) (by omega) (by omega) (by omega) (by omega) x0 x1
      obtain ⟨s0, s1⟩ := Cx.ws_bd hC.out hn (lo := -9007199254740992) (hi := 9007199254740992) (by omega) (by omega) (by omega) (by omega) hX.out j (by omega)
      obtain ⟨u0, u1⟩ := Cx.wt_tot hC.out hlt
      rw [HT.out] at qo u1
      have qe : Fx.qV T (Fx.fl (Cx.wt (z j 2) * Cx.dif z j) T) = Cx.pt n z (Cx.dif z) j := by unfold Cx.pt; rw [HT.out]
      have SE := Lib.hid (show Cx.ws n z (Cx.dif z) (j + 1) = Cx.ws n z (Cx.dif z) j + Cx.pt n z (Cx.dif z) j from rfl)
      have ed : Cx.dif z j = z j 1 - z 0 1 := rfl
      rw [ed] at qo x0 x1
      rw [ed] at qe
      obtain ⟨f, hf⟩ : ∃ f, z 0 1 = f := ⟨_, rfl⟩
      obtain ⟨u, hu⟩ : ∃ u, Cx.wt (z j 2) = u := ⟨_, rfl⟩
      obtain ⟨y, hy⟩ : ∃ y, z j 1 = y := ⟨_, rfl⟩
      obtain ⟨Pt, hP⟩ : ∃ P, Cx.pt n z (Cx.dif z) j = P := ⟨_, rfl⟩
      obtain ⟨Sj, hSj⟩ : ∃ S, Cx.ws n z (Cx.dif z) j = S := ⟨_, rfl⟩
      have HFf := Lib.hid hf
      rw [hu, hy, hf] at qo; rw [hu, hy, hf, hP] at qe; rw [hf] at e1 f0 f1 x0 x1; rw [hy] at x0 x1 d1 v0 v1; rw [hu] at r0 u0 u1; rw [hP] at q0 q1; rw [hSj] at s0 s1; rw [hP, hSj] at SE; rw [hSj, hf]
      have QO := Lib.hid qo; have QE := Lib.hid qe
      have hjn : (0 : Nat) < n := hn
      clear hu hy hP hSj hf qo qe hB hv hab ed d0 d2 d3 d4
      go_wp2_with (fail)
      go_quiet (first | (go_at_call 25; exact Qb.same (rsum_at hC.out _ HRr.out.drewN HT)) | (go_at_call 24; exact Qb.same (rmuldiv_at (by omega) (by omega) (by omega) (by omega) (by omega) (by omega) QE QO _)))
      go_wp2_with (fail)
      go_roundw
      case rel => exact ⟨j + 1, by omega, by go_num, by rw [SE.out, Int.add_assoc], Hp.drewN HB.out _⟩
      case measure => simp [intOf]; omega
    · obtain rfl : j = n := by omega
      have hbs := hB.size
      clear hB
      go_wp2_with (fail)
      go_ret2
      exact ⟨by rw [me.out]; rfl, (HB1.out.trans (HB2.out.mono hs1)).trans (HB.out.mono (by omega))⟩
theorem rmean_no (a : Option Addr) (n cap : Nat) (z : Nat → Nat → Int) (w : World) (S : Cs w a n z) (hc : Cx.chk n z ≠ 0) :
    Calls Try.prog 11 #[.slice a n cap] w fun e w' => e = .returned (.tuple #[.int .i64 0, .int .i64 (Cx.chk n z)]) ∧ Below w.heap.size w w' := by
  have hS := Lib.hid S
  have hq : (Cx.chk n z != 0) = true := by simp [hc]
  have hC := Lib.hid hc
  clear S hc
  go_enter Try.func11, Try.ntmps11
  go_wp2_with (fail)
  refine (rcheck_any a n cap z _ hS.out).mono ?_
  rintro e w1 ⟨rfl, B1⟩
  have HB1 := Lib.hid B1
  clear B1
  go_wp2_with (fail)
  go_ret2
  exact ⟨rfl, HB1.out⟩
theorem rmean_nil (a : Option Addr) (cap : Nat) (z : Nat → Nat → Int) (w : World) (S : Cs w a 0 z) :
    Calls Try.prog 11 #[.slice a 0 cap] w fun e w' => e = .returned (.tuple #[.int .i64 0, .int .i64 14]) ∧ Below w.heap.size w w' := by
  have hS := Lib.hid S
  clear S
  go_enter Try.func11, Try.ntmps11
  go_wp2_with (fail)
  refine (rcheck_any a 0 cap z _ hS.out).mono ?_
  rw [show Cx.chk 0 z = 0 from rfl]
  rintro e w1 ⟨rfl, B1⟩
  have HB1 := Lib.hid B1
  clear B1
  go_wp2_with (fail)
  go_ret2
  exact ⟨rfl, HB1.out⟩
/-- what the reference's Mean returns -/
theorem rmean_any (a : Option Addr) (n cap : Nat) (z : Nat → Nat → Int) (w : World) (S : Cs w a n z) :
    Calls Try.prog 11 #[.slice a n cap] w fun e w' => e = .returned (.tuple #[.int .i64 (Cx.mean n z), .int .i64 (Cx.meanE n z)]) ∧ Below w.heap.size w w' := by
  by_cases hc : Cx.chk n z = 0
  · by_cases hn : 0 < n
    · rw [show Cx.meanE n z = 0 by unfold Cx.meanE; rw [if_pos hc, if_pos hn]]
      exact rmean_yes a n cap z w S hc hn
    · obtain rfl : n = 0 := by omega
      rw [show Cx.meanE 0 z = 14 from rfl, show Cx.mean 0 z = 0 from rfl]
      exact rmean_nil a cap z w S
  · rw [show Cx.meanE n z = Cx.chk n z by unfold Cx.meanE; rw [if_neg hc], show Cx.mean n z = 0 by unfold Cx.mean; rw [if_neg (fun h => hc h.1)]]
    exact rmean_no a n cap z w S hc
end Go.Proofs.Ytdnpidcchcefeaa.CxW
