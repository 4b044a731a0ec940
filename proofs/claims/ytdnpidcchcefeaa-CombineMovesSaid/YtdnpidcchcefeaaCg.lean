/- Contracts: combine.distance, the closures, weighted. -/
import Derived.Test.YtdnpidcchcefeaaCe
import Derived.Test.YtdnpidcchcefeaaCp
import Derived.Test.YtdnpidcchcefeaaFm
set_option linter.unusedVariables false
set_option linter.unusedSimpArgs false
namespace Go.Proofs.Ytdnpidcchcefeaa.CxW
open Go.RowKit Rw
/-- a candidate by value -/
def cand (z : Nat → Nat → Int) (i : Nat) : Value := .agg #[.int .i64 (z i 0), .int .i64 (z i 1), .int .i64 (z i 2), .int .i64 (z i 3), .int .i64 (z i 4)]
theorem abs_at {a r : Int} (a1 : -4611686018427387904 ≤ a) (a2 : a ≤ 4611686018427387904) (h : Hid (Fx.iabs a = r)) (w : World) :
    Calls Try.prog 38 #[.int .i64 a] w fun e w' => e = .returned (.tuple #[.int .i64 r, .bool true]) ∧ w = w' := by
  have hb := Fx.iabs_bd a (by omega) (by omega)
  have hb2 : Fx.iabs a ≤ 4611686018427387904 := by unfold Fx.iabs; split <;> omega
  have k : Fx.fitOk (Fx.iabs a) = true := Fx.fitOk_true (by omega) (by omega)
  have := FxW.abs_any a (by omega) (by omega) w
  rw [Fx.fitV_of k, k, h.out] at this
  exact this
set_option maxHeartbeats 1000000 in
theorem distance_any (a b c d e m : Int) (b1 : -4503599627370496 ≤ b) (b2 : b ≤ 4503599627370496) (m1 : -18014398509481984 ≤ m) (m2 : m ≤ 18014398509481984) (w : World) :
    Calls Try.prog 28 #[.agg #[.int .i64 a, .int .i64 b, .int .i64 c, .int .i64 d, .int .i64 e], .int .i64 m] w fun e w' => e = .returned (.int .i64 (Cx.far b m)) ∧ Below w.heap.size w w' := by
  obtain ⟨r, hr⟩ : ∃ r, Fx.iabs (b - m) = r := ⟨_, rfl⟩
  have hR : Hid (Fx.iabs (b - m) = r) := hr
  have hR2 : Hid (r = Cx.far b m) := hr.symm
  clear hr
  go_enter Try.func28, Try.ntmps28
  go_wp2_with (go_at_call 38; refine (abs_at (by omega) (by omega) hR _).mono ?_; rintro e w' ⟨rfl, rfl⟩)
  go_ret
  exact ⟨Hp.ret_int hR2.out, by (repeat (first | exact Below.refl _ _ | refine Below.drew ?_ | refine Hp.drewN ?_ _ | refine Below.setCell ?_ (by first | (simp; done) | (simp; omega) | omega) _ | refine Below.alloc ?_ (by first | (simp; done) | (simp; omega) | omega) _ | (refine Hp.step ?_ (by assumption))))⟩
set_option maxHeartbeats 1000000 in
theorem mean1_any (a b c d e v : Int) (p : Nat) (b1 : -4503599627370496 ≤ b) (b2 : b ≤ 4503599627370496) (m1 : -18014398509481984 ≤ v) (m2 : v ≤ 18014398509481984) (w : World) (hp : p < w.heap.size) (hv : w.cell? ⟨p, 0, none⟩ = some (.int .i64 v)) :
    Calls Try.prog 22 #[.agg #[.int .i64 a, .int .i64 b, .int .i64 c, .int .i64 d, .int .i64 e], .pointer (some ⟨p, 0, none⟩)] w fun e w' => e = .returned (.int .i64 (b - v)) ∧ Below w.heap.size w w' := by
  go_enter Try.func22, Try.ntmps22
  go_wp2
  go_ret
  exact ⟨rfl, by (repeat (first | exact Below.refl _ _ | refine Below.drew ?_ | refine Hp.drewN ?_ _ | refine Below.setCell ?_ (by first | (simp; done) | (simp; omega) | omega) _ | refine Below.alloc ?_ (by first | (simp; done) | (simp; omega) | omega) _ | (refine Hp.step ?_ (by assumption))))⟩
set_option maxHeartbeats 1000000 in
theorem jit1_any (a b c d e v : Int) (p : Nat) (b1 : -4503599627370496 ≤ b) (b2 : b ≤ 4503599627370496) (m1 : -18014398509481984 ≤ v) (m2 : v ≤ 18014398509481984) (w : World) (hp : p < w.heap.size) (hv : w.cell? ⟨p, 0, none⟩ = some (.int .i64 v)) :
    Calls Try.prog 27 #[.agg #[.int .i64 a, .int .i64 b, .int .i64 c, .int .i64 d, .int .i64 e], .pointer (some ⟨p, 0, none⟩)] w fun e w' => e = .returned (.int .i64 (Cx.near b v * Cx.near b v)) ∧ Below w.heap.size w w' := by
  have nb := Cx.near_bd b v
  have hb2 : Cx.near b v * Cx.near b v ≤ 1152921504606846976 := by have := Int.mul_le_mul nb.2 nb.2 nb.1 (by omega); omega
  have hb1 : 0 ≤ Cx.near b v * Cx.near b v := Int.mul_nonneg nb.1 nb.1
  have hw : Hid (wrap64 (min (Cx.far b v) 1073741824 * min (Cx.far b v) 1073741824) = Cx.near b v * Cx.near b v) := by show wrap64 (Cx.near b v * Cx.near b v) = _; unfold wrap64; omega
  clear nb hb1 hb2
  go_enter Try.func27, Try.ntmps27
  go_wp2_with (go_at_call 28; refine (distance_any _ _ _ _ _ _ (by omega) (by omega) (by omega) (by omega) _).mono ?_; rintro e w5 ⟨rfl, hb5⟩; obtain ⟨hc5, hf5⟩ := Hp.bcell hb5; have hs5 := hb5.size; (try simp at hs5))
  go_ret
  exact ⟨Hp.ret_int hw.out, by (repeat (first | exact Below.refl _ _ | refine Below.drew ?_ | refine Hp.drewN ?_ _ | refine Below.setCell ?_ (by first | (simp; done) | (simp; omega) | omega) _ | refine Below.alloc ?_ (by first | (simp; done) | (simp; omega) | omega) _ | (refine Hp.step ?_ (by assumption))))⟩
theorem muldiv_at {a b c r : Int} (a1 : -9223372036854775808 ≤ a) (a2 : a ≤ 9223372036854775807) (b1 : -9223372036854775808 ≤ b) (b2 : b ≤ 9223372036854775807)
    (c1 : -9223372036854775808 ≤ c) (c2 : c ≤ 9223372036854775807) (h : Hid (Fx.qV c (Fx.fl (a * b) c) = r)) (k : Hid (Fx.qOk c (Fx.fl (a * b) c) = true)) (w : World) :
    Calls Try.prog 32 #[.int .i64 a, .int .i64 b, .int .i64 c] w fun e w' => e = .returned (.tuple #[.int .i64 r, .bool true]) ∧ ∃ n, w' = w.drewN n := by
  have := FxW.muldiv_any a b c a1 a2 b1 b2 c1 c2 w
  rw [h.out, k.out] at this
  exact this
theorem row_elem {w w' : World} {n : Nat} {z : Nat → Nat → Int} {base : Nat} {v : Value} (R : Rw.Row w base v (Cx.wtsN z n)) (k : Below w.heap.size w w') {i : Nat} (hi : i < n) :
    ∃ g cap, v = .slice (some ⟨g, 0, none⟩) n cap ∧ w'.cell? ⟨g, i, none⟩ = some (.int .i64 (Cx.wt (z i 2))) := by
  obtain ⟨g, cap, hv, _, hl, hc⟩ := R.elem (i := i) (by rw [Cx.wtsN_len]; exact hi)
  rw [Cx.wtsN_len] at hv
  rw [Cx.wtsN_get z hi] at hc
  exact ⟨g, cap, hv, (k.cell (p := ⟨g, i, none⟩) hl).trans hc⟩
set_option maxHeartbeats 4000000 in
theorem weighted_mean (p : Nat) (v : Int) (x : Nat → Int) (lo hi : Int) (l0 : lo ≤ 0) (h0 : 0 ≤ hi) (l1 : -1152921504606846976 ≤ lo) (h1 : hi ≤ 1152921504606846976)
    (a : Option Addr) (n cap : Nat) (z : Nat → Nat → Int) (w : World) (S : Cs w a n z) (hc : Cx.chk n z = 0) (hn : 0 < n) (hx : ∀ i, i < n → lo ≤ x i ∧ x i ≤ hi)
    (hp : p < w.heap.size) (hv : w.cell? ⟨p, 0, none⟩ = some (.int .i64 v))
    (hF : ∀ i, i < n → ∀ w' : World, p < w'.heap.size → w'.cell? ⟨p, 0, none⟩ = some (.int .i64 v) → Calls Try.prog 22 #[cand z i, .pointer (some ⟨p, 0, none⟩)] w' fun e w'' => e = .returned (.int .i64 (x i)) ∧ Below w'.heap.size w' w'') :
    Calls Try.prog 21 #[.slice a n cap, .func (.func 22) #[] #[.pointer (some ⟨p, 0, none⟩)]] w fun e w' => e = .returned (.int .i64 (Cx.ws n z x n)) ∧ Below w.heap.size w w' := by
  have hS := Lib.hid S; have hC := Lib.hid hc; have hX := Lib.hid hx; have hV := Lib.hid hv; have hFF := Lib.hid hF
  have hn12 := (Cx.chk_ok hc).1
  clear S hc hx hv hF
  go_enter Try.func21, Try.ntmps21
  go_wp2_with (fail)
  refine (weights_yes a n cap z _ hS.out hC.out).mono ?_
  rintro e w1 ⟨vw, rfl, R1, B1⟩
  have hs1 := B1.size
  have HB1 := Lib.hid B1; have HR1 := Lib.hid R1
  obtain ⟨g, gc, rfl, _⟩ := row_elem R1 (Below.refl _ _) hn
  clear B1 R1
  go_wp2_with (fail)
  go_loopw [18, 6] (fun c t wr => ∃ k : Nat, k ≤ n ∧ c = .int .i64 k ∧ t = .int .i64 (Cx.tot z k) ∧ w1 = wr) (fun c _ _ => n - (intOf c).toNat)
  case atStart => exact ⟨0, by omega, rfl, rfl, rfl⟩
  case round =>
    obtain ⟨k, hk, rfl, rfl, rfl⟩ := hrel
    by_cases hlt : k < n
    · obtain ⟨g', gc', hv, c0⟩ := row_elem HR1.out (Below.refl _ _) hlt
      obtain ⟨rfl, rfl⟩ : g' = g ∧ gc' = gc := by simpa [eq_comm] using hv
      obtain ⟨t0, t1, t2⟩ := Cx.tot_bd hC.out k (by omega)
      obtain ⟨u0, u1, u2⟩ := Cx.tot_bd hC.out (k + 1) (by omega)
      have e2 : Cx.tot z (k + 1) = Cx.tot z k + Cx.wt (z k 2) := rfl
      have E2 := Lib.hid e2
      rw [e2] at u0 u1
      clear hv e2
      go_wp2_with (fail)
      go_roundw
      case rel => exact ⟨k + 1, by omega, by go_num, by rw [E2.out], by first | rfl | trivial⟩
      case measure => simp [intOf]; omega
    · obtain rfl : k = n := by omega
      obtain ⟨t0, t1, t2⟩ := Cx.tot_bd hC.out k (by omega)
      have tp := Cx.tot_pos hC.out hn
      obtain ⟨T, hT⟩ : ∃ T, Cx.tot z k = T := ⟨_, rfl⟩
      rw [hT] at t0 t1 t2 tp ⊢
      have HT := Lib.hid hT
      clear hT
      go_wp2_with (fail)
      go_loopw [28, 9] (fun c t wx => ∃ j : Nat, j ≤ k ∧ c = .int .i64 j ∧ t = .int .i64 (Cx.ws k z x j) ∧ Below w1.heap.size w1 wx) (fun c _ _ => k - (intOf c).toNat)
      case atStart => exact ⟨0, by omega, rfl, rfl, Below.refl _ _⟩
      case round =>
        obtain ⟨j, hj, rfl, rfl, hB⟩ := hrel
        have HB := Lib.hid hB
        have hbs := hB.size
        by_cases hlt2 : j < k
        · obtain ⟨g', gc', hv, c0⟩ := row_elem HR1.out hB hlt2
          obtain ⟨rfl, rfl⟩ : g' = g ∧ gc' = gc := by simpa [eq_comm] using hv
          obtain ⟨b, o, rfl, hb, d0, d1, d2, d3, d4⟩ := ((hS.out.later HB1.out).later hB).elem hlt2
          have cv : wr.cell? ⟨p, 0, none⟩ = some (.int .i64 v) := (hB.cell (p := ⟨p, 0, none⟩) (show p < w1.heap.size by omega)).trans ((HB1.out.cell (p := ⟨p, 0, none⟩) hp).trans hV.out)
          have CV := Lib.hid cv
          obtain ⟨x0, x1⟩ := hX.out j hlt2
          obtain ⟨qo, q0, q1, _, _⟩ := Cx.pt_bd hC.out hlt2 l0 h0 (by omega) (by omega) x0 x1
          obtain ⟨s0, s1⟩ := Cx.ws_bd hC.out hn l0 h0 (by omega) (by omega) hX.out j (by omega)
          obtain ⟨u0, u1⟩ := Cx.wt_tot hC.out hlt2
          rw [HT.out] at qo u1
          have FF := Lib.hid (hFF.out j hlt2)
          have QO := Lib.hid qo
          have PE := Lib.hid (show Fx.qV T (Fx.fl (Cx.wt (z j 2) * x j) T) = Cx.pt k z x j by unfold Cx.pt; rw [HT.out])
          have SE := Lib.hid (show Cx.ws k z x (j + 1) = Cx.ws k z x j + Cx.pt k z x j from rfl)
          obtain ⟨u, hu⟩ : ∃ u, Cx.wt (z j 2) = u := ⟨_, rfl⟩
          obtain ⟨X, hX'⟩ : ∃ X, x j = X := ⟨_, rfl⟩
          obtain ⟨Pt, hP⟩ : ∃ P, Cx.pt k z x j = P := ⟨_, rfl⟩
          obtain ⟨Sj, hSj⟩ : ∃ S, Cx.ws k z x j = S := ⟨_, rfl⟩
          rw [hu, hX'] at QO; rw [hu, hX', hP] at PE; rw [hX'] at FF x0 x1; rw [hu] at c0 u0 u1; rw [hP] at q0 q1; rw [hSj] at s0 s1; rw [hP, hSj] at SE; rw [hSj]
          clear hu hX' hP hSj qo cv hB hv
          go_wp2_with (first | (go_at_call 32; refine (muldiv_at (by omega) (by omega) (by omega) (by omega) (by omega) (by omega) PE QO _).mono ?_; rintro e w' ⟨rfl, nq, rfl⟩) | (go_at_call 22; refine (FF.out _ (by omega) CV.out).mono ?_; rintro e w5 ⟨rfl, hb5⟩; have HB5 := Lib.hid hb5; have hs5 := hb5.size; clear hb5))
          go_roundw
          case rel => exact ⟨j + 1, by omega, by go_num, by rw [SE.out], Hp.drewN (HB.out.trans (HB5.out.mono hbs)) _⟩
          case measure => simp [intOf]; omega
        · obtain rfl : j = k := by omega
          clear hB
          go_wp2_with (fail)
          go_ret
          exact ⟨rfl, HB1.out.trans (HB.out.mono hs1)⟩
set_option maxHeartbeats 4000000 in
theorem weighted_jit (p : Nat) (v : Int) (x : Nat → Int) (lo hi : Int) (l0 : lo ≤ 0) (h0 : 0 ≤ hi) (l1 : -1152921504606846976 ≤ lo) (h1 : hi ≤ 1152921504606846976)
    (a : Option Addr) (n cap : Nat) (z : Nat → Nat → Int) (w : World) (S : Cs w a n z) (hc : Cx.chk n z = 0) (hn : 0 < n) (hx : ∀ i, i < n → lo ≤ x i ∧ x i ≤ hi)
    (hp : p < w.heap.size) (hv : w.cell? ⟨p, 0, none⟩ = some (.int .i64 v))
    (hF : ∀ i, i < n → ∀ w' : World, p < w'.heap.size → w'.cell? ⟨p, 0, none⟩ = some (.int .i64 v) → Calls Try.prog 27 #[cand z i, .pointer (some ⟨p, 0, none⟩)] w' fun e w'' => e = .returned (.int .i64 (x i)) ∧ Below w'.heap.size w' w'') :
    Calls Try.prog 21 #[.slice a n cap, .func (.func 27) #[] #[.pointer (some ⟨p, 0, none⟩)]] w fun e w' => e = .returned (.int .i64 (Cx.ws n z x n)) ∧ Below w.heap.size w w' := by
  have hS := Lib.hid S; have hC := Lib.hid hc; have hX := Lib.hid hx; have hV := Lib.hid hv; have hFF := Lib.hid hF
  have hn12 := (Cx.chk_ok hc).1
  clear S hc hx hv hF
  go_enter Try.func21, Try.ntmps21
  go_wp2_with (fail)
  refine (weights_yes a n cap z _ hS.out hC.out).mono ?_
  rintro e w1 ⟨vw, rfl, R1, B1⟩
  have hs1 := B1.size
  have HB1 := Lib.hid B1; have HR1 := Lib.hid R1
  obtain ⟨g, gc, rfl, _⟩ := row_elem R1 (Below.refl _ _) hn
  clear B1 R1
  go_wp2_with (fail)
  go_loopw [18, 6] (fun c t wr => ∃ k : Nat, k ≤ n ∧ c = .int .i64 k ∧ t = .int .i64 (Cx.tot z k) ∧ w1 = wr) (fun c _ _ => n - (intOf c).toNat)
  case atStart => exact ⟨0, by omega, rfl, rfl, rfl⟩
  case round =>
    obtain ⟨k, hk, rfl, rfl, rfl⟩ := hrel
    by_cases hlt : k < n
    · obtain ⟨g', gc', hv, c0⟩ := row_elem HR1.out (Below.refl _ _) hlt
      obtain ⟨rfl, rfl⟩ : g' = g ∧ gc' = gc := by simpa [eq_comm] using hv
      obtain ⟨t0, t1, t2⟩ := Cx.tot_bd hC.out k (by omega)
      obtain ⟨u0, u1, u2⟩ := Cx.tot_bd hC.out (k + 1) (by omega)
      have e2 : Cx.tot z (k + 1) = Cx.tot z k + Cx.wt (z k 2) := rfl
      have E2 := Lib.hid e2
      rw [e2] at u0 u1
      clear hv e2
      go_wp2_with (fail)
      go_roundw
      case rel => exact ⟨k + 1, by omega, by go_num, by rw [E2.out], by first | rfl | trivial⟩
      case measure => simp [intOf]; omega
    · obtain rfl : k = n := by omega
      obtain ⟨t0, t1, t2⟩ := Cx.tot_bd hC.out k (by omega)
      have tp := Cx.tot_pos hC.out hn
      obtain ⟨T, hT⟩ : ∃ T, Cx.tot z k = T := ⟨_, rfl⟩
      rw [hT] at t0 t1 t2 tp ⊢
      have HT := Lib.hid hT
      clear hT
      go_wp2_with (fail)
      go_loopw [28, 9] (fun c t wx => ∃ j : Nat, j ≤ k ∧ c = .int .i64 j ∧ t = .int .i64 (Cx.ws k z x j) ∧ Below w1.heap.size w1 wx) (fun c _ _ => k - (intOf c).toNat)
      case atStart => exact ⟨0, by omega, rfl, rfl, Below.refl _ _⟩
      case round =>
        obtain ⟨j, hj, rfl, rfl, hB⟩ := hrel
        have HB := Lib.hid hB
        have hbs := hB.size
        by_cases hlt2 : j < k
        · obtain ⟨g', gc', hv, c0⟩ := row_elem HR1.out hB hlt2
          obtain ⟨rfl, rfl⟩ : g' = g ∧ gc' = gc := by simpa [eq_comm] using hv
          obtain ⟨b, o, rfl, hb, d0, d1, d2, d3, d4⟩ := ((hS.out.later HB1.out).later hB).elem hlt2
          have cv : wr.cell? ⟨p, 0, none⟩ = some (.int .i64 v) := (hB.cell (p := ⟨p, 0, none⟩) (show p < w1.heap.size by omega)).trans ((HB1.out.cell (p := ⟨p, 0, none⟩) hp).trans hV.out)
          have CV := Lib.hid cv
          obtain ⟨x0, x1⟩ := hX.out j hlt2
          obtain ⟨qo, q0, q1, _, _⟩ := Cx.pt_bd hC.out hlt2 l0 h0 (by omega) (by omega) x0 x1
          obtain ⟨s0, s1⟩ := Cx.ws_bd hC.out hn l0 h0 (by omega) (by omega) hX.out j (by omega)
          obtain ⟨u0, u1⟩ := Cx.wt_tot hC.out hlt2
          rw [HT.out] at qo u1
          have FF := Lib.hid (hFF.out j hlt2)
          have QO := Lib.hid qo
          have PE := Lib.hid (show Fx.qV T (Fx.fl (Cx.wt (z j 2) * x j) T) = Cx.pt k z x j by unfold Cx.pt; rw [HT.out])
          have SE := Lib.hid (show Cx.ws k z x (j + 1) = Cx.ws k z x j + Cx.pt k z x j from rfl)
          obtain ⟨u, hu⟩ : ∃ u, Cx.wt (z j 2) = u := ⟨_, rfl⟩
          obtain ⟨X, hX'⟩ : ∃ X, x j = X := ⟨_, rfl⟩
          obtain ⟨Pt, hP⟩ : ∃ P, Cx.pt k z x j = P := ⟨_, rfl⟩
          obtain ⟨Sj, hSj⟩ : ∃ S, Cx.ws k z x j = S := ⟨_, rfl⟩
          rw [hu, hX'] at QO; rw [hu, hX', hP] at PE; rw [hX'] at FF x0 x1; rw [hu] at c0 u0 u1; rw [hP] at q0 q1; rw [hSj] at s0 s1; rw [hP, hSj] at SE; rw [hSj]
          clear hu hX' hP hSj qo cv hB hv
          go_wp2_with (first | (go_at_call 32; refine (muldiv_at (by omega) (by omega) (by omega) (by omega) (by omega) (by omega) PE QO _).mono ?_; rintro e w' ⟨rfl, nq, rfl⟩) | (go_at_call 27; refine (FF.out _ (by omega) CV.out).mono ?_; rintro e w5 ⟨rfl, hb5⟩; have HB5 := Lib.hid hb5; have hs5 := hb5.size; clear hb5))
          go_roundw
          case rel => exact ⟨j + 1, by omega, by go_num, by rw [SE.out], Hp.drewN (HB.out.trans (HB5.out.mono hbs)) _⟩
          case measure => simp [intOf]; omega
        · obtain rfl : j = k := by omega
          clear hB
          go_wp2_with (fail)
          go_ret
          exact ⟨rfl, HB1.out.trans (HB.out.mono hs1)⟩
end Go.Proofs.Ytdnpidcchcefeaa.CxW
