/- The law CombineBetween of layer 26. -/
import Derived.Test.YtdnpidcchcefeaaCn
import Derived.Test.YtdnpidcchcefeaaCq
set_option linter.unusedVariables false
set_option linter.unusedSimpArgs false
namespace Go.Proofs.Ytdnpidcchcefeaa.CxW
open Go.RowKit Rw
set_option maxHeartbeats 4000000 in
theorem between_no (a : Option Addr) (n cap : Nat) (z : Nat → Nat → Int) (w : World) (S : Cs w a n z) (hn40 : n ≤ 40) (h : ¬ (Cx.chk n z = 0 ∧ 0 < n)) :
    Calls Try.prog 6 #[.slice a n cap] w fun e w' => e = .returned (.bool true) ∧ Below w.heap.size w w' := by
  have hS := Lib.hid S
  have h' : ¬ (40 : Int) < (n : Int) := by omega
  have hm : Cx.mean n z = 0 := by unfold Cx.mean; rw [if_neg h]
  have hd : Cx.dist n z = 0 := by unfold Cx.dist; rw [if_neg h]
  obtain ⟨e1, he1⟩ : ∃ e, Cx.meanE n z = e := ⟨_, rfl⟩
  obtain ⟨k1, hk1⟩ : ∃ e, Cx.chk n z = e := ⟨_, rfl⟩
  have hq : (e1 != 0) = true := by rw [← he1]; simp [meanE_no h]
  have hk : (k1 != 0) = true ∨ ((k1 != 0) = false ∧ ((n : Int) == 0) = true) := by
    by_cases c : k1 = 0
    · refine .inr ⟨by simp [c], ?_⟩
      have : n = 0 := by
        apply Nat.eq_zero_of_not_pos; intro hp; exact h ⟨by rw [hk1]; exact c, hp⟩
      simp [this]
    · exact .inl (by simp [c])
  have HM := Lib.hid hm; have HD := Lib.hid hd; have HE := Lib.hid he1; have HK := Lib.hid hk1
  clear S h hm hd he1 hk1
  rcases hk with hk | ⟨hk, hk0⟩
  all_goals
    go_enter Try.func6, Try.ntmps6
    go_wp2_with (fail)
    refine (mean_any a n cap z _ hS.out).mono ?_
    rw [HM.out, HE.out]
    rintro e w1 ⟨rfl, B1⟩
    have HB1 := Lib.hid B1
    have HS1 := Lib.hid (hS.out.later B1)
    clear B1
    go_wp2_with (fail)
    refine (check_any a n cap z _ HS1.out).mono ?_
    rw [HK.out]
    rintro e w2 ⟨rfl, B2⟩
    have HB2 := Lib.hid (HB1.out.trans (B2.mono HB1.out.size))
    have HS2 := Lib.hid (HS1.out.later B2)
    clear B2 HB1 HS1
    go_wp2_with (fail)
    refine (dist_any a n cap z _ HS2.out).mono ?_
    rw [HD.out]
    rintro e w3 ⟨rfl, B3⟩
    have HB3 := Lib.hid (HB2.out.trans (B3.mono HB2.out.size))
    clear B3 HB2 HS2
    go_wp2_with (fail)
    refine (awake26_any _).mono ?_
    rintro e w4 ⟨rfl, B4⟩
    have HB4 := Lib.hid (HB3.out.trans (B4.mono HB3.out.size))
    clear B4 HB3
    go_wp2_with (fail)
    go_ret
    exact ⟨rfl, HB4.out⟩
set_option maxHeartbeats 8000000 in
theorem between_yes (a : Option Addr) (n cap : Nat) (z : Nat → Nat → Int) (w : World) (S : Cs w a n z) (hc : Cx.chk n z = 0) (hn : 0 < n) :
    Calls Try.prog 6 #[.slice a n cap] w fun e w' => e = .returned (.bool true) ∧ Below w.heap.size w w' := by
  have hS := Lib.hid S; have hC := Lib.hid hc
  obtain ⟨hn12, _, h3⟩ := Cx.chk_ok hc
  have H3 := Lib.hid h3
  have h' : ¬ (40 : Int) < (n : Int) := by omega
  have hk0 : ((n : Int) == 0) = false := by simp; omega
  obtain ⟨b1, b2⟩ := Cx.mean_between hc hn
  obtain ⟨e1, e2, e3, e4⟩ := Cx.ends_bd hc hn n (Nat.le_refl _)
  obtain ⟨j1, j2⟩ := Cx.jit_bd hc hn
  obtain ⟨d1, d2⟩ := Cx.dist_bd hc hn
  have HDl := Lib.hid (fun i (hi : i < n) => Cx.dist_le hc hn hi)
  have HEb := Lib.hid (Cx.ends_bd hc hn)
  obtain ⟨m, hm⟩ : ∃ m, Cx.mean n z = m := ⟨_, rfl⟩
  obtain ⟨J, hJ⟩ : ∃ m, Cx.jit n z = m := ⟨_, rfl⟩
  obtain ⟨D, hD⟩ : ∃ m, Cx.dist n z = m := ⟨_, rfl⟩
  obtain ⟨L, hL⟩ : ∃ m, Cx.lowN z n = m := ⟨_, rfl⟩
  obtain ⟨U, hU⟩ : ∃ m, Cx.highN z n = m := ⟨_, rfl⟩
  have HM := Lib.hid hm; have HJ := Lib.hid hJ; have HD := Lib.hid hD; have HL := Lib.hid hL; have HU := Lib.hid hU
  rw [hm, hL] at b1; rw [hm, hU] at b2; rw [hL] at e1 e2; rw [hU] at e3 e4; rw [hJ] at j1; rw [hJ, hU, hm, hL] at j2; rw [hD] at d1 d2
  have B1h := Lib.hid b1; have B2h := Lib.hid b2; have J2h := Lib.hid j2
  clear S hc h3 hm hJ hD hL hU b1 b2 j2
  go_enter Try.func6, Try.ntmps6
  go_wp2_with (fail)
  refine (mean_yes a n cap z _ hS.out hC.out hn).mono ?_
  rw [HM.out]
  rintro e w1 ⟨rfl, B1⟩
  have HB1 := Lib.hid B1
  have HS1 := Lib.hid (hS.out.later B1)
  clear B1
  go_wp2_with (fail)
  refine (check_any a n cap z _ HS1.out).mono ?_
  rw [hC.out]
  rintro e w2 ⟨rfl, B2⟩
  have HB2 := Lib.hid (HB1.out.trans (B2.mono HB1.out.size))
  have HS2 := Lib.hid (HS1.out.later B2)
  clear B2 HB1 HS1
  obtain ⟨b, o, rfl, hb, c0, c1, c2, c3, c4⟩ := HS2.out.elem hn
  have c1' : w2.cell? ⟨b, o + 1, none⟩ = some (.int .i64 (z 0 1)) := by simpa using c1
  clear c0 c1 c2 c3 c4
  go_wp2_with (fail)
  go_quiet (fail)
  clear c1'
  go_wp2_with (fail)
  go_loopw [53, 5, 6] (fun c s t wr => ∃ k : Nat, k ≤ n ∧ c = .int .i64 k ∧ s = .int .i64 (Cx.lowN z k) ∧ t = .int .i64 (Cx.highN z k) ∧ Below w2.heap.size w2 wr) (fun c _ _ _ => n - (intOf c).toNat)
  case atStart => exact ⟨0, by omega, rfl, rfl, rfl, Hp.drewN (Below.refl _ _) _⟩
  case round =>
    obtain ⟨k, hk, rfl, rfl, rfl, hB⟩ := hrel
    have HB := Lib.hid hB
    have hbs := hB.size
    by_cases hlt : k < n
    · obtain ⟨b', o', hab, hb', d0, d1', d2', d3, d4⟩ := (HS2.out.later hB).elem hlt
      obtain ⟨rfl, rfl⟩ : b' = b ∧ o' = o := by simpa [eq_comm] using hab
      have HLn := Lib.hid (show Cx.lowN z (k + 1) = min (Cx.lowN z k) (z k 1) from rfl)
      have HUn := Lib.hid (show Cx.highN z (k + 1) = max (Cx.highN z k) (z k 1) from rfl)
      obtain ⟨x, hx⟩ : ∃ x, Cx.lowN z k = x := ⟨_, rfl⟩
      obtain ⟨y, hy⟩ : ∃ y, Cx.highN z k = y := ⟨_, rfl⟩
      have HX := Lib.hid hx; have HY := Lib.hid hy
      rw [hx, hy]
      clear hx hy hB hab
      go_wp2_with (fail)
      go_quiet (fail)
      go_wp2_with (fail)
      go_roundw
      case rel => exact ⟨k + 1, by omega, by go_num, by rw [HLn.out, HX.out], by rw [HUn.out, HY.out], by have := HB.out; (repeat (first | exact Below.refl _ _ | refine Below.drew ?_ | refine Hp.drewN ?_ _ | refine Below.setCell ?_ (by first | (simp; done) | (simp; omega) | omega) _ | refine Below.alloc ?_ (by first | (simp; done) | (simp; omega) | omega) _ | (refine Hp.step ?_ (by assumption))))⟩
      case measure => simp [intOf]; omega
    · obtain rfl : k = n := by omega
      have HS3 := Lib.hid (HS2.out.later hB)
      have HB3 := Lib.hid (HB2.out.trans (hB.mono HB2.out.size))
      rw [HL.out, HU.out]
      have b1 := B1h.out; have b2 := B2h.out
      clear hB HB HB2
      go_wp2_with (fail)
      refine (dist_any _ k cap z _ HS3.out).mono ?_
      rw [HD.out]
      rintro e w4 ⟨rfl, B4⟩
      have HB4 := Lib.hid (HB3.out.trans (B4.mono HB3.out.size))
      have HS4 := Lib.hid (HS3.out.later B4)
      clear B4 HB3 HS3 b1 b2
      go_wp2_with (fail)
      go_loopw [85] (fun c wr => ∃ i : Nat, i ≤ k ∧ c = .int .i64 i ∧ Below w4.heap.size w4 wr) (fun c _ => k - (intOf c).toNat)
      case atStart => exact ⟨0, by omega, rfl, Below.refl _ _⟩
      case round =>
        obtain ⟨i, hi, rfl, hB⟩ := hrel
        have HB := Lib.hid hB
        have hbs := hB.size
        by_cases hlt2 : i < k
        · obtain ⟨b', o', hab, hb', d0, d1', d2', d3, d4⟩ := (HS4.out.later hB).elem hlt2
          obtain ⟨rfl, rfl⟩ : b' = b ∧ o' = o := by simpa [eq_comm] using hab
          obtain ⟨_, _, v0, v1, q0, q1⟩ := H3.out i hlt2
          have hle := HDl.out i hlt2
          rw [HD.out, HM.out] at hle
          obtain ⟨m0, m1⟩ := Cx.mean_bd hC.out hn
          rw [HM.out] at m0 m1
          obtain ⟨x, hx⟩ : ∃ x, z i 2 = x := ⟨_, rfl⟩
          obtain ⟨y, hy⟩ : ∃ y, z i 1 = y := ⟨_, rfl⟩
          rw [hx] at d2' q0 q1 hle; rw [hy] at d1' v0 v1 hle
          clear hx hy hB hab
          have nlt : ¬ D < 0 := by omega
          by_cases hyx : m - y < y - m
          · have hle' : D ≤ x + (y - m) := by omega
            clear hle
            go_wp2_with (fail)
            go_roundw
            case rel => exact ⟨i + 1, by omega, by go_num, Below.alloc HB.out hbs _⟩
            case measure => simp [intOf]; omega
          · have hle' : D ≤ x + (m - y) := by omega
            clear hle
            go_wp2_with (fail)
            go_roundw
            case rel => exact ⟨i + 1, by omega, by go_num, Below.alloc HB.out hbs _⟩
            case measure => simp [intOf]; omega
        · have HS5 := Lib.hid (HS4.out.later hB)
          have HB5 := Lib.hid (HB4.out.trans (hB.mono HB4.out.size))
          clear hB HB HB4 HS4
          obtain ⟨m0, m1⟩ := Cx.mean_bd hC.out hn
          rw [HM.out] at m0 m1
          go_wp2_with (fail)
          refine (jitter_any _ k cap z _ HS5.out).mono ?_
          rw [HJ.out]
          rintro e w6 ⟨rfl, B6⟩
          have HB6 := Lib.hid (HB5.out.trans (B6.mono HB5.out.size))
          have HS6 := Lib.hid (HS5.out.later B6)
          clear B6 HB5 HS5
          go_wp2_with (fail)
          refine (jitter_any _ k cap z _ HS6.out).mono ?_
          rw [HJ.out]
          rintro e w7 ⟨rfl, B7⟩
          have HB7 := Lib.hid (HB6.out.trans (B7.mono HB6.out.size))
          clear B7 HB6 HS6
          have j2 := J2h.out
          by_cases hx : U - m < m - L
          · have j2' : J ≤ (m - L) + 1 := by omega
            clear j2
            go_wp2_with (fail)
            refine (awake26_any _).mono ?_
            rintro e w8 ⟨rfl, B8⟩
            have HB8 := Lib.hid (HB7.out.trans (B8.mono HB7.out.size))
            clear B8 HB7
            go_wp2_with (fail)
            go_ret
            exact ⟨rfl, HB8.out⟩
          · have j2' : J ≤ (U - m) + 1 := by omega
            clear j2
            go_wp2_with (fail)
            refine (awake26_any _).mono ?_
            rintro e w8 ⟨rfl, B8⟩
            have HB8 := Lib.hid (HB7.out.trans (B8.mono HB7.out.size))
            clear B8 HB7
            go_wp2_with (fail)
            go_ret
            exact ⟨rfl, HB8.out⟩
theorem law_CombineBetween (a : Option Addr) (n cap : Nat) (z : Nat → Nat → Int) (w : World) (S : In.IsStructs [.i64, .i64, .i64, .i64, .i64] w a n cap z) :
    Calls Try.prog 6 #[.slice a n cap] w fun e w' => e = .returned (.bool true) ∧ Below w.heap.size w w' := by
  by_cases h : 40 < n
  · have h' : (40 : Int) < (n : Int) := by omega
    clear h S
    go_enter Try.func6, Try.ntmps6
    go_wp2_with (fail)
    refine (awake26_any _).mono ?_
    rintro e w1 ⟨rfl, B1⟩
    have HB1 := Lib.hid B1
    clear B1
    go_wp2_with (fail)
    go_ret
    exact ⟨rfl, HB1.out⟩
  · by_cases k : Cx.chk n z = 0 ∧ 0 < n
    · exact between_yes a n cap z w (cs_of S) k.1 k.2
    · exact between_no a n cap z w (cs_of S) (by omega) k
end Go.Proofs.Ytdnpidcchcefeaa.CxW
