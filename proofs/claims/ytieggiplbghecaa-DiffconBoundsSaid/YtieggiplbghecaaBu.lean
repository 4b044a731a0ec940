/- The law DiffconBounds of layer 51. -/
import Derived.Test.YtieggiplbghecaaBq
import Derived.Test.YtieggiplbghecaaBt
set_option linter.unusedVariables false
set_option linter.unusedSimpArgs false
namespace Go.Proofs.Ytieggiplbghecaa.BxW
open Go.RowKit Ls Orw Rv Rw
/-- no matrix -/
theorem mr_nil (w : World) (f : Nat → Nat → Int) : Mr w none 0 f := ⟨.inl rfl⟩
set_option maxHeartbeats 4000000 in
set_option maxRecDepth 4000 in
theorem bounds_law_no (n : Int) (a : Option Addr) (m cap : Nat) (z : Nat → Nat → Int) (w : World) (S : Ss 3 w a m z) {r : Int} (hr : Hid (Bx.chk n m z = r)) (h : 4100 < m ∨ (m ≤ 4100 ∧ (r != 0) = true)) :
    Calls Try.prog 3 #[.int .i64 n, .slice a m cap] w fun e w' => e = .returned (.bool true) ∧ Below w.heap.size w w' := by
  have hS := Lib.hid S
  clear S
  rcases h with h | ⟨h, h2⟩
  · have d : decide (4100 < m) = true := decide_eq_true h
    have L := Lib.hid (fun w => d ▸ long_any a m cap w)
    clear d
    go_enter Try.func3, Try.ntmps3
    go_wp2_with (fail)
    refine (L.out _).mono ?_
    rintro en w1 ⟨rfl, rfl⟩
    go_wp2_with (fail)
    refine (awake51_any _).mono ?_
    rintro en w3 ⟨rfl, B3⟩
    have HB3 := Lib.hid B3
    clear B3
    go_wp2_with (fail)
    go_ret
    exact ⟨rfl, HB3.out⟩
  · have d : decide (4100 < m) = false := decide_eq_false (by omega)
    have L := Lib.hid (fun w => d ▸ long_any a m cap w)
    have H2 := Lib.hid h2
    clear d h2
    go_enter Try.func3, Try.ntmps3
    go_wp2_with (fail)
    refine (L.out _).mono ?_
    rintro en w1 ⟨rfl, rfl⟩
    go_wp2_with (fail)
    refine (bounds_bad n a m cap z hr H2.out _ hS.out).mono ?_
    rintro en w1 ⟨rfl, B1⟩
    have HB1 := Lib.hid B1; have S1 := Lib.hid (hS.out.later B1)
    clear B1
    go_wp2_with (fail)
    refine (rbounds_bad n a m cap z hr H2.out _ S1.out).mono ?_
    rintro en w2 ⟨rfl, B2⟩
    have HB2 := Lib.hid (bl_next HB1.out B2); have S2 := Lib.hid (S1.out.later B2)
    clear B2
    go_wp2_with (fail)
    refine (check_at S2.out hr).mono ?_
    rintro en w3 ⟨rfl, B3⟩
    have HB3 := Lib.hid (bl_next HB2.out B3); have S3 := Lib.hid (S2.out.later B3)
    clear B3
    go_wp2_with (fail)
    refine (rcheck_at S3.out hr).mono ?_
    rintro en w4 ⟨rfl, B4⟩
    have HB4 := Lib.hid (bl_next HB3.out B4)
    clear B4
    go_wp2_with (fail)
    refine (same_eq _ (mr_nil _ exw) (mr_nil _ exw) (by omega)).mono ?_
    rintro en w5 ⟨rfl, q, rfl⟩
    have HB5 := Lib.hid (Hp.drewN HB4.out q)
    go_wp2_with (fail)
    refine (awake51_any _).mono ?_
    rintro en w6 ⟨rfl, B6⟩
    have HB6 := Lib.hid (bl_next HB5.out B6)
    clear B6
    go_wp2_with (fail)
    go_ret
    exact ⟨rfl, HB6.out⟩
set_option maxHeartbeats 8000000 in
set_option maxRecDepth 4000 in
theorem bounds_law_yes (n : Nat) (a : Option Addr) (m cap : Nat) (z : Nat → Nat → Int) (w : World) (S : Ss 3 w a m z) (V : Bx.Vs n m z) :
    Calls Try.prog 3 #[.int .i64 n, .slice a m cap] w fun e w' => e = .returned (.bool true) ∧ Below w.heap.size w w' := by
  have hS := Lib.hid S; have hV := Lib.hid V
  have n2 := V.n2; have m2 := V.m2
  have hC := Lib.hid (chk_vs V)
  have d : decide (4100 < m) = false := decide_eq_false (by omega)
  have L := Lib.hid (fun w => d ▸ long_any a m cap w)
  clear d S V
  go_enter Try.func3, Try.ntmps3
  go_wp2_with (fail)
  refine (L.out _).mono ?_
  rintro en w1 ⟨rfl, rfl⟩
  go_wp2_with (fail)
  by_cases hs : Bx.St n z m (n - 1)
  · refine (bounds_ok n a m cap z hV.out hs _ hS.out).mono ?_
    rintro en w1 ⟨g1, rfl, M1, hg1, B1⟩
    have HB1 := Lib.hid B1; have S1 := Lib.hid (hS.out.later B1); have R1 := Lib.hid M1.mr; have HS := Lib.hid hs
    clear B1 M1 hs
    go_wp2_with (fail)
    refine (rbounds_two n a m cap z hV.out _ S1.out).mono ?_
    rintro en w2 (⟨_, g2, rfl, M2, hg2, B2⟩ | ⟨hn, _⟩)
    rotate_left
    · exact absurd HS.out hn
    have HB2 := Lib.hid (bl_next HB1.out B2); have S2 := Lib.hid (S1.out.later B2); have R2 := Lib.hid (R1.out.later B2); have Q2 := Lib.hid M2.mr
    clear B2 M2
    go_wp2_with (fail)
    refine (check_at S2.out hC).mono ?_
    rintro en w3 ⟨rfl, B3⟩
    have HB3 := Lib.hid (bl_next HB2.out B3); have S3 := Lib.hid (S2.out.later B3); have R3 := Lib.hid (R2.out.later B3); have Q3 := Lib.hid (Q2.out.later B3)
    clear B3
    go_wp2_with (fail)
    refine (rcheck_at S3.out hC).mono ?_
    rintro en w4 ⟨rfl, B4⟩
    have HB4 := Lib.hid (bl_next HB3.out B4); have R4 := Lib.hid (R3.out.later B4); have Q4 := Lib.hid (Q3.out.later B4)
    clear B4
    go_wp2_with (fail)
    refine (same_eq _ R4.out Q4.out (by omega)).mono ?_
    rintro en w5 ⟨rfl, q, rfl⟩
    have HB5 := Lib.hid (Hp.drewN HB4.out q)
    go_wp2_with (fail)
    refine (awake51_any _).mono ?_
    rintro en w6 ⟨rfl, B6⟩
    have HB6 := Lib.hid (bl_next HB5.out B6)
    clear B6
    go_wp2_with (fail)
    go_ret
    exact ⟨rfl, HB6.out⟩
  · refine (bounds_cyc n a m cap z hV.out hs _ hS.out).mono ?_
    rintro en w1 ⟨rfl, B1⟩
    have HB1 := Lib.hid B1; have S1 := Lib.hid (hS.out.later B1); have HS := Lib.hid hs
    clear B1 hs
    go_wp2_with (fail)
    refine (rbounds_two n a m cap z hV.out _ S1.out).mono ?_
    rintro en w2 (⟨hn, _⟩ | ⟨_, rfl, B2⟩)
    · exact absurd hn HS.out
    have HB2 := Lib.hid (bl_next HB1.out B2); have S2 := Lib.hid (S1.out.later B2)
    clear B2
    go_wp2_with (fail)
    refine (check_at S2.out hC).mono ?_
    rintro en w3 ⟨rfl, B3⟩
    have HB3 := Lib.hid (bl_next HB2.out B3); have S3 := Lib.hid (S2.out.later B3)
    clear B3
    go_wp2_with (fail)
    refine (rcheck_at S3.out hC).mono ?_
    rintro en w4 ⟨rfl, B4⟩
    have HB4 := Lib.hid (bl_next HB3.out B4)
    clear B4
    go_wp2_with (fail)
    refine (same_eq _ (mr_nil _ exw) (mr_nil _ exw) (by omega)).mono ?_
    rintro en w5 ⟨rfl, q, rfl⟩
    have HB5 := Lib.hid (Hp.drewN HB4.out q)
    go_wp2_with (fail)
    refine (awake51_any _).mono ?_
    rintro en w6 ⟨rfl, B6⟩
    have HB6 := Lib.hid (bl_next HB5.out B6)
    clear B6
    go_wp2_with (fail)
    go_ret
    exact ⟨rfl, HB6.out⟩
theorem law_DiffconBounds (n : Int) (a : Option Addr) (m cap : Nat) (z : Nat → Nat → Int) (w : World) (S : In.IsStructs [.i64, .i64, .i64] w a m cap z) :
    Calls Try.prog 3 #[.int .i64 n, .slice a m cap] w fun e w' => e = .returned (.bool true) ∧ Below w.heap.size w w' := by
  by_cases h : 4100 < m
  · exact bounds_law_no n a m cap z w (ss_of S) (Lib.hid rfl) (.inl h)
  · by_cases hc : Bx.chk n m z = 0
    · obtain ⟨n1, n2, V⟩ := Bx.vs_of hc
      obtain ⟨k, rfl⟩ := Int.eq_ofNat_of_zero_le (show 0 ≤ n by omega)
      exact bounds_law_yes k a m cap z w (ss_of S) (by simpa using V)
    · exact bounds_law_no n a m cap z w (ss_of S) (Lib.hid rfl) (.inr ⟨by omega, by simpa using hc⟩)
end Go.Proofs.Ytieggiplbghecaa.BxW
