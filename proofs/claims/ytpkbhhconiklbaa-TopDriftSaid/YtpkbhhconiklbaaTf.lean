/- The law TopDrift. -/
import Derived.Test.YtpkbhhconiklbaaTe
set_option linter.unusedVariables false
set_option linter.unusedSimpArgs false
namespace Go.Proofs.Ytpkbhhconiklbaa.TxW
open Go.RowKit Ls FxW
set_option maxHeartbeats 4000000 in
theorem span_yes (t d : Int) (t0 : 0 ≤ t) (t1 : t ≤ 1125899906842624) (d0 : 0 ≤ d) (d1 : d ≤ 1125899906842624 - t) (w : World) :
    Calls Try.prog 4 #[.int .i64 t, .int .i64 d] w fun e w' => e = .returned (.bool true) ∧ w = w' := by
  go_enter Try.func4, Try.ntmps4
  go_wp2_with (fail)
  go_ret
  exact ⟨rfl, rfl⟩
set_option maxHeartbeats 4000000 in
theorem span_no (t d : Int) (t3 : -9223372036854775808 ≤ t) (h : t < 0 ∨ (0 ≤ t ∧ 1125899906842624 < t) ∨ (0 ≤ t ∧ t ≤ 1125899906842624 ∧ d < 0) ∨ (0 ≤ t ∧ t ≤ 1125899906842624 ∧ 0 ≤ d ∧ 1125899906842624 - t < d)) (w : World) :
    Calls Try.prog 4 #[.int .i64 t, .int .i64 d] w fun e w' => e = .returned (.bool false) ∧ w = w' := by
  rcases h with h | ⟨h, h1⟩ | ⟨h, h1, h2⟩ | ⟨h, h1, h2, h3⟩
  all_goals
    go_enter Try.func4, Try.ntmps4
    go_wp2_with (fail)
    go_ret
    exact ⟨by first | rfl | (simp; done) | (simp; omega), rfl⟩
def ex (i j : Nat) : Int := if j = 1 then 1000 else 0
theorem ex_chk : Tx.chk 5 1 ex = 0 := by decide +kernel
theorem ex_rd : Tx.rd 5 1 ex 2000000 = 2000007 := by decide +kernel
set_option maxHeartbeats 4000000 in
theorem awake04_any (w : World) : Calls Try.prog 7 #[] w fun e w' => e = .returned (.bool true) ∧ Below w.heap.size w w' := by
  have BA := Lib.hid (Below.alloc (Below.refl w.heap.size w) (Nat.le_refl _) (.cells #[.int .i64 0, .int .i64 1000] 44))
  have S : Hid (Ss 2 (w.alloc (.cells #[.int .i64 0, .int .i64 1000] 44)) (some ⟨w.heap.size, 0, none⟩) 1 ex) := Lib.hid ⟨.inr ⟨w.heap.size, 0, rfl, by simp, fun i j hi hj => by
    have hi' : i = 0 := by omega
    subst hi'
    have hj' : j = 0 ∨ j = 1 := by omega
    have hb := Hp.blk_new w (.cells #[.int .i64 0, .int .i64 1000] 44)
    rcases hj' with rfl | rfl
    · exact Hp.blk_cell hb rfl
    · exact Hp.blk_cell hb rfl⟩⟩
  go_enter Try.func7, Try.ntmps7
  go_wp2_with (fail)
  refine (read_ok 5 _ 1 _ ex (Tx.vo_of ex_chk) ex_chk 2000000 (by omega) (by omega) _ S.out).mono ?_
  rw [ex_rd]
  rintro en w1 ⟨rfl, B1⟩
  have HB := Lib.hid (bl_next BA.out B1)
  clear B1
  go_wp2_with (fail)
  go_ret
  exact ⟨rfl, HB.out⟩
set_option maxHeartbeats 8000000 in
theorem drift_no (p : Int) (a : Option Addr) (n c : Nat) (z : Nat → Nat → Int) (t d : Int) (w : World) (t3 : -9223372036854775808 ≤ t) (h : t < 0 ∨ (0 ≤ t ∧ 1125899906842624 < t) ∨ (0 ≤ t ∧ t ≤ 1125899906842624 ∧ d < 0) ∨ (0 ≤ t ∧ t ≤ 1125899906842624 ∧ 0 ≤ d ∧ 1125899906842624 - t < d)) :
    Calls Try.prog 3 #[.agg #[.int .i64 p, .slice a n c], .int .i64 t, .int .i64 d] w fun e w' => e = .returned (.bool true) ∧ Below w.heap.size w w' := by
  have SN := Lib.hid (fun w => span_no t d t3 h w)
  clear h
  go_enter Try.func3, Try.ntmps3
  go_wp2_with (fail)
  refine (SN.out _).mono ?_
  rintro en w1 ⟨rfl, rfl⟩
  go_wp2_with (fail)
  go_ret
  exact ⟨rfl, by (repeat (first | exact Below.refl _ _ | refine Below.drew ?_ | refine Hp.drewN ?_ _ | refine Below.setCell ?_ (by first | (simp; done) | (simp; omega) | omega) _ | refine Below.alloc ?_ (by first | (simp; done) | (simp; omega) | omega) _ | (refine Hp.step ?_ (by assumption))))⟩
set_option maxHeartbeats 8000000 in
set_option maxRecDepth 4000 in
theorem drift_yes (p : Int) (a : Option Addr) (n c : Nat) (z : Nat → Nat → Int) (t d : Int) (w : World) (S : Ss 2 w a n z) (t0 : 0 ≤ t) (t1 : t ≤ 1125899906842624) (d0 : 0 ≤ d) (d1 : d ≤ 1125899906842624 - t) :
    Calls Try.prog 3 #[.agg #[.int .i64 p, .slice a n c], .int .i64 t, .int .i64 d] w fun e w' => e = .returned (.bool true) ∧ Below w.heap.size w w' := by
  have BA := Lib.hid (Below.alloc (Below.refl w.heap.size w) (Nat.le_refl _) (.cells #[.int .i64 p, .slice a n c] 24))
  have CB : Hid ((w.alloc (.cells #[.int .i64 p, .slice a n c] 24)).heap[w.heap.size]? = some (.cells #[.int .i64 p, .slice a n c] 24 (0, 0))) := Lib.hid (Hp.blk_new _ _)
  have SA := Lib.hid (S.later BA.out)
  clear S
  by_cases hc : Tx.chk p n z = 0
  · have HC := Lib.hid hc; have HV := Lib.hid (Tx.vo_of hc)
    obtain ⟨raw, hraw, r0, r1, l1, l2⟩ := Tx.drift_law HV.out t0 d0 (show t + d ≤ 1125899906842624 by omega)
    have u0 := Tx.bo_nn (z := z) n; have u1 := Tx.bo_le HV.out n (Nat.le_refl _)
    have ra := Tx.rd_bd HV.out t0 t1; have rb := Tx.rd_bd HV.out (show 0 ≤ t + d by omega) (show t + d ≤ 1125899906842624 by omega)
    have R1 := Lib.hid (fun w S => read_ok p a n c z HV.out HC.out t t0 t1 w S)
    have R2 := Lib.hid (fun w S => read_ok p a n c z HV.out HC.out (t + d) (by omega) (by omega) w S)
    obtain ⟨A, eA⟩ : ∃ A, Tx.rd p n z t = A := ⟨_, rfl⟩
    obtain ⟨B, eB⟩ : ∃ A, Tx.rd p n z (t + d) = A := ⟨_, rfl⟩
    rw [eA] at ra R1 hraw; rw [eB] at rb R2 hraw
    have a1 := ra.1; have a2 := ra.2.1; have b1 := rb.1; have b2 := rb.2.1
    have BO := Lib.hid (fun w S => bound_ok p a n c z HV.out HC.out w S)
    obtain ⟨T, eT⟩ : ∃ T, Tx.bo z n = T := ⟨_, rfl⟩
    rw [eT] at BO u0 u1 l1 l2
    have EL := Lib.hid (fun w => elapsed_ok raw T r0 r1 u0 u1 w)
    have AG := Lib.hid (fun w => age_ok t raw T r0 r1 u0 u1 t0 t1 (by omega) w)
    have ub := Tx.up_bd r0 r1 u0 u1
    have ub1 := ub.2.1
    obtain ⟨D, eD⟩ : ∃ D, max 0 (Tx.dn raw T + 1) = D := ⟨_, rfl⟩
    obtain ⟨U, eU⟩ : ∃ D, -(Tx.up raw T) - 1 = D := ⟨_, rfl⟩
    have D0 : 0 ≤ D := by omega
    have U1 : U ≤ 4503599627370497 := by omega
    rw [eD, eU] at EL AG; rw [eD] at l1; rw [eU] at l2
    clear eA eB eT eD eU ra rb ub ub1 hc
    go_enter Try.func3, Try.ntmps3
    go_wp2_with (fail)
    refine (span_yes t d t0 t1 d0 d1 _).mono ?_
    rintro en w1 ⟨rfl, rfl⟩
    go_wp2_with (fail)
    refine (R1.out _ SA.out).mono ?_
    rintro en w1 ⟨rfl, B1⟩
    have HB1 := Lib.hid (bl_next BA.out B1); have S1 := Lib.hid (SA.out.later B1); have C1 := Lib.hid ((B1.block _ (Hp.blk_lt CB.out)).trans CB.out)
    have x0 := Hp.blk_cell (o := 0) C1.out rfl; have x1 := Hp.blk_cell (o := 1) C1.out rfl
    clear B1
    go_wp2_with (fail)
    refine (R2.out _ S1.out).mono ?_
    rintro en w2 ⟨rfl, B2⟩
    have HB2 := Lib.hid (bl_next HB1.out B2); have S2 := Lib.hid (S1.out.later B2); have C2 := Lib.hid ((B2.block _ (Hp.blk_lt C1.out)).trans C1.out)
    have y0 := Hp.blk_cell (o := 0) C2.out rfl; have y1 := Hp.blk_cell (o := 1) C2.out rfl
    clear B2 x0 x1
    go_wp2_with (fail)
    refine (ocheck_at HC S2.out).mono ?_
    rintro en w3 ⟨rfl, B3⟩
    have HB3 := Lib.hid (bl_next HB2.out B3); have S3 := Lib.hid (S2.out.later B3); have C3 := Lib.hid ((B3.block _ (Hp.blk_lt C2.out)).trans C2.out)
    have x0 := Hp.blk_cell (o := 0) C3.out rfl; have x1 := Hp.blk_cell (o := 1) C3.out rfl
    clear B3 y0 y1
    go_wp2_with (fail)
    refine (BO.out _ S3.out).mono ?_
    rintro en w4 ⟨rfl, B4⟩
    have HB4 := Lib.hid (bl_next HB3.out B4)
    clear B4 x0 x1
    go_wp2_with (fail)
    refine (EL.out _).mono ?_
    rintro en w5 ⟨rfl, q5, rfl⟩
    go_wp2_with (fail)
    refine (AG.out _).mono ?_
    rintro en w6 ⟨rfl, B6⟩
    have HB6 := Lib.hid (bl_next (Hp.drewN HB4.out q5) B6)
    clear B6
    go_wp2_with (fail)
    refine (has_ok (t + D) (t + U) (t + d) (by omega) (by omega) (by omega) (by omega) _).mono ?_
    rintro en w7 ⟨rfl, B7⟩
    have HB7 := Lib.hid (show Below w.heap.size w w7 from by have := HB6.out; have := HB6.out.size; (repeat (first | exact Below.refl _ _ | refine Below.drew ?_ | refine Hp.drewN ?_ _ | refine Below.setCell ?_ (by first | (simp; done) | (simp; omega) | omega) _ | refine Below.alloc ?_ (by first | (simp; done) | (simp; omega) | omega) _ | (refine Hp.step ?_ (by assumption)))))
    clear B7
    go_wp2_with (fail)
    go_ret
    exact ⟨rfl, HB7.out⟩
  · obtain ⟨r, hr⟩ : ∃ r, Tx.chk p n z = r := ⟨_, rfl⟩
    have HC := Lib.hid hr
    rw [hr] at hc
    have hr0 : (r != 0) = true := by simpa using hc
    clear hr hc
    go_enter Try.func3, Try.ntmps3
    go_wp2_with (fail)
    refine (span_yes t d t0 t1 d0 d1 _).mono ?_
    rintro en w1 ⟨rfl, rfl⟩
    go_wp2_with (fail)
    refine (read_bad p a n c z HC hr0 t _ SA.out).mono ?_
    rintro en w1 ⟨rfl, B1⟩
    have HB1 := Lib.hid (bl_next BA.out B1); have S1 := Lib.hid (SA.out.later B1); have C1 := Lib.hid ((B1.block _ (Hp.blk_lt CB.out)).trans CB.out)
    have x0 := Hp.blk_cell (o := 0) C1.out rfl; have x1 := Hp.blk_cell (o := 1) C1.out rfl
    clear B1
    go_wp2_with (fail)
    refine (read_bad p a n c z HC hr0 (t + d) _ S1.out).mono ?_
    rintro en w2 ⟨rfl, B2⟩
    have HB2 := Lib.hid (bl_next HB1.out B2); have S2 := Lib.hid (S1.out.later B2); have C2 := Lib.hid ((B2.block _ (Hp.blk_lt C1.out)).trans C1.out)
    have y0 := Hp.blk_cell (o := 0) C2.out rfl; have y1 := Hp.blk_cell (o := 1) C2.out rfl
    clear B2 x0 x1
    go_wp2_with (fail)
    refine (ocheck_at HC S2.out).mono ?_
    rintro en w3 ⟨rfl, B3⟩
    have HB3 := Lib.hid (bl_next HB2.out B3)
    clear B3 y0 y1
    go_wp2_with (fail)
    refine (awake04_any _).mono ?_
    rintro en w4 ⟨rfl, B4⟩
    have HB4 := Lib.hid (bl_next HB3.out B4)
    clear B4
    go_wp2_with (fail)
    go_ret
    exact ⟨rfl, HB4.out⟩
theorem law_TopDrift (p : Int) (a : Option Addr) (n c : Nat) (z : Nat → Nat → Int) (t d : Int) (ht : (Lit.int .i64 t).wf = true) (w : World) (S : In.IsStructs [.i64, .i64] w a n c z) :
    Calls Try.prog 3 #[.agg #[.int .i64 p, .slice a n c], .int .i64 t, .int .i64 d] w fun e w' => e = .returned (.bool true) ∧ Below w.heap.size w w' := by
  by_cases h : 0 ≤ t ∧ t ≤ 1125899906842624 ∧ 0 ≤ d ∧ d ≤ 1125899906842624 - t
  · exact drift_yes p a n c z t d w (Ss.of S (by
      intro j hj
      match j, hj with
      | 0, _ => rfl
      | 1, _ => rfl) (by decide)) h.1 h.2.1 h.2.2.1 h.2.2.2
  · exact drift_no p a n c z t d w (Hp.i64_bd ht).1 (by omega)
end Go.Proofs.Ytpkbhhconiklbaa.TxW
