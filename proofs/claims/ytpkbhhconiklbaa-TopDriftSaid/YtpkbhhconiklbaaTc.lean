/- Contracts of the oscillator: Check, Bound. -/
import Derived.Test.YtpkbhhconiklbaaTx
import Derived.Test.YtpkbhhconiklbaaLs
import Derived.Test.YtpkbhhconiklbaaQb
import Derived.LoopTactic
import Derived.BigQuiet
import Derived.Deep.QuietTactic
set_option linter.unusedVariables false
set_option linter.unusedSimpArgs false
namespace Go.Proofs.Ytpkbhhconiklbaa.TxW
open Go.RowKit Ls
theorem bl_next {w a b : World} (h : Below w.heap.size w a) (k : Below a.heap.size a b) : Below w.heap.size w b := h.trans (k.mono h.size)
theorem ss_elem2 {w : World} {a : Option Addr} {n : Nat} {z : Nat → Nat → Int} (h : Ss 2 w a n z) {i : Nat} (hi : i < n) :
    ∃ b o, a = some ⟨b, o, none⟩ ∧ b < w.heap.size ∧ w.cell? ⟨b, o + i * 2, none⟩ = some (.int .i64 (z i 0)) ∧ w.cell? ⟨b, o + i * 2 + 1, none⟩ = some (.int .i64 (z i 1)) := by
  rcases h.cells with h0 | ⟨b, o, ha, hb, hc⟩
  · omega
  · exact ⟨b, o, ha, hb, hc i 0 hi (by omega), hc i 1 hi (by omega)⟩
theorem chk_empty {p : Int} {z : Nat → Nat → Int} : Tx.chk p 0 z = 14 := by unfold Tx.chk; rw [if_pos rfl]
theorem chk_long {p : Int} {n : Nat} {z : Nat → Nat → Int} (h : 16 < n) : Tx.chk p n z = 6 := by unfold Tx.chk; rw [if_neg (by omega), if_pos h]
theorem chk_range {p : Int} {n : Nat} {z : Nat → Nat → Int} (h0 : ¬ n = 0) (h : ¬ 16 < n) (hp : p < -1125899906842624 ∨ 1125899906842624 < p) : Tx.chk p n z = 3 := by unfold Tx.chk; rw [if_neg h0, if_neg h, if_pos hp]
theorem chk_scan {p : Int} {n : Nat} {z : Nat → Nat → Int} (h0 : ¬ n = 0) (h : ¬ 16 < n) (h1 : ¬ p < -1125899906842624) (h2 : ¬ 1125899906842624 < p) : Tx.chk p n z = Tx.scan z n := by unfold Tx.chk; rw [if_neg h0, if_neg h, if_neg (by omega)]
theorem seg_3 {z : Nat → Nat → Int} {k : Nat} (h : z k 0 < 0 ∨ 1125899906842624 < z k 0 ∨ z k 1 < -500000 ∨ 500000 < z k 1) : Tx.seg z k = 3 := by unfold Tx.seg; rw [if_pos h]
theorem seg_7 {z : Nat → Nat → Int} {k : Nat} (h : ¬ (z k 0 < 0 ∨ 1125899906842624 < z k 0 ∨ z k 1 < -500000 ∨ 500000 < z k 1)) (h2 : k = 0 ∧ z k 0 ≠ 0) : Tx.seg z k = 7 := by unfold Tx.seg; rw [if_neg h, if_pos h2]
theorem seg_12 {z : Nat → Nat → Int} {k : Nat} (h : ¬ (z k 0 < 0 ∨ 1125899906842624 < z k 0 ∨ z k 1 < -500000 ∨ 500000 < z k 1)) (h2 : 0 < k ∧ z k 0 ≤ z (k - 1) 0) : Tx.seg z k = 12 := by
  unfold Tx.seg; rw [if_neg h, if_neg (by omega), if_pos h2]
theorem seg_0 {z : Nat → Nat → Int} {k : Nat} (h : ¬ (z k 0 < 0 ∨ 1125899906842624 < z k 0 ∨ z k 1 < -500000 ∨ 500000 < z k 1)) (h2 : ¬ (k = 0 ∧ z k 0 ≠ 0)) (h3 : ¬ (0 < k ∧ z k 0 ≤ z (k - 1) 0)) : Tx.seg z k = 0 := by
  unfold Tx.seg; rw [if_neg h, if_neg h2, if_neg h3]
set_option maxHeartbeats 8000000 in
set_option maxRecDepth 4000 in
theorem ocheck_any (p : Int) (a : Option Addr) (n c : Nat) (z : Nat → Nat → Int) (w : World) (S : Ss 2 w a n z) :
    Calls Try.prog 6 #[.agg #[.int .i64 p, .slice a n c]] w fun e w' => e = .returned (.int .i64 (Tx.chk p n z)) ∧ Below w.heap.size w w' := by
  have BA := Lib.hid (Below.alloc (Below.refl w.heap.size w) (Nat.le_refl _) (.cells #[.int .i64 p, .slice a n c] 24))
  by_cases h0 : n = 0
  · subst h0
    have E := Lib.hid (@chk_empty p z)
    clear S
    go_enter Try.func6, Try.ntmps6
    go_wp2_with (fail)
    go_ret
    exact ⟨by rw [E.out] <;> rfl, BA.out⟩
  have n0 : (((n : Int)) == 0) = false := by simp; omega
  by_cases h1 : 16 < n
  · have E := Lib.hid (chk_long (p := p) (z := z) h1)
    have i1 : 16 < (n : Int) := by omega
    clear S h1 h0
    go_enter Try.func6, Try.ntmps6
    go_wp2_with (fail)
    go_ret
    exact ⟨by rw [E.out] <;> rfl, BA.out⟩
  have i1 : ¬ 16 < (n : Int) := by omega
  by_cases h2 : p < -1125899906842624
  · have E := Lib.hid (chk_range (z := z) h0 h1 (.inl h2))
    clear S h1 h0
    go_enter Try.func6, Try.ntmps6
    go_wp2_with (fail)
    go_ret
    exact ⟨by rw [E.out] <;> rfl, BA.out⟩
  by_cases h3 : 1125899906842624 < p
  · have E := Lib.hid (chk_range (z := z) h0 h1 (.inr h3))
    clear S h1 h0
    go_enter Try.func6, Try.ntmps6
    go_wp2_with (fail)
    go_ret
    exact ⟨by rw [E.out] <;> rfl, BA.out⟩
  have E := Lib.hid (chk_scan (z := z) h0 h1 h2 h3)
  have CB : Hid ((w.alloc (.cells #[.int .i64 p, .slice a n c] 24)).heap[w.heap.size]? = some (.cells #[.int .i64 p, .slice a n c] 24 (0, 0))) := Lib.hid (Hp.blk_new _ _)
  have SA := Lib.hid (S.later BA.out)
  clear S h0
  go_enter Try.func6, Try.ntmps6
  go_wp2_with (fail)
  obtain ⟨wb, hwb⟩ : ∃ wb, w.alloc (.cells #[.int .i64 p, .slice a n c] 24) = wb := ⟨_, rfl⟩
  rw [hwb] at BA CB SA
  rw [hwb]
  have lc := Hp.blk_lt CB.out
  clear hwb
  go_loopw [27] (fun c wr => ∃ k : Nat, k ≤ n ∧ c = .int .i64 k ∧ Tx.scan z k = 0 ∧ Below wb.heap.size wb wr) (fun c _ => n - (intOf c).toNat)
  case atStart => exact ⟨0, by omega, rfl, rfl, Below.refl _ _⟩
  case round =>
    obtain ⟨k, hk, rfl, hs, hB⟩ := hrel
    have HB := Lib.hid hB; have HS := Lib.hid hs
    have hbs := hB.size
    have C2 := Lib.hid ((hB.block _ lc).trans CB.out)
    have S2 := Lib.hid (SA.out.later hB)
    have bc := Hp.blk_cell (o := 1) C2.out rfl
    have lw : w.heap.size < wr.heap.size := Hp.blk_lt C2.out
    clear hB hs
    by_cases hlt : k < n
    · obtain ⟨b, o, rfl, hb, c0, c1⟩ := ss_elem2 S2.out hlt
      have prev := Lib.hid (fun (m : Nat) (hm : m + 1 = k) => show wr.cell? ⟨b, o + m * 2, none⟩ = some (.int .i64 (z m 0)) from by
        obtain ⟨b', o', e, _, d0, _⟩ := ss_elem2 S2.out (show m < n by omega)
        injection e with e; injection e with e1 e2; subst e1; subst e2; exact d0)
      have S3 := Lib.hid (fun h => Tx.scan_no (n := n) (r := 3) HS.out (@seg_3 z k h) (by decide) hlt)
      have S7 := Lib.hid (fun h g => Tx.scan_no (n := n) (r := 7) HS.out (@seg_7 z k h g) (by decide) hlt)
      have S12 := Lib.hid (fun h g => Tx.scan_no (n := n) (r := 12) HS.out (@seg_12 z k h g) (by decide) hlt)
      have S0 := Lib.hid (fun h g q => Tx.scan_go HS.out (@seg_0 z k h g q))
      have BX := Lib.hid (fun (x y : Int) => show Below w.heap.size w (wr.alloc (.cells #[.int .i64 x, .int .i64 y] 44)) from by have := bl_next BA.out HB.out; have := this.size; (repeat (first | exact Below.refl _ _ | refine Below.drew ?_ | refine Hp.drewN ?_ _ | refine Below.setCell ?_ (by first | (simp; done) | (simp; omega) | omega) _ | refine Below.alloc ?_ (by first | (simp; done) | (simp; omega) | omega) _ | (refine Hp.step ?_ (by assumption)))))
      have BY := Lib.hid (fun (x y : Int) => show Below wb.heap.size wb (wr.alloc (.cells #[.int .i64 x, .int .i64 y] 44)) from by have := HB.out; (repeat (first | exact Below.refl _ _ | refine Below.drew ?_ | refine Hp.drewN ?_ _ | refine Below.setCell ?_ (by first | (simp; done) | (simp; omega) | omega) _ | refine Below.alloc ?_ (by first | (simp; done) | (simp; omega) | omega) _ | (refine Hp.step ?_ (by assumption)))))
      obtain ⟨X, eX⟩ : ∃ X, z k 0 = X := ⟨_, rfl⟩
      obtain ⟨Y, eY⟩ : ∃ Y, z k 1 = Y := ⟨_, rfl⟩
      rw [eX] at c0 S3 S7 S12 S0; rw [eY] at c1 S3 S7 S12 S0
      clear eX eY
      by_cases x1 : X < 0
      · have Q := Lib.hid (S3.out (.inl x1))
        go_wp2_with (fail)
        go_ret
        exact ⟨by rw [E.out, Q.out] <;> rfl, BX.out _ _⟩
      by_cases x2 : 1125899906842624 < X
      · have Q := Lib.hid (S3.out (.inr (.inl x2)))
        go_wp2_with (fail)
        go_ret
        exact ⟨by rw [E.out, Q.out] <;> rfl, BX.out _ _⟩
      by_cases x3 : Y < -500000
      · have Q := Lib.hid (S3.out (.inr (.inr (.inl x3))))
        go_wp2_with (fail)
        go_ret
        exact ⟨by rw [E.out, Q.out] <;> rfl, BX.out _ _⟩
      by_cases x4 : 500000 < Y
      · have Q := Lib.hid (S3.out (.inr (.inr (.inr x4))))
        go_wp2_with (fail)
        go_ret
        exact ⟨by rw [E.out, Q.out] <;> rfl, BX.out _ _⟩
      have NO : ¬ (X < 0 ∨ 1125899906842624 < X ∨ Y < -500000 ∨ 500000 < Y) := by omega
      rcases k with _ | m
      · rw [Nat.zero_mul, Nat.add_zero] at c0 c1
        by_cases x5 : X = 0
        · have Q := Lib.hid (S0.out NO (fun h => h.2 x5) (fun h => absurd h.1 (by omega)))
          have x5' : (X != 0) = false := by simpa using x5
          clear S3 S7 S12 S0 NO x5 prev
          go_wp2_with (fail)
          go_quiet (fail)
          go_wp2_with (fail)
          go_roundw
          case rel => exact ⟨1, by omega, by go_num, Q.out, by first | exact BY.out _ _ | exact Hp.drewN (BY.out _ _) _⟩
          case measure => (simp [intOf] <;> omega)
        · have Q := Lib.hid (S7.out NO ⟨rfl, x5⟩)
          have x5' : (X != 0) = true := by simpa using x5
          clear S3 S7 S12 S0 NO x5 prev
          go_wp2_with (fail)
          go_ret
          exact ⟨by rw [E.out, Q.out] <;> rfl, BX.out _ _⟩
      · have d0 := prev.out m rfl
        have hm : m < n := by omega
        have k0 : ((((m + 1 : Nat) : Int)) == 0) = false := by simp; omega
        have kp : (0 : Int) < ((m + 1 : Nat) : Int) := by omega
        have k0' : (((m : Int) + 1) == 0) = false := by simp; omega
        have kp' : (0 : Int) < (m : Int) + 1 := by omega
        have kw : (m : Int) + 1 - 1 = m := by omega
        obtain ⟨Z, eZ⟩ : ∃ Z, z m 0 = Z := ⟨_, rfl⟩
        rw [eZ] at d0
        by_cases x6 : X ≤ Z
        · have Q := Lib.hid (S12.out NO ⟨by omega, by simpa [eZ] using x6⟩)
          clear S3 S7 S12 S0 NO prev eZ
          go_wp2_with (fail)
          go_quiet (fail)
          go_wp2_with (fail)
          go_ret
          exact ⟨by rw [E.out, Q.out] <;> rfl, by first | exact BX.out _ _ | exact Hp.drewN (BX.out _ _) _⟩
        · have Q := Lib.hid (S0.out NO (fun h => absurd h.1 (by omega)) (fun h => x6 (by simpa [eZ] using h.2)))
          clear S3 S7 S12 S0 NO prev eZ
          go_wp2_with (fail)
          go_quiet (fail)
          go_wp2_with (fail)
          go_roundw
          case rel => exact ⟨m + 1 + 1, by omega, by go_num, Q.out, by first | exact BY.out _ _ | exact Hp.drewN (BY.out _ _) _⟩
          case measure => (simp [intOf] <;> omega)
    · obtain rfl : n = k := by omega
      go_wp2_with (fail)
      go_ret
      exact ⟨by rw [E.out, HS.out] <;> rfl, bl_next BA.out HB.out⟩
end Go.Proofs.Ytpkbhhconiklbaa.TxW
