/- Contracts of layer 48: the reference's Allan. -/
import Derived.Test.YtbidogefodfakaaYa
import Derived.Test.YtbidogefodfakaaOs
set_option linter.unusedVariables false
set_option linter.unusedSimpArgs false
namespace Go.Proofs.Ytbidogefodfakaa.YxW
open Go.RowKit Ls Orw Rw
theorem allan_any (a : Option Addr) (len cap : Nat) (x : Nat → Int) (n : Int) (w : World) (S : Is w a len x) (hl : len ≤ 9223372036854775807) :
    Calls Try.prog 18 #[.slice a len cap, .int .i64 n] w fun e w' => e = .returned (.tuple #[.agg #[.int .i64 (Yx.alN len x n), .int .i64 (Yx.alD len x n)], .int .i64 (Yx.alE len x n)]) ∧ Below w.heap.size w w' := by
  by_cases h : Yx.chk len x = 0 ∧ 1 ≤ n ∧ 2 * n < len
  · obtain ⟨N, rfl⟩ := Int.eq_ofNat_of_zero_le (show 0 ≤ n by omega)
    exact allan_yes a len cap x N w S h.1 (by omega) (by omega)
  · have no : ¬ Yx.alOk len x n := fun ⟨h1, h2, h3, _⟩ => h ⟨h1, h2, h3⟩
    rw [show Yx.alN len x n = 0 by unfold Yx.alN; rw [if_neg no], show Yx.alD len x n = 0 by unfold Yx.alD; rw [if_neg no]]
    exact allan_no a len cap x n w S hl h
set_option maxHeartbeats 4000000 in
theorem rallan_no (a : Option Addr) (len cap : Nat) (x : Nat → Int) (n : Int) (w : World) (S : Is w a len x) (hl : len ≤ 9223372036854775807) (h : ¬ (Yx.chk len x = 0 ∧ 1 ≤ n ∧ 2 * n < len)) :
    Calls Try.prog 19 #[.slice a len cap, .int .i64 n] w fun e w' => e = .returned (.tuple #[.agg #[.int .i64 0, .int .i64 0], .int .i64 (Yx.alE len x n)]) ∧ Below w.heap.size w w' := by
  have hS := Lib.hid (S.later ((Below.refl w.heap.size w).alloc (Nat.le_refl _) (.cells #[.int .i64 0, .int .i64 0] 31)))
  have hl0 : (0 : Int) ≤ (len : Int) := by omega
  have hl' : (len : Int) ≤ 9223372036854775807 := by omega
  by_cases hc : Yx.chk len x = 0
  · have C := Lib.hid hc
    have R2 : Hid (Yx.alE len x n = 3) := Lib.hid (by unfold Yx.alE; rw [if_pos hc, if_neg (by omega)])
    have hl1 := (Yx.chk_ok hc).1
    have hl2 : (len : Int) ≤ 1024 := by omega
    by_cases h1 : n < 1
    · clear S h hc
      go_enter Try.func19, Try.ntmps19
      go_wp2_with (go_at_call 17; refine (rcheck_at hS.out C).mono ?_; rintro e w' ⟨rfl, rfl⟩)
      refine bodyPost_ret (v := .tuple #[.agg #[.int .i64 0, .int .i64 0], .int .i64 3]) (by simp [results, Try.results19, go_sem]) rfl ⟨by rw [R2.out], ?_⟩
      (repeat (first | exact Below.refl _ _ | refine Below.drew ?_ | refine Hp.drewN ?_ _ | refine Below.setCell ?_ (by first | (simp; done) | (simp; omega) | omega) _ | refine Below.alloc ?_ (by first | (simp; done) | (simp; omega) | omega) _ | (refine Hp.step ?_ (by assumption))))
    · by_cases h3 : (len : Int) < n
      · clear S h hc
        go_enter Try.func19, Try.ntmps19
        go_wp2_with (go_at_call 17; refine (rcheck_at hS.out C).mono ?_; rintro e w' ⟨rfl, rfl⟩)
        refine bodyPost_ret (v := .tuple #[.agg #[.int .i64 0, .int .i64 0], .int .i64 3]) (by simp [results, Try.results19, go_sem]) rfl ⟨by rw [R2.out], ?_⟩
        (repeat (first | exact Below.refl _ _ | refine Below.drew ?_ | refine Hp.drewN ?_ _ | refine Below.setCell ?_ (by first | (simp; done) | (simp; omega) | omega) _ | refine Below.alloc ?_ (by first | (simp; done) | (simp; omega) | omega) _ | (refine Hp.step ?_ (by assumption))))
      · have h2 : (len : Int) ≤ 2 * n := by omega
        clear S h hc
        go_enter Try.func19, Try.ntmps19
        go_wp2_with (go_at_call 17; refine (rcheck_at hS.out C).mono ?_; rintro e w' ⟨rfl, rfl⟩)
        refine bodyPost_ret (v := .tuple #[.agg #[.int .i64 0, .int .i64 0], .int .i64 3]) (by simp [results, Try.results19, go_sem]) rfl ⟨by rw [R2.out], ?_⟩
        (repeat (first | exact Below.refl _ _ | refine Below.drew ?_ | refine Hp.drewN ?_ _ | refine Below.setCell ?_ (by first | (simp; done) | (simp; omega) | omega) _ | refine Below.alloc ?_ (by first | (simp; done) | (simp; omega) | omega) _ | (refine Hp.step ?_ (by assumption))))
  · have R2 : Hid (Yx.alE len x n = Yx.chk len x) := Lib.hid (by unfold Yx.alE; rw [if_neg hc])
    obtain ⟨r, hr⟩ : ∃ r, Yx.chk len x = r := ⟨_, rfl⟩
    have C := Lib.hid hr
    have hq : (r != 0) = true := by rw [hr] at hc; simpa using hc
    clear S h hc hr
    go_enter Try.func19, Try.ntmps19
    go_wp2_with (go_at_call 17; refine (rcheck_at hS.out C).mono ?_; rintro e w' ⟨rfl, rfl⟩)
    refine bodyPost_ret (v := .tuple #[.agg #[.int .i64 0, .int .i64 0], .int .i64 r]) (by simp [results, Try.results19, go_sem]) rfl ⟨by rw [R2.out, C.out], ?_⟩
    (repeat (first | exact Below.refl _ _ | refine Below.drew ?_ | refine Hp.drewN ?_ _ | refine Below.setCell ?_ (by first | (simp; done) | (simp; omega) | omega) _ | refine Below.alloc ?_ (by first | (simp; done) | (simp; omega) | omega) _ | (refine Hp.step ?_ (by assumption))))
set_option maxHeartbeats 8000000 in
theorem rallan_yes (a : Option Addr) (len cap : Nat) (x : Nat → Int) (N : Nat) (w : World) (S : Is w a len x) (hc : Yx.chk len x = 0) (h1 : 1 ≤ N) (h2 : 2 * N < len) :
    Calls Try.prog 19 #[.slice a len cap, .int .i64 N] w fun e w' => e = .returned (.tuple #[.agg #[.int .i64 (Yx.alN len x N), .int .i64 (Yx.alD len x N)], .int .i64 (Yx.alE len x N)]) ∧ Below w.heap.size w w' := by
  obtain ⟨hl, hB⟩ := Yx.chk_ok hc
  have hS := Lib.hid S; have C := Lib.hid hc; have HB := Lib.hid hB
  obtain ⟨cnt, hcnt⟩ : ∃ cnt : Nat, (len : Int) - 2 * (N : Int) = (cnt : Int) := ⟨len - 2 * N, by omega⟩
  have c1 : cnt + 2 * N = len := by omega
  have hS1 := Lib.hid (S.later ((Below.refl w.heap.size w).alloc (Nat.le_refl _) (.cells #[.int .i64 0, .int .i64 0] 31)))
  have i1 : (1 : Int) ≤ (N : Int) := by omega
  have i2 : 2 * (N : Int) < (len : Int) := by omega
  have i3 : (len : Int) ≤ 1024 := by omega
  have HCN := Lib.hid hcnt
  have d0 : decide (len < N) = false := decide_eq_false (by omega)
  clear S hc hB hcnt
  go_enter Try.func19, Try.ntmps19
  go_wp2_with (go_at_call 17; refine (rcheck_at hS1.out C).mono ?_; rintro e w' ⟨rfl, rfl⟩)
  have HA := Lib.hid (Hp.blk_new w (.cells #[.int .i64 0, .int .i64 0] 31))
  go_loopw [8, 7] (fun c d wr => ∃ k : Nat, k ≤ cnt ∧ c = .int .i64 k ∧ Row wr (w.heap.size + 1) d ((List.range k).map (Yx.sd x N)) ∧ wr.heap[w.heap.size]? = some (.cells #[.int .i64 0, .int .i64 0] 31 (0, 0)) ∧ Below w.heap.size w wr ∧ w.heap.size < wr.heap.size) (fun c _ _ => cnt - (intOf c).toNat)
  case atStart => exact ⟨0, by omega, rfl, Row.nil _ _, HA.out, by (repeat (first | exact Below.refl _ _ | refine Below.drew ?_ | refine Hp.drewN ?_ _ | refine Below.setCell ?_ (by first | (simp; done) | (simp; omega) | omega) _ | refine Below.alloc ?_ (by first | (simp; done) | (simp; omega) | omega) _ | (refine Hp.step ?_ (by assumption)))), by simp⟩
  case round =>
    obtain ⟨k, hk, rfl, hR, hA, hb, hz⟩ := hrel
    have HR := Lib.hid hR; have HA2 := Lib.hid hA; have HBl := Lib.hid hb
    clear hR hA hb HA
    have k2 : (k : Int) ≤ (len : Int) := by omega
    by_cases hlt : k < cnt
    · obtain ⟨v, hv⟩ : ∃ v, Yx.sd x N k = v := ⟨_, rfl⟩
      have HV := Lib.hid hv
      have hk1 : (k : Int) + 2 * (N : Int) < (len : Int) := by omega
      clear hv
      go_wp2_with (first | (go_at_call 37; refine (rsecond_at (hS.out.later HBl.out) HB.out (by omega) hl HV).mono ?_; rintro e w' ⟨rfl, nq, rfl⟩; have AP := Lib.hid (Ap.mkN HR.out hz v nq); have BX := Lib.hid (Hp.drewN (Below.alloc HBl.out (Nat.le_of_lt hz) (.cells #[.int .i64 v] 3)) nq); have AX := Lib.hid (Hp.blk_old (y := .cells #[.int .i64 v] 3) HA2.out)) | (at_builtin; refine append_int rfl (.tmp 42) (.tmp 47) rfl rfl AP.out.row ⟨wr.heap.size, 0, none⟩ rfl AP.out.cell (by simp; omega) AP.out.base ?_; intro v2 w2 R2 G2; have HR2 := Lib.hid R2; have HG2 := Lib.hid G2; clear R2 G2))
      have hz2 : w.heap.size < w2.heap.size := by
        have e1 : ((wr.alloc (.cells #[.int .i64 v] 3)).drewN nq).heap.size ≤ w2.heap.size := HG2.out.size
        have := AP.out.base; omega
      go_roundw
      case rel => exact ⟨k + 1, by omega, by go_num, by rw [range_succ, HV.out]; exact HR2.out, Row.grown AP.out.row (show ((wr.alloc (.cells #[.int .i64 v] 3)).drewN nq).heap[w.heap.size]? = _ from AX.out) (by decide) HG2.out, Row.below AP.out.row (by omega) HG2.out BX.out (by have := AP.out.base; omega), hz2⟩
      case measure => simp [intOf]; omega
    · obtain rfl : k = cnt := by omega
      obtain ⟨ad, dcap, rfl, hI⟩ := is_of_row HR.out
      have HI := Lib.hid hI
      have HF : Hid (∀ i, i < k → -9223372036854775808 ≤ Yx.sd x N i ∧ Yx.sd x N i ≤ 9223372036854775807) := Lib.hid fun i hi => by
        have := Yx.sd_bd HB.out (n := N) (i := i) (by omega); omega
      have hk3 : ¬ ((k : Int) + 2 * (N : Int) < (len : Int)) := by omega
      clear hI
      go_wp2_with (fail)
      refine (rsquares_any _ k dcap (Yx.sd x N) _ HI.out (by omega) HF.out).mono ?_
      rintro e w2 ⟨rfl, B2⟩
      have HB2 := Lib.hid (HBl.out.trans (B2.mono HBl.out.size))
      have hA3 : w2.heap[w.heap.size]? = some (.cells #[.int .i64 0, .int .i64 0] 31 (0, 0)) := (B2.block _ (by omega)).trans HA2.out
      have ec : len - 2 * N = k := by omega
      by_cases g : Yx.sqs (Yx.sd x N) k ≤ 9223372036854775807
      · have g0 := Yx.sqs_nonneg (Yx.sd x N) k
        have HY := Lib.hid (sqV_yes g)
        have SB : Hid (sqB (Yx.sd x N) k = true) := Lib.hid (decide_eq_true g)
        have ok : Yx.alOk len x N := ⟨C.out, by omega, by omega, by rw [Int.toNat_natCast, ec]; exact g⟩
        have EN : Hid (Yx.alN len x N = Yx.rN (Yx.sqs (Yx.sd x N) k) (2 * (len - 2 * N))) := Lib.hid (by unfold Yx.alN; rw [if_pos ok, Int.toNat_natCast, ec])
        have ED : Hid (Yx.alD len x N = Yx.rD (Yx.sqs (Yx.sd x N) k) (2 * (len - 2 * N))) := Lib.hid (by unfold Yx.alD; rw [if_pos ok, Int.toNat_natCast, ec])
        have EE : Hid (Yx.alE len x N = 0) := Lib.hid (by unfold Yx.alE; rw [if_pos C.out, if_pos ⟨by omega, by omega⟩, Int.toNat_natCast, ec]; exact HY.out.2)
        rw [HY.out.1, SB.out]
        obtain ⟨s, hs⟩ : ∃ s, Yx.sqs (Yx.sd x N) k = s := ⟨_, rfl⟩
        rw [hs] at g g0
        have HSs := Lib.hid hs
        have HA3 := Lib.hid hA3
        rw [hs]
        clear B2 hA3 ok hs
        go_wp2_with (fail)
        refine (rat_any s (2 * (len - 2 * N)) g0 g (by omega) (by omega) _).mono ?_
        rintro e w3 ⟨rfl, B3⟩
        have HB3 := Lib.hid (HB2.out.trans (B3.mono HB2.out.size))
        have hA4 : w3.heap[w.heap.size]? = some (.cells #[.int .i64 0, .int .i64 0] 31 (0, 0)) := (B3.block _ (Hp.blk_lt HA3.out)).trans HA3.out
        have t0 : w3.cell? ⟨w.heap.size, 0, none⟩ = some (.int .i64 0) := Hp.blk_cell hA4 rfl
        have t1 : w3.cell? ⟨w.heap.size, 1, none⟩ = some (.int .i64 0) := Hp.blk_cell hA4 rfl
        have t2 : w3.frozen? ⟨w.heap.size, 0, none⟩ = false := Hp.blk_free hA4
        have t3 : w3.frozen? ⟨w.heap.size, 1, none⟩ = false := Hp.blk_free hA4
        clear B3 hA4 HA2 HBl
        obtain ⟨rn, hrn⟩ : ∃ r, Yx.rN s (2 * (len - 2 * N)) = r := ⟨_, rfl⟩
        obtain ⟨rd, hrd⟩ : ∃ r, Yx.rD s (2 * (len - 2 * N)) = r := ⟨_, rfl⟩
        rw [hrn, hrd]
        have HRN := Lib.hid hrn; have HRD := Lib.hid hrd
        clear hrn hrd
        go_wp2_with (fail)
        refine bodyPost_ret (v := .tuple #[.agg #[.int .i64 rn, .int .i64 rd], .int .i64 0]) (by simp [results, Try.results19, go_sem, t0, t1, t2, t3]) rfl ⟨by rw [EN.out, ED.out, EE.out, HSs.out, HRN.out, HRD.out], ?_⟩
        have := HB3.out
        (repeat (first | exact Below.refl _ _ | refine Below.drew ?_ | refine Hp.drewN ?_ _ | refine Below.setCell ?_ (by first | (simp; done) | (simp; omega) | omega) _ | refine Below.alloc ?_ (by first | (simp; done) | (simp; omega) | omega) _ | (refine Hp.step ?_ (by assumption))))
      · have HY := Lib.hid (sqV_no g)
        have SB : Hid (sqB (Yx.sd x N) k = false) := Lib.hid (decide_eq_false g)
        have no : ¬ Yx.alOk len x N := fun ⟨_, _, _, h⟩ => by rw [Int.toNat_natCast, ec] at h; exact g h
        have EN : Hid (Yx.alN len x N = 0) := Lib.hid (by unfold Yx.alN; rw [if_neg no])
        have ED : Hid (Yx.alD len x N = 0) := Lib.hid (by unfold Yx.alD; rw [if_neg no])
        have EE : Hid (Yx.alE len x N = 4) := Lib.hid (by unfold Yx.alE; rw [if_pos C.out, if_pos ⟨by omega, by omega⟩, Int.toNat_natCast, ec]; exact HY.out.2)
        rw [HY.out.1, SB.out]
        have t0 : w2.cell? ⟨w.heap.size, 0, none⟩ = some (.int .i64 0) := Hp.blk_cell hA3 rfl
        have t1 : w2.cell? ⟨w.heap.size, 1, none⟩ = some (.int .i64 0) := Hp.blk_cell hA3 rfl
        have t2 : w2.frozen? ⟨w.heap.size, 0, none⟩ = false := Hp.blk_free hA3
        have t3 : w2.frozen? ⟨w.heap.size, 1, none⟩ = false := Hp.blk_free hA3
        clear B2 hA3 no g
        go_wp2_with (fail)
        refine bodyPost_ret (v := .tuple #[.agg #[.int .i64 0, .int .i64 0], .int .i64 4]) (by simp [results, Try.results19, go_sem, t0, t1, t2, t3]) rfl ⟨by rw [EN.out, ED.out, EE.out], ?_⟩
        have := HB2.out
        (repeat (first | exact Below.refl _ _ | refine Below.drew ?_ | refine Hp.drewN ?_ _ | refine Below.setCell ?_ (by first | (simp; done) | (simp; omega) | omega) _ | refine Below.alloc ?_ (by first | (simp; done) | (simp; omega) | omega) _ | (refine Hp.step ?_ (by assumption))))
theorem rallan_any (a : Option Addr) (len cap : Nat) (x : Nat → Int) (n : Int) (w : World) (S : Is w a len x) (hl : len ≤ 9223372036854775807) :
    Calls Try.prog 19 #[.slice a len cap, .int .i64 n] w fun e w' => e = .returned (.tuple #[.agg #[.int .i64 (Yx.alN len x n), .int .i64 (Yx.alD len x n)], .int .i64 (Yx.alE len x n)]) ∧ Below w.heap.size w w' := by
  by_cases h : Yx.chk len x = 0 ∧ 1 ≤ n ∧ 2 * n < len
  · obtain ⟨N, rfl⟩ := Int.eq_ofNat_of_zero_le (show 0 ≤ n by omega)
    exact rallan_yes a len cap x N w S h.1 (by omega) (by omega)
  · have no : ¬ Yx.alOk len x n := fun ⟨h1, h2, h3, _⟩ => h ⟨h1, h2, h3⟩
    rw [show Yx.alN len x n = 0 by unfold Yx.alN; rw [if_neg no], show Yx.alD len x n = 0 by unfold Yx.alD; rw [if_neg no]]
    exact rallan_no a len cap x n w S hl h
end Go.Proofs.Ytbidogefodfakaa.YxW
