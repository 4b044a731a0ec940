/- Contracts of layer 48: Allan. -/
import Derived.Test.YtbidogefodfakaaYt
import Derived.Test.YtbidogefodfakaaOr
import Derived.Outline
set_option linter.unusedVariables false
set_option linter.unusedSimpArgs false
namespace Go.Proofs.Ytbidogefodfakaa.YxW
open Go.RowKit Ls Orw
theorem second_at {a : Option Addr} {len cap : Nat} {x : Nat → Int} {i n : Nat} {w : World} {v : Int} (S : Is w a len x) (B : Sm len x) (h : i + 2 * n < len) (hl : len ≤ 1024) (e : Hid (Yx.sd x n i = v)) :
    Calls Try.prog 34 #[.slice a len cap, .int .i64 i, .int .i64 n] w fun e w' => e = .returned (.int .i64 v) ∧ ∃ q, w' = w.drewN q := by
  rw [← e.out]; exact second_any a len cap x i n w S B h hl
theorem rsecond_at {a : Option Addr} {len cap : Nat} {x : Nat → Int} {i n : Nat} {w : World} {v : Int} (S : Is w a len x) (B : Sm len x) (h : i + 2 * n < len) (hl : len ≤ 1024) (e : Hid (Yx.sd x n i = v)) :
    Calls Try.prog 37 #[.slice a len cap, .int .i64 i, .int .i64 n] w fun e w' => e = .returned (.int .i64 v) ∧ ∃ q, w' = w.drewN q := by
  rw [← e.out]; exact rsecond_any a len cap x i n w S B h hl
/-- the first k numbers are those of f -/
def part (f : Nat → Int) (k i : Nat) : Int := if i < k then f i else 0
theorem part_zero (f : Nat → Int) : part f 0 = fun _ => 0 := by funext i; unfold part; rw [if_neg (by omega)]
theorem part_succ (f : Nat → Int) (k : Nat) : upd (part f k) k (f k) = part f (k + 1) := by
  funext i; unfold upd part
  by_cases e : i = k
  · subst e; rw [if_pos rfl, if_pos (by omega)]
  · rw [if_neg e]
    by_cases h : i < k
    · rw [if_pos h, if_pos (by omega)]
    · rw [if_neg h, if_neg (by omega)]
theorem part_all (f : Nat → Int) {k i : Nat} (h : i < k) : part f k i = f i := by unfold part; rw [if_pos h]
def rat0 : Value := .agg #[.int .i64 0, .int .i64 0]
def RatPost (len : Nat) (N D E : Int) (w : World) (e : Ending) (w' : World) : Prop := e = .returned (.tuple #[.agg #[.int .i64 N, .int .i64 D], .int .i64 E]) ∧ Below w.heap.size w w'
set_option maxHeartbeats 4000000 in
theorem allan_no (a : Option Addr) (len cap : Nat) (x : Nat → Int) (n : Int) (w : World) (S : Is w a len x) (hl : len ≤ 9223372036854775807) (h : ¬ (Yx.chk len x = 0 ∧ 1 ≤ n ∧ 2 * n < len)) :
    Calls Try.prog 18 #[.slice a len cap, .int .i64 n] w fun e w' => e = .returned (.tuple #[.agg #[.int .i64 0, .int .i64 0], .int .i64 (Yx.alE len x n)]) ∧ Below w.heap.size w w' := by
  have hS := Lib.hid (S.later ((Below.refl w.heap.size w).alloc (Nat.le_refl _) (.cells #[.int .i64 0, .int .i64 0] 31)))
  have hl0 : (0 : Int) ≤ (len : Int) := by omega
  have hl' : (len : Int) ≤ 9223372036854775807 := by omega
  by_cases hc : Yx.chk len x = 0
  · have C := Lib.hid hc
    have R2 : Hid (Yx.alE len x n = 3) := Lib.hid (by unfold Yx.alE; rw [if_pos hc, if_neg (by omega)])
    by_cases h1 : n < 1
    · clear S h hc
      go_enter Try.func18, Try.ntmps18
      go_wp2_with (go_at_call 16; refine (check_at hS.out C).mono ?_; rintro e w' ⟨rfl, rfl⟩)
      refine bodyPost_ret (v := .tuple #[.agg #[.int .i64 0, .int .i64 0], .int .i64 3]) (by simp [results, Try.results18, go_sem]) rfl ⟨by rw [R2.out], ?_⟩
      (repeat (first | exact Below.refl _ _ | refine Below.drew ?_ | refine Hp.drewN ?_ _ | refine Below.setCell ?_ (by first | (simp; done) | (simp; omega) | omega) _ | refine Below.alloc ?_ (by first | (simp; done) | (simp; omega) | omega) _ | (refine Hp.step ?_ (by assumption))))
    · have h2 : ((len : Int) - 1).tdiv 2 < n := by
        by_cases g : len = 0
        · subst g; have e0 : (((0 : Nat) : Int) - 1).tdiv 2 = 0 := by decide
          omega
        · rw [Int.tdiv_eq_ediv_of_nonneg (by omega)]; omega
      clear S h hc
      go_enter Try.func18, Try.ntmps18
      go_wp2_with (go_at_call 16; refine (check_at hS.out C).mono ?_; rintro e w' ⟨rfl, rfl⟩)
      refine bodyPost_ret (v := .tuple #[.agg #[.int .i64 0, .int .i64 0], .int .i64 3]) (by simp [results, Try.results18, go_sem]) rfl ⟨by rw [R2.out], ?_⟩
      (repeat (first | exact Below.refl _ _ | refine Below.drew ?_ | refine Hp.drewN ?_ _ | refine Below.setCell ?_ (by first | (simp; done) | (simp; omega) | omega) _ | refine Below.alloc ?_ (by first | (simp; done) | (simp; omega) | omega) _ | (refine Hp.step ?_ (by assumption))))
  · have R2 : Hid (Yx.alE len x n = Yx.chk len x) := Lib.hid (by unfold Yx.alE; rw [if_neg hc])
    obtain ⟨r, hr⟩ : ∃ r, Yx.chk len x = r := ⟨_, rfl⟩
    have C := Lib.hid hr
    have hq : (r != 0) = true := by rw [hr] at hc; simpa using hc
    clear S h hc hr
    go_enter Try.func18, Try.ntmps18
    go_wp2_with (go_at_call 16; refine (check_at hS.out C).mono ?_; rintro e w' ⟨rfl, rfl⟩)
    refine bodyPost_ret (v := .tuple #[.agg #[.int .i64 0, .int .i64 0], .int .i64 r]) (by simp [results, Try.results18, go_sem]) rfl ⟨by rw [R2.out, C.out], ?_⟩
    (repeat (first | exact Below.refl _ _ | refine Below.drew ?_ | refine Hp.drewN ?_ _ | refine Below.setCell ?_ (by first | (simp; done) | (simp; omega) | omega) _ | refine Below.alloc ?_ (by first | (simp; done) | (simp; omega) | omega) _ | (refine Hp.step ?_ (by assumption))))
set_option maxHeartbeats 8000000 in
theorem allan_yes (a : Option Addr) (len cap : Nat) (x : Nat → Int) (N : Nat) (w : World) (S : Is w a len x) (hc : Yx.chk len x = 0) (h1 : 1 ≤ N) (h2 : 2 * N < len) :
    Calls Try.prog 18 #[.slice a len cap, .int .i64 N] w fun e w' => e = .returned (.tuple #[.agg #[.int .i64 (Yx.alN len x N), .int .i64 (Yx.alD len x N)], .int .i64 (Yx.alE len x N)]) ∧ Below w.heap.size w w' := by
  obtain ⟨hl, hB⟩ := Yx.chk_ok hc
  have hS := Lib.hid S; have C := Lib.hid hc; have HB := Lib.hid hB
  obtain ⟨cnt, hcnt⟩ : ∃ cnt : Nat, (len : Int) - 2 * (N : Int) = (cnt : Int) := ⟨len - 2 * N, by omega⟩
  have c1 : cnt + 2 * N = len := by omega
  have hmk := fun W => make_run cnt _ hcnt (by omega) W
  have hS1 := Lib.hid (S.later ((Below.refl w.heap.size w).alloc (Nat.le_refl _) (.cells #[.int .i64 0, .int .i64 0] 31)))
  have i1 : (1 : Int) ≤ (N : Int) := by omega
  have i2 : 2 * (N : Int) < (len : Int) := by omega
  have i3 : (len : Int) ≤ 1024 := by omega
  have i4 : ¬ ((len : Int) - 1).tdiv 2 < (N : Int) := by rw [Int.tdiv_eq_ediv_of_nonneg (by omega)]; omega
  have HCN := Lib.hid hcnt
  clear S hc hB hcnt
  go_enter Try.func18, Try.ntmps18
  go_wp2_with (go_at_call 16; refine (check_at hS1.out C).mono ?_; rintro e w' ⟨rfl, rfl⟩)
  have HO := Lib.hid (Ob.made (w.alloc (.cells #[.int .i64 0, .int .i64 0] 31)) cnt)
  have HA := Lib.hid (Hp.blk_old (y := .cells (row (fun _ => 0) cnt) 3) (Hp.blk_new w (.cells #[.int .i64 0, .int .i64 0] 31)))
  go_loopw [38] (fun c wr => ∃ k : Nat, k ≤ cnt ∧ c = .int .i64 k ∧ Ob wr (w.heap.size + 1) cnt (part (Yx.sd x N) k) ∧ wr.heap[w.heap.size]? = some (.cells #[.int .i64 0, .int .i64 0] 31 (0, 0)) ∧ Below w.heap.size w wr) (fun c _ => cnt - (intOf c).toNat)
  case atStart => exact ⟨0, by omega, rfl, by rw [part_zero]; simpa using HO.out, HA.out, by (repeat (first | exact Below.refl _ _ | refine Below.drew ?_ | refine Hp.drewN ?_ _ | refine Below.setCell ?_ (by first | (simp; done) | (simp; omega) | omega) _ | refine Below.alloc ?_ (by first | (simp; done) | (simp; omega) | omega) _ | (refine Hp.step ?_ (by assumption))))⟩
  case round =>
    obtain ⟨k, hk, rfl, o, hA, hb⟩ := hrel
    have O := Lib.hid o; have HA2 := Lib.hid hA; have HBl := Lib.hid hb
    have olt := o.lt
    clear o hA hb HO HA
    by_cases hlt : k < cnt
    · obtain ⟨v, hv⟩ : ∃ v, Yx.sd x N k = v := ⟨_, rfl⟩
      have HV := Lib.hid hv
      have q1 := O.out.cell hlt
      have q2 := O.out.free k
      rw [show part (Yx.sd x N) k k = 0 by unfold part; rw [if_neg (by omega)]] at q1
      have hk1 : (k : Int) < (cnt : Int) := by omega
      clear hv
      go_wp2_with (go_at_call 34; refine (second_at (hS.out.later HBl.out) HB.out (by omega) hl HV).mono ?_; rintro e w' ⟨rfl, nq, rfl⟩)
      go_roundw
      case rel => exact ⟨k + 1, by omega, by go_num, by have := (O.out.drewN nq).set k v; rw [← HV.out, part_succ] at this; rw [← HV.out]; exact this, Hp.blk_set_ne HA2.out (by omega), by have := HBl.out; (repeat (first | exact Below.refl _ _ | refine Below.drew ?_ | refine Hp.drewN ?_ _ | refine Below.setCell ?_ (by first | (simp; done) | (simp; omega) | omega) _ | refine Below.alloc ?_ (by first | (simp; done) | (simp; omega) | omega) _ | (refine Hp.step ?_ (by assumption))))⟩
      case measure => simp [intOf]; omega
    · obtain rfl : k = cnt := by omega
      have HI := Lib.hid (O.out.is.congr fun i hi => part_all _ hi)
      have HF : Hid (∀ i, i < k → -9223372036854775808 ≤ Yx.sd x N i ∧ Yx.sd x N i ≤ 9223372036854775807) := Lib.hid fun i hi => by
        have := Yx.sd_bd HB.out (n := N) (i := i) (by omega); omega
      go_wp2_with (fail)
      refine (squares_any _ k k (Yx.sd x N) _ HI.out (by omega) HF.out).mono ?_
      rintro e w2 ⟨rfl, B2⟩
      have HB2 := Lib.hid (HBl.out.trans (B2.mono HBl.out.size))
      have hA3 : w2.heap[w.heap.size]? = some (.cells #[.int .i64 0, .int .i64 0] 31 (0, 0)) := (B2.block _ (by omega)).trans HA2.out
      have ec : len - 2 * N = k := by omega
      by_cases g : Yx.sqs (Yx.sd x N) k ≤ 9223372036854775807
      · have g0 := Yx.sqs_nonneg (Yx.sd x N) k
        have HY := Lib.hid (sqV_yes g)
        have ok : Yx.alOk len x N := ⟨C.out, by omega, by omega, by rw [Int.toNat_natCast, ec]; exact g⟩
        have EN : Hid (Yx.alN len x N = Yx.rN (Yx.sqs (Yx.sd x N) k) (2 * (len - 2 * N))) := Lib.hid (by unfold Yx.alN; rw [if_pos ok, Int.toNat_natCast, ec])
        have ED : Hid (Yx.alD len x N = Yx.rD (Yx.sqs (Yx.sd x N) k) (2 * (len - 2 * N))) := Lib.hid (by unfold Yx.alD; rw [if_pos ok, Int.toNat_natCast, ec])
        have EE : Hid (Yx.alE len x N = 0) := Lib.hid (by unfold Yx.alE; rw [if_pos C.out, if_pos ⟨by omega, by omega⟩, Int.toNat_natCast, ec]; exact HY.out.2)
        rw [HY.out.1, HY.out.2]
        obtain ⟨s, hs⟩ : ∃ s, Yx.sqs (Yx.sd x N) k = s := ⟨_, rfl⟩
        rw [hs] at g g0
        have HSs := Lib.hid hs
        have HA3 := Lib.hid hA3
        rw [hs]
        clear B2 hA3 ok hs
        go_wp2_with (fail)
        refine (ratio_any s (2 * (len - 2 * N)) g0 g (by omega) (by omega) _).mono ?_
        rintro e w3 ⟨rfl, B3⟩
        have HB3 := Lib.hid (HB2.out.trans (B3.mono HB2.out.size))
        have hA4 : w3.heap[w.heap.size]? = some (.cells #[.int .i64 0, .int .i64 0] 31 (0, 0)) := (B3.block _ (Hp.blk_lt HA3.out)).trans HA3.out
        have t0 : w3.cell? ⟨w.heap.size, 0, none⟩ = some (.int .i64 0) := Hp.blk_cell hA4 rfl
        have t1 : w3.cell? ⟨w.heap.size, 1, none⟩ = some (.int .i64 0) := Hp.blk_cell hA4 rfl
        have t2 : w3.frozen? ⟨w.heap.size, 0, none⟩ = false := Hp.blk_free hA4
        have t3 : w3.frozen? ⟨w.heap.size, 1, none⟩ = false := Hp.blk_free hA4
        clear B3 hA4 O HA2 HBl
        obtain ⟨rn, hrn⟩ : ∃ r, Yx.rN s (2 * (len - 2 * N)) = r := ⟨_, rfl⟩
        obtain ⟨rd, hrd⟩ : ∃ r, Yx.rD s (2 * (len - 2 * N)) = r := ⟨_, rfl⟩
        rw [hrn, hrd]
        have HRN := Lib.hid hrn; have HRD := Lib.hid hrd
        clear hrn hrd
        go_wp2_with (fail)
        refine bodyPost_ret (v := .tuple #[.agg #[.int .i64 rn, .int .i64 rd], .int .i64 0]) (by simp [results, Try.results18, go_sem, t0, t1, t2, t3]) rfl ⟨by rw [EN.out, ED.out, EE.out, HSs.out, HRN.out, HRD.out], ?_⟩
        have := HB3.out
        (repeat (first | exact Below.refl _ _ | refine Below.drew ?_ | refine Hp.drewN ?_ _ | refine Below.setCell ?_ (by first | (simp; done) | (simp; omega) | omega) _ | refine Below.alloc ?_ (by first | (simp; done) | (simp; omega) | omega) _ | (refine Hp.step ?_ (by assumption))))
      · have HY := Lib.hid (sqV_no g)
        have no : ¬ Yx.alOk len x N := fun ⟨_, _, _, h⟩ => by rw [Int.toNat_natCast, ec] at h; exact g h
        have EN : Hid (Yx.alN len x N = 0) := Lib.hid (by unfold Yx.alN; rw [if_neg no])
        have ED : Hid (Yx.alD len x N = 0) := Lib.hid (by unfold Yx.alD; rw [if_neg no])
        have EE : Hid (Yx.alE len x N = 4) := Lib.hid (by unfold Yx.alE; rw [if_pos C.out, if_pos ⟨by omega, by omega⟩, Int.toNat_natCast, ec]; exact HY.out.2)
        rw [HY.out.1, HY.out.2]
        have t0 : w2.cell? ⟨w.heap.size, 0, none⟩ = some (.int .i64 0) := Hp.blk_cell hA3 rfl
        have t1 : w2.cell? ⟨w.heap.size, 1, none⟩ = some (.int .i64 0) := Hp.blk_cell hA3 rfl
        have t2 : w2.frozen? ⟨w.heap.size, 0, none⟩ = false := Hp.blk_free hA3
        have t3 : w2.frozen? ⟨w.heap.size, 1, none⟩ = false := Hp.blk_free hA3
        clear B2 hA3 no g
        go_wp2_with (fail)
        refine bodyPost_ret (v := .tuple #[.agg #[.int .i64 0, .int .i64 0], .int .i64 4]) (by simp [results, Try.results18, go_sem, t0, t1, t2, t3]) rfl ⟨by rw [EN.out, ED.out, EE.out], ?_⟩
        have := HB2.out
        (repeat (first | exact Below.refl _ _ | refine Below.drew ?_ | refine Hp.drewN ?_ _ | refine Below.setCell ?_ (by first | (simp; done) | (simp; omega) | omega) _ | refine Below.alloc ?_ (by first | (simp; done) | (simp; omega) | omega) _ | (refine Hp.step ?_ (by assumption))))
end Go.Proofs.Ytbidogefodfakaa.YxW
