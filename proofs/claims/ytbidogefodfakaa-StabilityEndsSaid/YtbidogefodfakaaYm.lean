/- Contracts of layer 48: Modified. -/
import Derived.Test.YtbidogefodfakaaYa
import Derived.Deep.RegionLaw
set_option linter.unusedVariables false
set_option linter.unusedSimpArgs false
namespace Go.Proofs.Ytbidogefodfakaa.YxW
open Go.RowKit Ls Orw
/-- the first k numbers are those of f, number k is s -/
def pm (f : Nat → Int) (k : Nat) (s : Int) : Nat → Int := upd (part f k) k s
theorem pm_zero (f : Nat → Int) (k i : Nat) : pm f k 0 i = part f k i := by
  unfold pm upd
  by_cases e : i = k
  · rw [if_pos e]; unfold part; rw [if_neg (by omega)]
  · rw [if_neg e]
theorem pm_upd (f : Nat → Int) (k : Nat) (s t : Int) : upd (pm f k s) k t = pm f k t := by
  funext i; unfold pm upd; split <;> simp_all
theorem pm_last (x : Nat → Int) (N k : Nat) : pm (Yx.ms x N) k (Yx.sum (fun i => Yx.sd x N (k + i)) N) = part (Yx.ms x N) (k + 1) := part_succ (Yx.ms x N) k
theorem prod_bd {n : Int} (h1 : 1 ≤ n) (h2 : n ≤ 341) : 1 ≤ 2 * n * n ∧ 2 * n * n ≤ 232562 := by
  have a := Int.mul_le_mul (show (1 : Int) ≤ 2 * n by omega) h1 (by omega) (by omega)
  have b := Int.mul_le_mul (show 2 * n ≤ 682 by omega) h2 (by omega) (by omega)
  omega
theorem prod_bd2 {p c : Int} (h1 : 1 ≤ p) (h2 : p ≤ 232562) (c1 : 1 ≤ c) (c2 : c ≤ 1024) : 1 ≤ p * c ∧ p * c ≤ 1000000000 := by
  have a := Int.mul_le_mul h1 c1 (by omega) (by omega)
  have b := Int.mul_le_mul h2 c2 (by omega) (by omega)
  omega
set_option maxHeartbeats 4000000 in
theorem modified_no (a : Option Addr) (len cap : Nat) (x : Nat → Int) (n : Int) (w : World) (S : Is w a len x) (hl : len ≤ 9223372036854775807) (h : ¬ (Yx.chk len x = 0 ∧ 1 ≤ n ∧ 3 * n ≤ len)) :
    Calls Try.prog 20 #[.slice a len cap, .int .i64 n] w fun e w' => e = .returned (.tuple #[.agg #[.int .i64 0, .int .i64 0], .int .i64 (Yx.moE len x n)]) ∧ Below w.heap.size w w' := by
  have hS := Lib.hid (S.later ((Below.refl w.heap.size w).alloc (Nat.le_refl _) (.cells #[.int .i64 0, .int .i64 0] 31)))
  have hl0 : (0 : Int) ≤ (len : Int) := by omega
  have hl' : (len : Int) ≤ 9223372036854775807 := by omega
  by_cases hc : Yx.chk len x = 0
  · have C := Lib.hid hc
    have R2 : Hid (Yx.moE len x n = 3) := Lib.hid (by unfold Yx.moE; rw [if_pos hc, if_neg (by omega)])
    by_cases h1 : n < 1
    · clear S h hc
      go_enter Try.func20, Try.ntmps20
      go_wp2_with (go_at_call 16; refine (check_at hS.out C).mono ?_; rintro e w' ⟨rfl, rfl⟩)
      refine bodyPost_ret (v := .tuple #[.agg #[.int .i64 0, .int .i64 0], .int .i64 3]) (by simp [results, Try.results20, go_sem]) rfl ⟨by rw [R2.out], ?_⟩
      (repeat (first | exact Below.refl _ _ | refine Below.drew ?_ | refine Hp.drewN ?_ _ | refine Below.setCell ?_ (by first | (simp; done) | (simp; omega) | omega) _ | refine Below.alloc ?_ (by first | (simp; done) | (simp; omega) | omega) _ | (refine Hp.step ?_ (by assumption))))
    · have h2 : (len : Int) / 3 < n := by omega
      clear S h hc
      go_enter Try.func20, Try.ntmps20
      go_wp2_with (go_at_call 16; refine (check_at hS.out C).mono ?_; rintro e w' ⟨rfl, rfl⟩)
      refine bodyPost_ret (v := .tuple #[.agg #[.int .i64 0, .int .i64 0], .int .i64 3]) (by simp [results, Try.results20, go_sem]) rfl ⟨by rw [R2.out], ?_⟩
      (repeat (first | exact Below.refl _ _ | refine Below.drew ?_ | refine Hp.drewN ?_ _ | refine Below.setCell ?_ (by first | (simp; done) | (simp; omega) | omega) _ | refine Below.alloc ?_ (by first | (simp; done) | (simp; omega) | omega) _ | (refine Hp.step ?_ (by assumption))))
  · have R2 : Hid (Yx.moE len x n = Yx.chk len x) := Lib.hid (by unfold Yx.moE; rw [if_neg hc])
    obtain ⟨r, hr⟩ : ∃ r, Yx.chk len x = r := ⟨_, rfl⟩
    have C := Lib.hid hr
    have hq : (r != 0) = true := by rw [hr] at hc; simpa using hc
    clear S h hc hr
    go_enter Try.func20, Try.ntmps20
    go_wp2_with (go_at_call 16; refine (check_at hS.out C).mono ?_; rintro e w' ⟨rfl, rfl⟩)
    refine bodyPost_ret (v := .tuple #[.agg #[.int .i64 0, .int .i64 0], .int .i64 r]) (by simp [results, Try.results20, go_sem]) rfl ⟨by rw [R2.out, C.out], ?_⟩
    (repeat (first | exact Below.refl _ _ | refine Below.drew ?_ | refine Hp.drewN ?_ _ | refine Below.setCell ?_ (by first | (simp; done) | (simp; omega) | omega) _ | refine Below.alloc ?_ (by first | (simp; done) | (simp; omega) | omega) _ | (refine Hp.step ?_ (by assumption))))
set_option maxHeartbeats 8000000 in
theorem modified_yes (a : Option Addr) (len cap : Nat) (x : Nat → Int) (N : Nat) (w : World) (S : Is w a len x) (hc : Yx.chk len x = 0) (h1 : 1 ≤ N) (h2 : 3 * N ≤ len) :
    Calls Try.prog 20 #[.slice a len cap, .int .i64 N] w fun e w' => e = .returned (.tuple #[.agg #[.int .i64 (Yx.moN len x N), .int .i64 (Yx.moD len x N)], .int .i64 (Yx.moE len x N)]) ∧ Below w.heap.size w w' := by
  obtain ⟨hl, hB⟩ := Yx.chk_ok hc
  have hS := Lib.hid S; have C := Lib.hid hc; have HB := Lib.hid hB
  obtain ⟨cnt, hcnt⟩ : ∃ cnt : Nat, (len : Int) - 3 * (N : Int) + 1 = (cnt : Int) := ⟨len - 3 * N + 1, by omega⟩
  have c1 : cnt + 3 * N = len + 1 := by omega
  have hmk := fun W => make_run cnt _ hcnt (by omega) W
  have hS1 := Lib.hid (S.later ((Below.refl w.heap.size w).alloc (Nat.le_refl _) (.cells #[.int .i64 0, .int .i64 0] 31)))
  have i1 : (1 : Int) ≤ (N : Int) := by omega
  have i2 : 3 * (N : Int) ≤ (len : Int) := by omega
  have i3 : (len : Int) ≤ 1024 := by omega
  have i4 : ¬ (len : Int) / 3 < (N : Int) := by omega
  have HCN := Lib.hid hcnt
  clear S hc hB hcnt
  go_enter Try.func20, Try.ntmps20
  go_wp2_with (go_at_call 16; refine (check_at hS1.out C).mono ?_; rintro e w' ⟨rfl, rfl⟩)
  have HO := Lib.hid (Ob.made (w.alloc (.cells #[.int .i64 0, .int .i64 0] 31)) cnt)
  have HA := Lib.hid (Hp.blk_old (y := .cells (row (fun _ => 0) cnt) 3) (Hp.blk_new w (.cells #[.int .i64 0, .int .i64 0] 31)))
  go_loopw [39] (fun c wr => ∃ k : Nat, k ≤ cnt ∧ c = .int .i64 k ∧ Ob wr (w.heap.size + 1) cnt (part (Yx.ms x N) k) ∧ wr.heap[w.heap.size]? = some (.cells #[.int .i64 0, .int .i64 0] 31 (0, 0)) ∧ Below w.heap.size w wr) (fun c _ => cnt - (intOf c).toNat)
  case atStart => exact ⟨0, by omega, rfl, by rw [part_zero]; simpa using HO.out, HA.out, by (repeat (first | exact Below.refl _ _ | refine Below.drew ?_ | refine Hp.drewN ?_ _ | refine Below.setCell ?_ (by first | (simp; done) | (simp; omega) | omega) _ | refine Below.alloc ?_ (by first | (simp; done) | (simp; omega) | omega) _ | (refine Hp.step ?_ (by assumption))))⟩
  case round =>
    obtain ⟨k, hk, rfl, o, hA, hb⟩ := hrel
    have O := Lib.hid o; have HA2 := Lib.hid hA; have HBl := Lib.hid hb
    have olt := o.lt
    clear o hA hb HO HA
    by_cases hlt : k < cnt
    · have hk1 : (k : Int) < (cnt : Int) := by omega
      have k3 : (k : Int) + (N : Int) ≤ (len : Int) := by omega
      have HP := Lib.hid (O.out.congr (f' := pm (Yx.ms x N) k 0) fun i _ => (pm_zero _ _ _).symm)
      go_wp2_with (fail)
      go_loopw [10] (fun c w2 => ∃ m : Nat, m ≤ N ∧ c = .int .i64 ((k : Int) + (m : Int)) ∧ Ob w2 (w.heap.size + 1) cnt (pm (Yx.ms x N) k (Yx.sum (fun i => Yx.sd x N (k + i)) m)) ∧ w2.heap[w.heap.size]? = some (.cells #[.int .i64 0, .int .i64 0] 31 (0, 0)) ∧ Below w.heap.size w w2) (fun c _ => k + N - (intOf c).toNat)
      case atStart => exact ⟨0, by omega, by simp, HP.out, HA2.out, HBl.out⟩
      case round =>
        obtain ⟨m, hm, rfl, o, hA, hb⟩ := hrel
        have O3 := Lib.hid o; have HA3 := Lib.hid hA; have HBl3 := Lib.hid hb
        have olt := o.lt
        clear o hA hb HP
        by_cases hlt2 : m < N
        · obtain ⟨v, hv⟩ : ∃ v, Yx.sd x N (k + m) = v := ⟨_, rfl⟩
          have hvb := Yx.sd_bd HB.out (n := N) (i := k + m) (by omega)
          have hsb := Yx.psum_bd HB.out (n := N) (j := k) m (by omega)
          have HSs := Lib.hid (show Yx.sum (fun i => Yx.sd x N (k + i)) (m + 1) = Yx.sum (fun i => Yx.sd x N (k + i)) m + Yx.sd x N (k + m) from rfl)
          have HV := Lib.hid hv
          obtain ⟨s, hs⟩ : ∃ s, Yx.sum (fun i => Yx.sd x N (k + i)) m = s := ⟨_, rfl⟩
          have HSe := Lib.hid hs
          have q1 := O3.out.cell hlt
          have q2 := O3.out.free k
          rw [show ∀ s, pm (Yx.ms x N) k s k = s from fun s => by unfold pm upd; rw [if_pos rfl], hs] at q1
          rw [hv] at hvb; rw [hs] at hsb
          have v1 := hvb.1; have v2 := hvb.2; have s1 := hsb.1; have s2 := hsb.2
          have hm1 : (m : Int) < (N : Int) := by omega
          have hm2 : (m : Int) ≤ 341 := by omega
          have hkc : k < cnt := hlt
          clear hv hs hvb hsb
          have CC : Hid (∀ W, Below w.heap.size w W → Calls Try.prog 34 #[.slice a len cap, .int .i64 ((k : Int) + (m : Int)), .int .i64 N] W fun e w' => e = .returned (.int .i64 v) ∧ ∃ q, w' = W.drewN q) := Lib.hid fun W hW => second_at (i := k + m) (hS.out.later hW) HB.out (by omega) hl HV
          go_wp2_with (fail)
          go_region_law (first | (go_simp; go_at_call 34; refine (CC.out _ (by have := HBl3.out; (repeat (first | exact Below.refl _ _ | refine Below.drew ?_ | refine Hp.drewN ?_ _ | refine Below.setCell ?_ (by first | (simp; done) | (simp; omega) | omega) _ | refine Below.alloc ?_ (by first | (simp; done) | (simp; omega) | omega) _ | (refine Hp.step ?_ (by assumption)))))).mono ?_; rintro e w' ⟨rfl, nq, rfl⟩))
          all_goals
            go_wp2_with (fail)
            go_roundw
            case rel => exact ⟨m + 1, by omega, int_eq (by omega), by have := (O3.out.drewN (1 + nq)).set k (s + v); rw [pm_upd] at this; rw [HSs.out, HSe.out, HV.out]; exact this, Hp.blk_set_ne (b := w.heap.size) HA3.out (by omega), by have := HBl3.out; (repeat (first | exact Below.refl _ _ | refine Below.drew ?_ | refine Hp.drewN ?_ _ | refine Below.setCell ?_ (by first | (simp; done) | (simp; omega) | omega) _ | refine Below.alloc ?_ (by first | (simp; done) | (simp; omega) | omega) _ | (refine Hp.step ?_ (by assumption))))⟩
            case measure => simp [intOf]; omega
        · obtain rfl : m = N := by omega
          go_wp2_with (fail)
          go_roundw
          case rel => exact ⟨k + 1, by omega, by go_num, by have := O3.out; rw [pm_last] at this; exact this, HA3.out, HBl3.out⟩
          case measure => simp [intOf]; omega
    · obtain rfl : k = cnt := by omega
      have HI := Lib.hid (O.out.is.congr fun i hi => part_all _ hi)
      have HF : Hid (∀ i, i < k → -9223372036854775808 ≤ Yx.ms x N i ∧ Yx.ms x N i ≤ 9223372036854775807) := Lib.hid fun i hi => by
        have := Yx.psum_bd HB.out (n := N) (j := i) N (by omega); unfold Yx.ms; omega
      go_wp2_with (fail)
      refine (squares_any _ k k (Yx.ms x N) _ HI.out (by omega) HF.out).mono ?_
      rintro e w2 ⟨rfl, B2⟩
      have HB2 := Lib.hid (HBl.out.trans (B2.mono HBl.out.size))
      have hA3 : w2.heap[w.heap.size]? = some (.cells #[.int .i64 0, .int .i64 0] 31 (0, 0)) := (B2.block _ (by omega)).trans HA2.out
      have P1 : 1 ≤ 2 * (N : Int) * (N : Int) ∧ 2 * (N : Int) * (N : Int) ≤ 232562 := prod_bd (by omega) (by omega)
      have P2 : 1 ≤ 2 * (N : Int) * (N : Int) * ((len : Int) - 3 * (N : Int) + 1) ∧ 2 * (N : Int) * (N : Int) * ((len : Int) - 3 * (N : Int) + 1) ≤ 1000000000 := prod_bd2 P1.1 P1.2 (by omega) (by omega)
      have P1a := P1.1; have P1b := P1.2; have P2a := P2.1; have P2b := P2.2
      clear P1 P2
      have ec : len - 3 * N + 1 = k := by omega
      by_cases g : Yx.sqs (Yx.ms x N) k ≤ 9223372036854775807
      · have g0 := Yx.sqs_nonneg (Yx.ms x N) k
        have HY := Lib.hid (sqV_yes g)
        have ok : Yx.moOk len x N := ⟨C.out, by omega, by omega, by rw [Int.toNat_natCast, ec]; exact g⟩
        have EN : Hid (Yx.moN len x N = Yx.rN (Yx.sqs (Yx.ms x N) k) (2 * N * N * (len - 3 * N + 1))) := Lib.hid (by unfold Yx.moN; rw [if_pos ok, Int.toNat_natCast, ec])
        have ED : Hid (Yx.moD len x N = Yx.rD (Yx.sqs (Yx.ms x N) k) (2 * N * N * (len - 3 * N + 1))) := Lib.hid (by unfold Yx.moD; rw [if_pos ok, Int.toNat_natCast, ec])
        have EE : Hid (Yx.moE len x N = 0) := Lib.hid (by unfold Yx.moE; rw [if_pos C.out, if_pos ⟨by omega, by omega⟩, Int.toNat_natCast, ec]; exact HY.out.2)
        rw [HY.out.1, HY.out.2]
        obtain ⟨s, hs⟩ : ∃ s, Yx.sqs (Yx.ms x N) k = s := ⟨_, rfl⟩
        rw [hs] at g g0
        have HSs := Lib.hid hs
        have HA3 := Lib.hid hA3
        rw [hs]
        clear B2 hA3 ok hs
        go_wp2_with (fail)
        refine (ratio_any s (2 * N * N * (len - 3 * N + 1)) g0 g (by omega) (by omega) _).mono ?_
        rintro e w3 ⟨rfl, B3⟩
        have HB3 := Lib.hid (HB2.out.trans (B3.mono HB2.out.size))
        have hA4 : w3.heap[w.heap.size]? = some (.cells #[.int .i64 0, .int .i64 0] 31 (0, 0)) := (B3.block _ (Hp.blk_lt HA3.out)).trans HA3.out
        have t0 : w3.cell? ⟨w.heap.size, 0, none⟩ = some (.int .i64 0) := Hp.blk_cell hA4 rfl
        have t1 : w3.cell? ⟨w.heap.size, 1, none⟩ = some (.int .i64 0) := Hp.blk_cell hA4 rfl
        have t2 : w3.frozen? ⟨w.heap.size, 0, none⟩ = false := Hp.blk_free hA4
        have t3 : w3.frozen? ⟨w.heap.size, 1, none⟩ = false := Hp.blk_free hA4
        clear B3 hA4 O HA2 HBl
        obtain ⟨rn, hrn⟩ : ∃ r, Yx.rN s (2 * N * N * (len - 3 * N + 1)) = r := ⟨_, rfl⟩
        obtain ⟨rd, hrd⟩ : ∃ r, Yx.rD s (2 * N * N * (len - 3 * N + 1)) = r := ⟨_, rfl⟩
        rw [hrn, hrd]
        have HRN := Lib.hid hrn; have HRD := Lib.hid hrd
        clear hrn hrd
        go_wp2_with (fail)
        refine bodyPost_ret (v := .tuple #[.agg #[.int .i64 rn, .int .i64 rd], .int .i64 0]) (by simp [results, Try.results20, go_sem, t0, t1, t2, t3]) rfl ⟨by rw [EN.out, ED.out, EE.out, HSs.out, HRN.out, HRD.out], ?_⟩
        have := HB3.out
        (repeat (first | exact Below.refl _ _ | refine Below.drew ?_ | refine Hp.drewN ?_ _ | refine Below.setCell ?_ (by first | (simp; done) | (simp; omega) | omega) _ | refine Below.alloc ?_ (by first | (simp; done) | (simp; omega) | omega) _ | (refine Hp.step ?_ (by assumption))))
      · have HY := Lib.hid (sqV_no g)
        have no : ¬ Yx.moOk len x N := fun ⟨_, _, _, h⟩ => by rw [Int.toNat_natCast, ec] at h; exact g h
        have EN : Hid (Yx.moN len x N = 0) := Lib.hid (by unfold Yx.moN; rw [if_neg no])
        have ED : Hid (Yx.moD len x N = 0) := Lib.hid (by unfold Yx.moD; rw [if_neg no])
        have EE : Hid (Yx.moE len x N = 4) := Lib.hid (by unfold Yx.moE; rw [if_pos C.out, if_pos ⟨by omega, by omega⟩, Int.toNat_natCast, ec]; exact HY.out.2)
        rw [HY.out.1, HY.out.2]
        have t0 : w2.cell? ⟨w.heap.size, 0, none⟩ = some (.int .i64 0) := Hp.blk_cell hA3 rfl
        have t1 : w2.cell? ⟨w.heap.size, 1, none⟩ = some (.int .i64 0) := Hp.blk_cell hA3 rfl
        have t2 : w2.frozen? ⟨w.heap.size, 0, none⟩ = false := Hp.blk_free hA3
        have t3 : w2.frozen? ⟨w.heap.size, 1, none⟩ = false := Hp.blk_free hA3
        clear B2 hA3 no g
        go_wp2_with (fail)
        refine bodyPost_ret (v := .tuple #[.agg #[.int .i64 0, .int .i64 0], .int .i64 4]) (by simp [results, Try.results20, go_sem, t0, t1, t2, t3]) rfl ⟨by rw [EN.out, ED.out, EE.out], ?_⟩
        have := HB2.out
        (repeat (first | exact Below.refl _ _ | refine Below.drew ?_ | refine Hp.drewN ?_ _ | refine Below.setCell ?_ (by first | (simp; done) | (simp; omega) | omega) _ | refine Below.alloc ?_ (by first | (simp; done) | (simp; omega) | omega) _ | (refine Hp.step ?_ (by assumption))))
theorem modified_any (a : Option Addr) (len cap : Nat) (x : Nat → Int) (n : Int) (w : World) (S : Is w a len x) (hl : len ≤ 9223372036854775807) :
    Calls Try.prog 20 #[.slice a len cap, .int .i64 n] w fun e w' => e = .returned (.tuple #[.agg #[.int .i64 (Yx.moN len x n), .int .i64 (Yx.moD len x n)], .int .i64 (Yx.moE len x n)]) ∧ Below w.heap.size w w' := by
  by_cases h : Yx.chk len x = 0 ∧ 1 ≤ n ∧ 3 * n ≤ len
  · obtain ⟨N, rfl⟩ := Int.eq_ofNat_of_zero_le (show 0 ≤ n by omega)
    exact modified_yes a len cap x N w S h.1 (by omega) (by omega)
  · have no : ¬ Yx.moOk len x n := fun ⟨h1, h2, h3, _⟩ => h ⟨h1, h2, h3⟩
    rw [show Yx.moN len x n = 0 by unfold Yx.moN; rw [if_neg no], show Yx.moD len x n = 0 by unfold Yx.moD; rw [if_neg no]]
    exact modified_no a len cap x n w S hl h
end Go.Proofs.Ytbidogefodfakaa.YxW
