/- The law FilterDisps of layer 22. -/
import Derived.Test.YtdaedhgbkamjpaaJo
set_option linter.unusedVariables false
set_option linter.unusedSimpArgs false
namespace Go.Proofs.Ytdaedhgbkamjpaa.Jx
/-- n samples of equal dispersions -/
def mk (D : Int) (n : Nat) : List Sm := (List.range n).map fun (j : Nat) => ⟨0, (j : Int) + 1, D, (j : Int) + 1⟩
theorem mk_len (D : Int) (n : Nat) : (mk D n).length = n := by simp [mk]
theorem mk_nth {D : Int} {n j : Nat} (h : j < n) : nth (mk D n) j = ⟨0, (j : Int) + 1, D, (j : Int) + 1⟩ := by
  unfold nth mk; simp [List.getD_eq_getElem?_getD, h]
theorem mk_succ (D : Int) (n : Nat) : mk D (n + 1) = mk D n ++ [⟨0, (n : Int) + 1, D, (n : Int) + 1⟩] := by
  unfold mk; rw [List.range_succ, List.map_append]; rfl
theorem mk_mem {D : Int} {n : Nat} {x : Sm} (h : x ∈ mk D n) : ∃ j : Nat, j < n ∧ x = ⟨0, (j : Int) + 1, D, (j : Int) + 1⟩ := by
  unfold mk at h
  obtain ⟨j, hj, e⟩ := List.mem_map.1 h
  exact ⟨j, List.mem_range.1 hj, e.symm⟩
theorem mk_last {D : Int} {n : Nat} (h : 0 < n) : lastT (mk D n) = n := by
  unfold lastT; rw [mk_len, mk_nth (by omega)]; simp only; omega
theorem mk_ok {D : Int} (d0 : 0 ≤ D) (d1 : D ≤ 9007199254740992) {n : Nat} (h : n < 8) : okb ⟨0, (n : Int) + 1, D, (n : Int) + 1⟩ = true := show Sx.okS 0 ((n : Int) + 1) D ((n : Int) + 1) = true from Sx.okS_iff.2 (by omega)
theorem mk_add {D : Int} (d0 : 0 ≤ D) (d1 : D ≤ 9007199254740992) {n : Nat} (h : n < 8) : addE (mk D n) ⟨0, (n : Int) + 1, D, (n : Int) + 1⟩ = 0 ∧ addL (mk D n) ⟨0, (n : Int) + 1, D, (n : Int) + 1⟩ = mk D (n + 1) := by
  have e : addE (mk D n) ⟨0, (n : Int) + 1, D, (n : Int) + 1⟩ = 0 := addE_yes (mk_ok d0 d1 h) (by
    rcases n with _ | n
    · exact .inl rfl
    · right; rw [mk_last (by omega)]; simp only; omega)
  refine ⟨e, ?_⟩
  rw [addL_yes e, mk_succ]; unfold push; rw [mk_len, if_neg (by omega)]
theorem mk_val {D : Int} (d0 : 0 ≤ D) (d1 : D ≤ 9007199254740992) : ∀ {n : Nat}, n ≤ 8 → Val (mk D n)
  | 0, _ => Val.nil
  | n + 1, h => by
    have := (mk_val d0 d1 (n := n) (by omega)).add ⟨0, (n : Int) + 1, D, (n : Int) + 1⟩
    rwa [(mk_add d0 d1 (by omega)).2] at this
theorem gr_flat (d : Int) : Sx.gr d 0 = 0 := by
  unfold Sx.gr
  rw [Int.mul_zero]
  rfl
def sm (D : Int) (n : Nat) : Nat → Int
  | 0 => 0
  | k + 1 => sm D n k + (if k < n then D else 16000000000) / 2 ^ (k + 1)
theorem sm_bd {D : Int} (d0 : 0 ≤ D) (d1 : D ≤ 9007199254740992) (n : Nat) : ∀ k, 0 ≤ sm D n k ∧ sm D n k ≤ 9007199254740992 * (k : Int)
  | 0 => by simp [sm]
  | k + 1 => by
    have a := sm_bd d0 d1 n k
    have h := half_bd (a := if k < n then D else 16000000000) (by split <;> omega) (by split <;> omega) (k + 1)
    rw [sm]; omega
theorem mk_dv {D : Int} (d0 : 0 ≤ D) (d1 : D ≤ 9007199254740992) {n : Nat} (h : n ≤ 8) (i : Nat) : dv (ord (mk D n)) n 0 i = if i < n then D else 16000000000 := by
  unfold dv
  rw [ord_len, mk_len]
  split
  · rename_i hi
    obtain ⟨j, hj, e⟩ := mk_mem (ord_mem.1 (nth_mem (l := ord (mk D n)) (i := i) (by rw [ord_len, mk_len]; exact hi)))
    have ok : Sx.okS 0 ((j : Int) + 1) D ((j : Int) + 1) = true := mk_ok d0 d1 (by omega)
    have ok2 : Sx.okS 0 ((j : Int) + 1) D (n : Int) = true := Sx.okS_iff.2 (by omega)
    have g : grow (nth (ord (mk D n)) i) n 0 = ⟨0, (j : Int) + 1, D, n, 0⟩ := by
      rw [e]; unfold grow; simp only
      rw [Sx.growR_fin (by rw [ok, Sx.timeB_iff.2 (by omega), Sx.tolB_iff.2 (by omega)]; rfl) (by omega), gr_flat, Int.add_zero, Sx.fin5_ok ok2]
    rw [g]; rfl
  · rfl
theorem mk_dsp {D : Int} (d0 : 0 ≤ D) (d1 : D ≤ 9007199254740992) {n : Nat} (h : n ≤ 8) : ∀ k, dsp (ord (mk D n)) n 0 k = sm D n k
  | 0 => rfl
  | k + 1 => by rw [dsp, sm, mk_dsp d0 d1 h k, mk_dv d0 d1 h k]
theorem mk_disp {D : Int} (d0 : 0 ≤ D) (d1 : D ≤ 9007199254740992) {n : Nat} (h0 : 0 < n) (h : n ≤ 8) : dispV (mk D n) n 0 = sm D n 8 := by
  rw [disp_of (by rw [mk_len]; exact h0) (by rw [mk_last h0]; omega), mk_dsp d0 d1 h]
theorem mk_early {D : Int} {n : Nat} (h0 : 0 < n) : dispV (mk D n) ((n : Int) - 1) 0 = 16000000000 := by
  unfold dispV; rw [if_pos]; right; rw [mk_last h0]; omega
end Go.Proofs.Ytdaedhgbkamjpaa.Jx
namespace Go.Proofs.Ytdaedhgbkamjpaa.JxW
open Go.RowKit FxW
open Go.Proofs.Ytdaedhgbkamjpaa.Jx
set_option maxHeartbeats 8000000 in
theorem disps_no (D n : Int) (h : D < 0 ∨ (0 ≤ D ∧ 9007199254740992 < D) ∨ (0 ≤ D ∧ D ≤ 9007199254740992 ∧ n < 1) ∨ (0 ≤ D ∧ D ≤ 9007199254740992 ∧ 1 ≤ n ∧ 8 < n)) (w : World) :
    Calls Try.prog 3 #[.int .i64 D, .int .i64 n] w fun e w' => e = .returned (.bool true) ∧ Below w.heap.size w w' := by
  rcases h with h | ⟨h, h1⟩ | ⟨h, h1, h2⟩ | ⟨h, h1, h2, h3⟩
  all_goals
    go_enter Try.func3, Try.ntmps3
    go_wp2_with (fail)
    refine (new_ok 0 (by omega) (by omega) _).mono ?_
    rintro en w1 ⟨g, hg, rfl, f1, B1⟩
    have F1 := Lib.hid f1; have HB1 := Lib.hid B1
    clear hg f1 B1
    go_wp2_with (fail)
    refine (disp_at (r := 16000000000) Val.nil rfl _ F1.out).mono ?_
    rintro en w2 ⟨rfl, B2⟩
    have HB2 := Lib.hid (HB1.out.trans (B2.mono HB1.out.size))
    clear B2
    go_wp2_with (fail)
    refine (awake22_any _).mono ?_
    rintro en w3 ⟨rfl, B3⟩
    have HB3 := Lib.hid (HB2.out.trans (B3.mono HB2.out.size))
    clear B3
    go_wp2_with (fail)
    go_ret
    exact ⟨rfl, HB3.out⟩
set_option maxHeartbeats 8000000 in
theorem disps_yes (D : Int) (n : Nat) (d0 : 0 ≤ D) (d1 : D ≤ 9007199254740992) (n0 : 0 < n) (n8 : n ≤ 8) (w : World) :
    Calls Try.prog 3 #[.int .i64 D, .int .i64 n] w fun e w' => e = .returned (.bool true) ∧ Below w.heap.size w w' := by
  have AD := Lib.hid (fun (i : Nat) (hi : i < 8) => @mk_add D d0 d1 i hi)
  have MV := Lib.hid (fun (i : Nat) (hi : i ≤ 8) => @mk_val D d0 d1 i hi)
  have D1 := Lib.hid (fun g W F => disp_at (g := g) (any := false) (fr := 0) (mk_val d0 d1 n8) (mk_disp d0 d1 n0 n8) W F)
  have D2 := Lib.hid (fun g W F => disp_at (g := g) (any := false) (fr := 0) (mk_val d0 d1 n8) (mk_early (D := D) n0) W F)
  have SB := Lib.hid (sm_bd d0 d1 n)
  have i1 : ¬ (n : Int) < 1 := by omega
  have i2 : ¬ (8 : Int) < (n : Int) := by omega
  go_enter Try.func3, Try.ntmps3
  go_wp2_with (fail)
  refine (new_ok 0 (by omega) (by omega) _).mono ?_
  rintro en w1 ⟨g, hg, rfl, f1, B1⟩
  have HG := Lib.hid hg; have F1 := Lib.hid f1; have HB1 := Lib.hid B1
  clear hg f1 B1
  go_wp2_with (fail)
  refine (disp_at (r := 16000000000) Val.nil rfl _ F1.out).mono ?_
  rintro en w2 ⟨rfl, B2⟩
  have HB2 := Lib.hid (HB1.out.trans (B2.mono HB1.out.size)); have F2 := Lib.hid (F1.out.later B2)
  clear B2
  go_wp2_with (fail)
  go_loopw [6] (fun vi wr => ∃ i : Nat, i ≤ n ∧ vi = .int .i64 ((i : Int) + 1) ∧ Fi wr g 0 (mk D i) false 0 ∧ Below w.heap.size w wr) (fun vi _ => n + 1 - (intOf vi).toNat)
  case atStart => exact ⟨0, by omega, rfl, F2.out, HB2.out⟩
  case round =>
    rename World => wr
    obtain ⟨i, hi, rfl, f, hb⟩ := hrel
    have FR := Lib.hid f; have HR := Lib.hid hb
    clear f hb
    by_cases hlt : i < n
    · have A := Lib.hid (AD.out i (by omega))
      have V := Lib.hid (MV.out i (by omega))
      have j1 : (i : Int) + 1 ≤ (n : Int) := by omega
      have j2 : (i : Int) + 1 ≤ 8 := by omega
      go_wp2_with (fail)
      refine (addf_at V.out A.out.1 A.out.2 _ FR.out).mono ?_
      rintro en w3 ⟨rfl, ad⟩
      have HB3 := Lib.hid (ad.but.toBelow HG.out HR.out HR.out.size); have F3 := Lib.hid ad.fi
      clear ad
      go_wp2_with (fail)
      go_roundw
      case rel => exact ⟨i + 1, by omega, by go_num, F3.out, HB3.out⟩
      case measure => (simp [intOf] <;> omega)
    · obtain rfl : n = i := by omega
      have j1 : ¬ (n : Int) + 1 ≤ (n : Int) := by omega
      go_wp2_with (fail)
      go_loopw [8, 7] (fun vi vs wx => ∃ k : Nat, k ≤ 8 ∧ vi = .int .i64 ((k : Int) + 1) ∧ vs = .int .i64 (sm D n k) ∧ wr = wx) (fun vi _ _ => 9 - (intOf vi).toNat)
      case atStart => exact ⟨0, by omega, rfl, rfl, rfl⟩
      case round =>
        obtain ⟨k, hk, rfl, rfl, rfl⟩ := hrel
        by_cases hlt2 : k < 8
        · have NS := Lib.hid (show sm D n (k + 1) = sm D n k + (if k < n then D else 16000000000) / 2 ^ (k + 1) from rfl)
          have qb := SB.out k
          have hb := half_bd (a := if k < n then D else 16000000000) (by split <;> omega) (by split <;> omega) (k + 1)
          obtain ⟨Q, eQ⟩ : ∃ Q, sm D n k = Q := ⟨_, rfl⟩
          rw [eQ] at NS qb
          rw [eQ]
          have q0 := qb.1
          have q1 : Q ≤ 72057594037927936 := by omega
          have e2 : 0 ≤ (k : Int) + 1 := by omega
          have e3 : ((k : Int) + 1).toNat = k + 1 := by omega
          have e4 : (k : Int) + 1 ≤ 8 := by omega
          by_cases hkn : k < n
          · rw [if_pos hkn] at NS hb
            have e5 : (k : Int) + 1 ≤ (n : Int) := by omega
            obtain ⟨H, eH⟩ : ∃ H, D / 2 ^ (k + 1) = H := ⟨_, rfl⟩
            rw [eH] at NS hb
            have b0 := hb.1; have b1 := hb.2
            clear hb qb eQ
            go_wp2_with (fail)
            go_roundw
            case rel => exact ⟨k + 1, by omega, by go_num, by rw [NS.out], by first | trivial | rfl⟩
            case measure => (simp [intOf] <;> omega)
          · rw [if_neg hkn] at NS hb
            have e5 : ¬ (k : Int) + 1 ≤ (n : Int) := by omega
            obtain ⟨H, eH⟩ : ∃ H, (16000000000 : Int) / 2 ^ (k + 1) = H := ⟨_, rfl⟩
            rw [eH] at NS hb
            have b0 := hb.1; have b1 := hb.2
            clear hb qb eQ
            go_wp2_with (fail)
            go_roundw
            case rel => exact ⟨k + 1, by omega, by go_num, by rw [NS.out], by first | trivial | rfl⟩
            case measure => (simp [intOf] <;> omega)
        · obtain rfl : k = 8 := by omega
          obtain ⟨Q, eQ⟩ : ∃ Q, sm D n 8 = Q := ⟨_, rfl⟩
          rw [eQ] at D1
          rw [eQ]
          clear eQ
          go_wp2_with (fail)
          refine (D1.out _ _ FR.out).mono ?_
          rintro en w3 ⟨rfl, B3⟩
          have HB3 := Lib.hid (HR.out.trans (B3.mono HR.out.size)); have F3 := Lib.hid (FR.out.later B3)
          clear B3
          go_wp2_with (fail)
          refine (D2.out _ _ F3.out).mono ?_
          rintro en w4 ⟨rfl, B4⟩
          have HB4 := Lib.hid (HB3.out.trans (B4.mono HB3.out.size))
          clear B4
          go_wp2_with (fail)
          refine (awake22_any _).mono ?_
          rintro en w5 ⟨rfl, B5⟩
          have HB5 := Lib.hid (HB4.out.trans (B5.mono HB4.out.size))
          clear B5
          go_wp2_with (fail)
          go_ret
          exact ⟨rfl, HB5.out⟩
theorem law_FilterDisps (D n : Int) (w : World) :
    Calls Try.prog 3 #[.int .i64 D, .int .i64 n] w fun e w' => e = .returned (.bool true) ∧ Below w.heap.size w w' := by
  by_cases h : 0 ≤ D ∧ D ≤ 9007199254740992 ∧ 1 ≤ n ∧ n ≤ 8
  · obtain ⟨k, rfl⟩ := Int.eq_ofNat_of_zero_le (show 0 ≤ n by omega)
    exact disps_yes D k h.1 h.2.1 (by omega) (by omega) w
  · exact disps_no D n (by omega) w
end Go.Proofs.Ytdaedhgbkamjpaa.JxW
