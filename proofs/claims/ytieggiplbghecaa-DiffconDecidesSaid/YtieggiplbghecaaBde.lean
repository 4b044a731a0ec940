/- The law DiffconDecides of layer 51. -/
import Derived.Test.YtieggiplbghecaaBdd
set_option linter.unusedVariables false
set_option linter.unusedSimpArgs false
namespace Go.Proofs.Ytieggiplbghecaa.BxW
open Go.RowKit Ls Orw Rv Rw
set_option maxHeartbeats 4000000 in
set_option maxRecDepth 4000 in
theorem de_no (n : Int) (a : Option Addr) (m cap : Nat) (z : Nat → Nat → Int) (ya : Option Addr) (yn yc : Nat) (w : World) (S : Ss 3 w a m z) {r : Int} (hr : Hid (Bx.chk n m z = r)) (h : 4100 < m ∨ (m ≤ 4100 ∧ (r != 0) = true)) :
    Calls Try.prog 8 #[.int .i64 n, .slice a m cap, .slice ya yn yc] w fun e w' => e = .returned (.bool true) ∧ Below w.heap.size w w' := by
  have hS := Lib.hid S
  clear S
  rcases h with h | ⟨h, h2⟩
  · have d : decide (4100 < m) = true := decide_eq_true h
    have L := Lib.hid (fun w => d ▸ long_any a m cap w)
    clear d
    go_enter Try.func8, Try.ntmps8
    go_wp2_with (fail)
    refine (L.out _).mono ?_
    rintro en w1 ⟨rfl, rfl⟩
    go_wp2_with (fail)
    refine (awake51_any _).mono ?_
    rintro en w3 ⟨rfl, B3⟩
    have HB3 := Lib.hid B3
    clear B3
    go_wp2_with (fail)
    go_ret
    exact ⟨rfl, HB3.out⟩
  · have d : decide (4100 < m) = false := decide_eq_false (by omega)
    have L := Lib.hid (fun w => d ▸ long_any a m cap w)
    clear d
    go_enter Try.func8, Try.ntmps8
    go_wp2_with (fail)
    refine (L.out _).mono ?_
    rintro en w1 ⟨rfl, rfl⟩
    go_wp2_with (fail)
    refine (check_at hS.out hr).mono ?_
    rintro en w1 ⟨rfl, B1⟩
    have HB1 := Lib.hid B1
    clear B1
    go_wp2_with (fail)
    refine (awake51_any _).mono ?_
    rintro en w3 ⟨rfl, B3⟩
    have HB3 := Lib.hid (bl_next HB1.out B3)
    clear B3
    go_wp2_with (fail)
    go_ret
    exact ⟨rfl, HB3.out⟩
theorem mx_le0 {x : Nat → Int} {n : Nat} (h : mx x (n - 1) ≤ 0) (j : Nat) (hj : j < n) : x j ≤ 0 := by
  have := mx_ge x (n - 1) j (by omega); omega
/-- a solution without positive numbers is nowhere greater -/
theorem de_great {n m : Nat} {z : Nat → Nat → Int} {y : Nat → Int} (V : Bx.Vs n m z) (hy : Bx.Pt m z y) (h0 : ∀ j, j < n → y j ≤ 0) {j : Nat} (hj : j < n) (k : Nat) : y j ≤ Bx.bf z m k j := by
  have := Bx.bf_great (m := m) (z := z) (y := fun j => if j < n then y j else 0) (fun c hc => by
    have h1 := V.fr_lt hc; have h2 := V.to_lt hc; have := hy c hc
    show (if _ < n then _ else _) ≤ (if _ < n then _ else _) + _
    rw [if_pos h1, if_pos h2]; exact this) (fun j => by
    show (if j < n then y j else 0) ≤ 0
    split
    · rename_i h; exact h0 j h
    · omega) k j
  simpa [hj] using this
set_option maxHeartbeats 16000000 in
set_option maxRecDepth 4000 in
theorem de_yes (n : Nat) (a : Option Addr) (m cap : Nat) (z : Nat → Nat → Int) (ya : Option Addr) (yn yc : Nat) (ys : Nat → Int) (yl : yn ≤ 9223372036854775807) (fy : Fit yn ys) (w : World) (S : Ss 3 w a m z) (Y : Is w ya yn ys) (V : Bx.Vs n m z) :
    Calls Try.prog 8 #[.int .i64 n, .slice a m cap, .slice ya yn yc] w fun e w' => e = .returned (.bool true) ∧ Below w.heap.size w w' := by
  have n1 := V.n1; have n2 := V.n2; have m2 := V.m2
  have hS := Lib.hid S; have hV := Lib.hid V; have hY := Lib.hid Y; have HFY := Lib.hid fy
  have d : decide (4100 < m) = false := decide_eq_false (by omega)
  have L := Lib.hid (fun w => d ▸ long_any a m cap w)
  have np : (1 : Int) ≤ (n : Int) := by omega
  clear S V Y d fy
  go_enter Try.func8, Try.ntmps8
  go_wp2_with (fail)
  refine (L.out _).mono ?_
  rintro en w1 ⟨rfl, rfl⟩
  go_wp2_with (fail)
  refine (check_at hS.out (Lib.hid (chk_vs hV.out))).mono ?_
  rintro en w1 ⟨rfl, B1⟩
  have HB1 := Lib.hid B1; have S1 := Lib.hid (hS.out.later B1); have Y1 := Lib.hid (hY.out.later B1)
  clear B1
  go_wp2_with (fail)
  by_cases hs : Bx.St n z m (n - 1)
  rotate_left
  · refine (solve_cyc n a m cap z hV.out hs _ S1.out).mono ?_
    rintro en w2 ⟨rfl, B2⟩
    have HB2 := Lib.hid (bl_next HB1.out B2); have S2 := Lib.hid (S1.out.later B2); have HS := Lib.hid hs
    clear B2 hs
    go_wp2_with (fail)
    refine (cycle_yes n a m cap z hV.out HS.out _ S2.out).mono ?_
    rintro en w3 ⟨v, s, rfl, R3, NG, B3⟩
    have HB3 := Lib.hid (bl_next HB2.out B3); have S3 := Lib.hid (S2.out.later B3); have HNG := Lib.hid NG
    obtain ⟨g3, c3, rfl, _, _⟩ := row_at0 R3 rfl NG.pos
    have P3 := Lib.hid (show Is w3 (some ⟨g3, 0, none⟩) s.length (fun i => s.getD i 0) from by
      obtain ⟨g', cp, cur, hv, _, hh, _, hc⟩ : ∃ g' cp cur, Value.slice (some ⟨g3, 0, none⟩) s.length c3 = .slice (some ⟨g', 0, none⟩) s.length cp ∧ w2.heap.size ≤ g' ∧ w3.heap[g']? = some (.cells cur 3 (0, 0)) ∧ s.length ≤ cp ∧ (∀ i, i < s.length → cur[i]? = some (.int .i64 (s.getD i 0))) := by
        rcases R3.form with ⟨h, _⟩ | h
        · cases h
        · exact h
      injection hv with e1; injection e1 with e1; injection e1 with e1
      subst e1
      exact Is.of_block hh hc)
    obtain ⟨K, hK⟩ : ∃ K, s.length = K := ⟨_, rfl⟩
    have HK := Lib.hid hK
    rw [hK] at P3
    rw [hK]
    clear B3 R3 NG hK
    go_wp2_with (fail)
    refine (proves_yes n a m cap z hV.out s HNG.out _ K c3 HK.out _ S3.out P3.out).mono ?_
    rintro en w4 ⟨rfl, B4⟩
    have HB4 := Lib.hid (bl_next HB3.out B4)
    clear B4
    go_wp2_with (fail)
    refine (awake51_any _).mono ?_
    rintro en w5 ⟨rfl, B5⟩
    have HB5 := Lib.hid (bl_next HB4.out B5)
    clear B5
    go_wp2_with (fail)
    go_ret
    exact ⟨rfl, HB5.out⟩
  · refine (solve_ok n a m cap z hV.out hs _ S1.out).mono ?_
    rintro en w2 ⟨g, rfl, O2, hg, B2⟩
    have HB2 := Lib.hid (bl_next HB1.out B2); have S2 := Lib.hid (S1.out.later B2); have Y2 := Lib.hid (Y1.out.later B2); have HS := Lib.hid hs
    have HO := Lib.hid O2
    clear B2 hs O2
    go_wp2_with (fail)
    refine (cycle_no n a m cap z hV.out HS.out _ S2.out).mono ?_
    rintro en w3 ⟨rfl, B3⟩
    have HB3 := Lib.hid (bl_next HB2.out B3); have S3 := Lib.hid (S2.out.later B3); have Y3 := Lib.hid (Y2.out.later B3); have O3 := Lib.hid (HO.out.later B3)
    have I3 := Lib.hid O3.out.is
    have XL := Lib.hid (bf_lo hV.out)
    have HFX := Lib.hid (show Fit n (Bx.bf z m (n - 1)) from fun i hi => by have := XL.out i hi; omega)
    have HH := Lib.hid ((holds_pt hV.out).2 (Bx.pt_of hV.out HS.out))
    have hm1 : ¬ 0 < mx (Bx.bf z m (n - 1)) (n - 1) := by
      obtain ⟨i, hi, e⟩ := mx_from (Bx.bf z m (n - 1)) (n - 1)
      rw [e]; have := XL.out i (by omega); omega
    obtain ⟨M, eM⟩ : ∃ M, mx (Bx.bf z m (n - 1)) (n - 1) = M := ⟨_, rfl⟩
    have HM := Lib.hid eM
    rw [eM] at hm1
    clear B3 eM
    go_wp2_with (fail)
    refine (holds_any a m cap z _ n _ _ _ S3.out I3.out (fz_vs hV.out) HFX.out (by omega) (by omega)).mono ?_
    rw [HH.out]
    rintro en w4 ⟨rfl, B4⟩
    have HB4 := Lib.hid (bl_next HB3.out B4); have S4 := Lib.hid (S3.out.later B4); have Y4 := Lib.hid (Y3.out.later B4); have I4 := Lib.hid (I3.out.later B4)
    clear B4
    go_wp2_with (fail)
    refine (max_any _ n _ _ _ I4.out n1 (by omega)).mono ?_
    rw [HM.out]
    rintro en w5 ⟨rfl, rfl⟩
    by_cases hyn : yn = n
    rotate_left
    · have hne : ((yn : Int) != (n : Int)) = true := by simp; omega
      go_wp2_with (fail)
      refine (awake51_any _).mono ?_
      rintro en w6 ⟨rfl, B6⟩
      have HB6 := Lib.hid (bl_next HB4.out B6)
      clear B6
      go_wp2_with (fail)
      go_ret
      exact ⟨rfl, HB6.out⟩
    subst hyn
    go_wp2_with (fail)
    refine (max_any _ yn _ _ _ Y4.out n1 (by omega)).mono ?_
    obtain ⟨Q, eQ⟩ : ∃ M, mx ys (yn - 1) = M := ⟨_, rfl⟩
    have HQ := Lib.hid eQ
    rw [eQ]
    clear eQ
    rintro en w6 ⟨rfl, rfl⟩
    by_cases hQ : 0 < Q
    · go_wp2_with (fail)
      refine (awake51_any _).mono ?_
      rintro en w6 ⟨rfl, B6⟩
      have HB6 := Lib.hid (bl_next HB4.out B6)
      clear B6
      go_wp2_with (fail)
      go_ret
      exact ⟨rfl, HB6.out⟩
    · go_wp2_with (fail)
      refine (holds_any a m cap z _ yn _ _ _ S4.out Y4.out (fz_vs hV.out) HFY.out (by omega) (by omega)).mono ?_
      obtain ⟨r, hr⟩ : ∃ r, holds z ys yn m = r := ⟨_, rfl⟩
      have HR := Lib.hid hr
      rw [hr]
      clear hr
      rintro en w6 ⟨rfl, B6⟩
      have HB6 := Lib.hid (bl_next HB4.out B6); have Y6 := Lib.hid (Y4.out.later B6); have I6 := Lib.hid (I4.out.later B6)
      clear B6
      cases r with
      | false =>
        go_wp2_with (fail)
        refine (awake51_any _).mono ?_
        rintro en w7 ⟨rfl, B7⟩
        have HB7 := Lib.hid (bl_next HB6.out B7)
        clear B7
        go_wp2_with (fail)
        go_ret
        exact ⟨rfl, HB7.out⟩
      | true =>
        have GR := Lib.hid (fun j hj => de_great hV.out ((holds_pt hV.out).1 HR.out) (fun j hj => mx_le0 (by rw [HQ.out]; omega) j hj) (j := j) hj (yn - 1))
        go_wp2_with (fail)
        go_loopw [94] (fun c wr => ∃ k : Nat, k ≤ yn ∧ c = .int .i64 k ∧ Below w6.heap.size w6 wr) (fun c _ => yn - (intOf c).toNat)
        case atStart => exact ⟨0, by omega, rfl, Below.refl _ _⟩
        case round =>
          obtain ⟨k, hk, rfl, hb⟩ := hrel
          have HB8 := Lib.hid hb; have Y8 := Y6.out.later hb; have I8 := I6.out.later hb
          clear hb
          by_cases hlt : k < yn
          · obtain ⟨by', oy, rfl, hby, cy⟩ := Y8.elem hlt
            obtain ⟨bx, ox, hx, hbx, cx⟩ := I8.elem hlt
            obtain ⟨rfl, rfl⟩ : g = bx ∧ 0 = ox := by injection hx with e1; injection e1 with e1 e2; exact ⟨e1, e2⟩
            rw [Nat.zero_add] at cx
            have gr := GR.out k hlt
            obtain ⟨P, eP⟩ : ∃ P, ys k = P := ⟨_, rfl⟩
            obtain ⟨X, eX⟩ : ∃ P, Bx.bf z m (yn - 1) k = P := ⟨_, rfl⟩
            rw [eP] at cy gr; rw [eX] at cx gr
            have nb : ¬ X < P := by omega
            clear Y8 I8 hx eP eX gr
            go_wp2_with (fail)
            go_quiet (fail)
            go_wp2_with (fail)
            go_roundw
            case rel => exact ⟨k + 1, by omega, by go_num, Hp.drewN HB8.out _⟩
            case measure => (simp [intOf] <;> omega)
          · obtain rfl : yn = k := by omega
            clear Y8 I8
            go_wp2_with (fail)
            refine (awake51_any _).mono ?_
            rintro en w9 ⟨rfl, B9⟩
            have HB9 := Lib.hid (bl_next (bl_next HB6.out HB8.out) B9)
            clear B9
            go_wp2_with (fail)
            go_ret
            exact ⟨rfl, HB9.out⟩
theorem law_DiffconDecides (n : Int) (a : Option Addr) (m cap : Nat) (z : Nat → Nat → Int) (ya : Option Addr) (yn yc : Nat) (zs : List Int) (w : World) (S : In.IsStructs [.i64, .i64, .i64] w a m cap z) (Y : In.IsInts .i64 w ya yn yc zs) :
    Calls Try.prog 8 #[.int .i64 n, .slice a m cap, .slice ya yn yc] w fun e w' => e = .returned (.bool true) ∧ Below w.heap.size w w' := by
  by_cases h : 4100 < m
  · exact de_no n a m cap z ya yn yc w (ss_of S) (Lib.hid rfl) (.inl h)
  · by_cases hc : Bx.chk n m z = 0
    · obtain ⟨n1, n2, V⟩ := Bx.vs_of hc
      obtain ⟨k, rfl⟩ := Int.eq_ofNat_of_zero_le (show 0 ≤ n by omega)
      have l := Y.lens
      exact de_yes k a m cap z ya yn yc (fun i => zs.getD i 0) (by omega) (fit_of Y) w (ss_of S) (Is.of_ints Y) (by simpa using V)
    · exact de_no n a m cap z ya yn yc w (ss_of S) (Lib.hid rfl) (.inr ⟨by omega, by simpa using hc⟩)
end Go.Proofs.Ytieggiplbghecaa.BxW
