/- The law SampleTruth of layer 21. -/
import Derived.Test.YtjfchcjmfogijaaSl
import Derived.LoopTactic
set_option linter.unusedVariables false
set_option linter.unusedSimpArgs false
namespace Go.Proofs.Ytjfchcjmfogijaa.FxW
open Go.RowKit

theorem sbounds_at {o d p t lo hi : Int} (h1 : Hid (Sx.bLo o d p t = lo)) (h2 : Hid (Sx.bHi o d p t = hi)) (w : World) :
    Calls Try.prog 17 #[.agg #[.int .i64 o, .int .i64 d, .int .i64 p, .int .i64 t]] w fun e w' => e = .returned (.agg #[.int .i64 lo, .int .i64 hi]) ∧ Below w.heap.size w w' := by
  have := sbounds_any o d p t w; rw [h1.out, h2.out] at this; exact this
theorem scheck_at {o d p t : Int} (h : Hid (Sx.okS o d p t = true)) (w : World) :
    Calls Try.prog 13 #[.agg #[.int .i64 o, .int .i64 d, .int .i64 p, .int .i64 t]] w fun e w' => e = .returned (.int .i64 0) ∧ Below w.heap.size w w' := scheck_ok o d p t h.out w
/-- what is known where the loop over more has ended -/
structure TEnd (th ho ba cl of prec t m : Int) (a b c o D p lo hi : Int) : Prop where
  ha : a = cl - (th + ho + ba) - m
  hb : b = cl + of - ba - ho
  hc : c = cl + of - ba
  E : Sx.ofR a b c cl (prec + 1) t = ⟨o, D, p, cl, 0⟩
  ok : Sx.okS o D p cl = true
  L : Sx.bLo o D p cl = lo
  H : Sx.bHi o D p cl = hi
theorem tend {th ho ba cl of prec t m : Int} (h1 : 0 ≤ th) (h2 : th ≤ 4294967295) (h3 : 0 ≤ ho) (h4 : ho ≤ 4294967295) (h5 : 0 ≤ ba) (h6 : ba ≤ 4294967295) (h7 : -2147483648 ≤ cl) (h8 : cl ≤ 2147483647) (h9 : -2147483648 ≤ of) (h10 : of ≤ 2147483647)
    (p1 : 0 ≤ prec) (p2 : prec ≤ 65535) (t1 : 0 ≤ t) (t2 : t ≤ 500000) (m1 : -2147483648 ≤ m) (m2 : m ≤ 2147483647) (al : Sx.Allowed (th + ho + ba) m t) :
    ∃ a b c o D p lo hi, TEnd th ho ba cl of prec t m a b c o D p lo hi ∧ lo ≤ of ∧ of ≤ hi := by
  have sp := Sx.allowed_span (all := th + ho + ba) (by omega) t1 al
  obtain ⟨a, ha⟩ : ∃ a, a = cl - (th + ho + ba) - m := ⟨_, rfl⟩
  obtain ⟨b, hb⟩ : ∃ b, b = cl + of - ba - ho := ⟨_, rfl⟩
  obtain ⟨c, hc⟩ : ∃ c, c = cl + of - ba := ⟨_, rfl⟩
  obtain ⟨o, e1, ok, x1, x2⟩ := Sx.ofR_ok (a := a) (b := b) (c := c) (d := cl) (prec := prec + 1) (tol := t) (by omega) (by omega) (by omega) (by omega) (by omega) (by omega) (by omega) (by omega) (by omega) (by omega) (by omega) (by omega) (by omega) (by omega)
  have T := Sx.truth h1 h3 h5 t1 t2 (prec := prec + 1) (by omega) (by omega) al ha hb hc x1 x2 ok
  exact ⟨a, b, c, o, _, _, _, _, ⟨ha, hb, hc, e1, ok, rfl, rfl⟩, T.1, T.2⟩
set_option maxHeartbeats 16000000 in
set_option maxRecDepth 100000 in
theorem law_SampleTruth (th ho ba mo cl of prec tol : Int) (h1 : 0 ≤ th) (h2 : th ≤ 4294967295) (h3 : 0 ≤ ho) (h4 : ho ≤ 4294967295) (h5 : 0 ≤ ba) (h6 : ba ≤ 4294967295) (m1 : -2147483648 ≤ mo) (m2 : mo ≤ 2147483647) (h7 : -2147483648 ≤ cl) (h8 : cl ≤ 2147483647) (h9 : -2147483648 ≤ of) (h10 : of ≤ 2147483647)
    (p1 : 0 ≤ prec) (p2 : prec ≤ 65535) (t1 : 0 ≤ tol) (t2 : tol ≤ 4294967295) (w : World) :
    Calls Try.prog 5 #[.agg #[.int .u32 th, .int .u32 ho, .int .u32 ba, .int .i32 mo, .int .i32 cl, .int .i32 of], .int .u16 prec, .int .u32 tol] w fun e w' => e = .returned (.bool true) ∧ Below w.heap.size w w' := by
  go_enter Try.func5, Try.ntmps5
  go_wp2_with (fail)
  go_loop [9] (fun i => ∃ m : Int, -2147483648 ≤ m ∧ m ≤ 2147483647 ∧ i = .int .i64 m) (fun i => (intOf i).natAbs)
  case atStart => exact ⟨mo, m1, m2, rfl⟩
  case round =>
    obtain ⟨m, b1, b2, rfl⟩ := hrel
    have X1 : -9000000000000000 ≤ (th + ho + ba + m) * (tol % 500001) := by
      have := Int.mul_le_mul_of_nonneg_right (a := -15032385536) (b := th + ho + ba + m) (c := tol % 500001) (by omega) (by omega)
      omega
    have X2 : (th + ho + ba + m) * (tol % 500001) ≤ 9000000000000000 := by
      have := Int.mul_le_mul_of_nonneg_right (a := th + ho + ba + m) (b := 15032385536) (c := tol % 500001) (by omega) (by omega)
      omega
    have td : m < 0 → m.tdiv 2 = -((-m) / 2) := fun h => by
      have e : m.tdiv 2 = -((-m).tdiv 2) := by rw [Int.neg_tdiv]; omega
      rw [e, Int.tdiv_eq_ediv_of_nonneg (by omega)]
    have TD := Lib.hid td
    clear td
    go_wp2_with (fail)
    rotate_left
    · go_round
      case rel => exact ⟨_, by omega, by omega, rfl⟩
      case measure => simp [intOf]; omega
    · have hm : m < 0 := by assumption
      have e := TD.out hm
      go_round
      case rel => exact ⟨_, by omega, by omega, rfl⟩
      case measure => (simp only [intOf]; rw [e]; omega)
    all_goals
      have al : Sx.Allowed (th + ho + ba) m (tol % 500001) := Sx.allowed_of (by omega) (by omega)
      obtain ⟨a, b, c, o, D, p, lo, hi, T, hlo, hhi⟩ := tend h1 h2 h3 h4 h5 h6 h7 h8 h9 h10 p1 p2 (by omega) (by omega) b1 b2 al
      have HA := Lib.hid T.ha; have HB := Lib.hid T.hb; have HC := Lib.hid T.hc; have E := Lib.hid T.E; have OK := Lib.hid T.ok; have HL := Lib.hid T.L; have HH := Lib.hid T.H
      clear T al
      go_wp2_with (first | ((with_reducible refine (quad_at (by omega) (by omega) (by omega) (by omega) (by omega) (by omega) (by omega) (by omega) (by omega) (by omega) (by omega) (by omega) HA HB HC _).mono ?_); rintro e w1 ⟨rfl, hb1⟩; obtain ⟨hc1, hf1⟩ := Hp.bcell hb1; have hs1 := hb1.size; (try simp at hs1); have lt_w_w1 : w.heap.size < w1.heap.size := (by omega); have le_w_w1 : w.heap.size < w1.heap.size + 1 := (by omega)) | ((with_reducible refine (sof_at E _).mono ?_); rintro e w2 ⟨rfl, hb2⟩; obtain ⟨hc2, hf2⟩ := Hp.bcell hb2; have hs2 := hb2.size; (try simp at hs2); have lt_w_w2 : w.heap.size < w2.heap.size := (by omega); have le_w_w2 : w.heap.size < w2.heap.size + 1 := (by omega)) | ((with_reducible refine (sbounds_at HL HH _).mono ?_); rintro e w3 ⟨rfl, hb3⟩; obtain ⟨hc3, hf3⟩ := Hp.bcell hb3; have hs3 := hb3.size; (try simp at hs3); have lt_w_w3 : w.heap.size < w3.heap.size := (by omega); have le_w_w3 : w.heap.size < w3.heap.size + 1 := (by omega); have lt_w2_w3 : w2.heap.size < w3.heap.size := (by omega); have le_w2_w3 : w2.heap.size < w3.heap.size + 1 := (by omega)) | ((with_reducible refine (scheck_at OK _).mono ?_); rintro e w4 ⟨rfl, hb4⟩; obtain ⟨hc4, hf4⟩ := Hp.bcell hb4; have hs4 := hb4.size; (try simp at hs4)) | (go_at_call 12; refine (awake21_any _).mono ?_; rintro e w5 ⟨rfl, hb5⟩; obtain ⟨hc5, hf5⟩ := Hp.bcell hb5; have hs5 := hb5.size; (try simp at hs5)))
      go_ret
      refine ⟨rfl, ?_⟩
      (repeat (first | exact Below.refl _ _ | refine Below.drew ?_ | refine Hp.drewN ?_ _ | refine Below.setCell ?_ (by first | (simp; done) | (simp; omega) | omega) _ | refine Below.alloc ?_ (by first | (simp; done) | (simp; omega) | omega) _ | (refine Hp.step ?_ (by assumption))))
end Go.Proofs.Ytjfchcjmfogijaa.FxW
