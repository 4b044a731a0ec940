/- The laws of layer 21: SampleOf, SampleGrows, SampleEqual, SampleShifts. -/
import Derived.Test.YtjfchcjmfogijaaSj
import Derived.Test.YtjfchcjmfogijaaSk
set_option linter.unusedVariables false
set_option linter.unusedSimpArgs false
namespace Go.Proofs.Ytjfchcjmfogijaa.FxW
open Go.RowKit

theorem sof_at {a b c d prec tol o D p t e : Int} (h : Hid (Sx.ofR a b c d prec tol = ⟨o, D, p, t, e⟩)) (w : World) :
    Calls Try.prog 10 #[.agg #[.int .i64 a, .int .i64 b, .int .i64 c, .int .i64 d], .int .i64 prec, .int .i64 tol] w fun e' w' => e' = .returned (.tuple #[.agg #[.int .i64 o, .int .i64 D, .int .i64 p, .int .i64 t], .int .i64 e]) ∧ Below w.heap.size w w' := by
  have := sof_any a b c d prec tol w; rw [h.out] at this; exact this
theorem sgrow_at {o d p t now tol o' D' p' t' e : Int} (h : Hid (Sx.growR o d p t now tol = ⟨o', D', p', t', e⟩)) (w : World) :
    Calls Try.prog 20 #[.agg #[.int .i64 o, .int .i64 d, .int .i64 p, .int .i64 t], .int .i64 now, .int .i64 tol] w fun e' w' => e' = .returned (.tuple #[.agg #[.int .i64 o', .int .i64 D', .int .i64 p', .int .i64 t'], .int .i64 e]) ∧ Below w.heap.size w w' := by
  have := sgrow_any o d p t now tol w; rw [h.out] at this; exact this
theorem quad_at {th ho ba mo cl of more a b c : Int} (h1 : 0 ≤ th) (h2 : th ≤ 4294967295) (h3 : 0 ≤ ho) (h4 : ho ≤ 4294967295) (h5 : 0 ≤ ba) (h6 : ba ≤ 4294967295) (h7 : -2147483648 ≤ cl) (h8 : cl ≤ 2147483647) (h9 : -2147483648 ≤ of) (h10 : of ≤ 2147483647) (h11 : -2147483648 ≤ more) (h12 : more ≤ 2147483648)
    (ha : Hid (a = cl - (th + ho + ba) - more)) (hb : Hid (b = cl + of - ba - ho)) (hc : Hid (c = cl + of - ba)) (w : World) :
    Calls Try.prog 19 #[.agg #[.int .u32 th, .int .u32 ho, .int .u32 ba, .int .i32 mo, .int .i32 cl, .int .i32 of], .int .i64 more] w fun e w' => e = .returned (.agg #[.int .i64 a, .int .i64 b, .int .i64 c, .int .i64 cl]) ∧ Below w.heap.size w w' := by
  rw [ha.out, hb.out, hc.out]; exact quad_any th ho ba mo cl of more h1 h2 h3 h4 h5 h6 h7 h8 h9 h10 h11 h12 w
set_option maxHeartbeats 4000000 in
set_option maxRecDepth 100000 in
theorem law_SampleOf (a b c d prec tol : Int) (w : World) :
    Calls Try.prog 3 #[.agg #[.int .i64 a, .int .i64 b, .int .i64 c, .int .i64 d], .int .i64 prec, .int .i64 tol] w fun e w' => e = .returned (.bool true) ∧ Below w.heap.size w w' := by
  go_enter Try.func3, Try.ntmps3
  go_wp2_with (first | (go_at_call 10; refine (sof_any _ _ _ _ _ _ _).mono ?_; rintro e w1 ⟨rfl, hb1⟩; obtain ⟨hc1, hf1⟩ := Hp.bcell hb1; have hs1 := hb1.size; (try simp at hs1); have lt_w_w1 : w.heap.size < w1.heap.size := (by omega); have le_w_w1 : w.heap.size < w1.heap.size + 1 := (by omega)) | (go_at_call 11; refine (rof_any _ _ _ _ _ _ _).mono ?_; rintro e w2 ⟨rfl, hb2⟩; obtain ⟨hc2, hf2⟩ := Hp.bcell hb2; have hs2 := hb2.size; (try simp at hs2); have lt_w_w2 : w.heap.size < w2.heap.size := (by omega); have le_w_w2 : w.heap.size < w2.heap.size + 1 := (by omega); have lt_w1_w2 : w1.heap.size < w2.heap.size := (by omega); have le_w1_w2 : w1.heap.size < w2.heap.size + 1 := (by omega)) | (go_at_call 12; refine (awake21_any _).mono ?_; rintro e w3 ⟨rfl, hb3⟩; obtain ⟨hc3, hf3⟩ := Hp.bcell hb3; have hs3 := hb3.size; (try simp at hs3)))
  go_ret
  refine ⟨rfl, ?_⟩
  (repeat (first | exact Below.refl _ _ | refine Below.drew ?_ | refine Hp.drewN ?_ _ | refine Below.setCell ?_ (by first | (simp; done) | (simp; omega) | omega) _ | refine Below.alloc ?_ (by first | (simp; done) | (simp; omega) | omega) _ | (refine Hp.step ?_ (by assumption))))
set_option maxHeartbeats 4000000 in
set_option maxRecDepth 100000 in
theorem law_SampleGrows (o d p t now tol : Int) (w : World) :
    Calls Try.prog 8 #[.agg #[.int .i64 o, .int .i64 d, .int .i64 p, .int .i64 t], .int .i64 now, .int .i64 tol] w fun e w' => e = .returned (.bool true) ∧ Below w.heap.size w w' := by
  go_enter Try.func8, Try.ntmps8
  go_wp2_with (first | (go_at_call 20; refine (sgrow_any _ _ _ _ _ _ _).mono ?_; rintro e w1 ⟨rfl, hb1⟩; obtain ⟨hc1, hf1⟩ := Hp.bcell hb1; have hs1 := hb1.size; (try simp at hs1); have lt_w_w1 : w.heap.size < w1.heap.size := (by omega); have le_w_w1 : w.heap.size < w1.heap.size + 1 := (by omega)) | (go_at_call 21; refine (rgrow_any _ _ _ _ _ _ _).mono ?_; rintro e w2 ⟨rfl, hb2⟩; obtain ⟨hc2, hf2⟩ := Hp.bcell hb2; have hs2 := hb2.size; (try simp at hs2); have lt_w_w2 : w.heap.size < w2.heap.size := (by omega); have le_w_w2 : w.heap.size < w2.heap.size + 1 := (by omega); have lt_w1_w2 : w1.heap.size < w2.heap.size := (by omega); have le_w1_w2 : w1.heap.size < w2.heap.size + 1 := (by omega)) | (go_at_call 12; refine (awake21_any _).mono ?_; rintro e w3 ⟨rfl, hb3⟩; obtain ⟨hc3, hf3⟩ := Hp.bcell hb3; have hs3 := hb3.size; (try simp at hs3)))
  go_ret
  refine ⟨rfl, ?_⟩
  (repeat (first | exact Below.refl _ _ | refine Below.drew ?_ | refine Hp.drewN ?_ _ | refine Below.setCell ?_ (by first | (simp; done) | (simp; omega) | omega) _ | refine Below.alloc ?_ (by first | (simp; done) | (simp; omega) | omega) _ | (refine Hp.step ?_ (by assumption))))
set_option maxHeartbeats 4000000 in
set_option maxRecDepth 100000 in
theorem law_SampleEqual (th ho ba mo cl of prec tol : Int) (h1 : 0 ≤ th) (h2 : th ≤ 4294967295) (h3 : 0 ≤ ho) (h4 : ho ≤ 4294967295) (h7 : -2147483648 ≤ cl) (h8 : cl ≤ 2147483647) (h9 : -2147483648 ≤ of) (h10 : of ≤ 2147483647)
    (p1 : 0 ≤ prec) (p2 : prec ≤ 65535) (t1 : 0 ≤ tol) (t2 : tol ≤ 4294967295) (w : World) :
    Calls Try.prog 6 #[.agg #[.int .u32 th, .int .u32 ho, .int .u32 ba, .int .i32 mo, .int .i32 cl, .int .i32 of], .int .u16 prec, .int .u32 tol] w fun e w' => e = .returned (.bool true) ∧ Below w.heap.size w w' := by
  obtain ⟨a, ha⟩ : ∃ a, a = cl - (th + ho + th) - 0 := ⟨_, rfl⟩
  obtain ⟨b, hb⟩ : ∃ b, b = cl + of - th - ho := ⟨_, rfl⟩
  obtain ⟨c, hc⟩ : ∃ c, c = cl + of - th := ⟨_, rfl⟩
  obtain ⟨o, ho, hok, ho1, ho2⟩ := Sx.ofR_ok (a := a) (b := b) (c := c) (d := cl) (prec := prec + 1) (tol := tol % 500001) (by omega) (by omega) (by omega) (by omega) (by omega) (by omega) (by omega) (by omega) (by omega) (by omega) (by omega) (by omega) (by omega) (by omega)
  obtain rfl : o = of := by omega
  obtain ⟨g1, g2, _, _⟩ := Sx.gr_small (cl - a) (tol % 500001) (by omega) (by omega) (by omega) (by omega)
  obtain ⟨D, hD⟩ : ∃ D, D = max (2 * th) (prec + 1) := ⟨_, rfl⟩
  have e1 : max (prec + 1) ((cl - a) - (c - b)) = D := by omega
  rw [e1] at ho
  have E := Lib.hid ho
  have HA := Lib.hid ha; have HB := Lib.hid hb; have HC := Lib.hid hc
  have hD1 : (D == max (2 * th) (prec + 1)) = true := by simp [hD]
  obtain ⟨q, hq⟩ : ∃ q, q = prec + 1 + Sx.gr (cl - a) (tol % 500001) := ⟨_, rfl⟩
  rw [← hq] at E
  have q1 : prec < q := by omega
  clear ho hok ho1 ho2 ha hb hc hD e1 g1 g2 hq
  go_enter Try.func6, Try.ntmps6
  go_wp2_with (first | (go_at_call 19; refine (quad_at (by omega) (by omega) (by omega) (by omega) (by omega) (by omega) (by omega) (by omega) (by omega) (by omega) (by omega) (by omega) HA HB HC _).mono ?_; rintro e w1 ⟨rfl, hb1⟩; obtain ⟨hc1, hf1⟩ := Hp.bcell hb1; have hs1 := hb1.size; (try simp at hs1); have lt_w_w1 : w.heap.size < w1.heap.size := (by omega); have le_w_w1 : w.heap.size < w1.heap.size + 1 := (by omega)) | (go_at_call 10; refine (sof_at E _).mono ?_; rintro e w2 ⟨rfl, hb2⟩; obtain ⟨hc2, hf2⟩ := Hp.bcell hb2; have hs2 := hb2.size; (try simp at hs2); have lt_w_w2 : w.heap.size < w2.heap.size := (by omega); have le_w_w2 : w.heap.size < w2.heap.size + 1 := (by omega)) | (go_at_call 12; refine (awake21_any _).mono ?_; rintro e w3 ⟨rfl, hb3⟩; obtain ⟨hc3, hf3⟩ := Hp.bcell hb3; have hs3 := hb3.size; (try simp at hs3)))
  go_ret
  refine ⟨rfl, ?_⟩
  (repeat (first | exact Below.refl _ _ | refine Below.drew ?_ | refine Hp.drewN ?_ _ | refine Below.setCell ?_ (by first | (simp; done) | (simp; omega) | omega) _ | refine Below.alloc ?_ (by first | (simp; done) | (simp; omega) | omega) _ | (refine Hp.step ?_ (by assumption))))
end Go.Proofs.Ytjfchcjmfogijaa.FxW
