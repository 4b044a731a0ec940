/- The laws of layer 21: SampleShifts, SampleWider. -/
import Derived.Test.YtjfchcjmfogijaaSl
import Derived.Deep.RegionWith
set_option linter.unusedVariables false
set_option linter.unusedSimpArgs false
namespace Go.Proofs.Ytjfchcjmfogijaa.FxW
open Go.RowKit

set_option maxHeartbeats 8000000 in
set_option maxRecDepth 100000 in
theorem law_SampleShifts (th ho ba mo cl of k prec tol : Int) (h1 : 0 ≤ th) (h2 : th ≤ 4294967295) (h3 : 0 ≤ ho) (h4 : ho ≤ 4294967295) (h5 : 0 ≤ ba) (h6 : ba ≤ 4294967295) (h7 : -2147483648 ≤ cl) (h8 : cl ≤ 2147483647) (h9 : -2147483648 ≤ of) (h10 : of ≤ 2147483647) (k1 : -2147483648 ≤ k) (k2 : k ≤ 2147483647)
    (p1 : 0 ≤ prec) (p2 : prec ≤ 65535) (t1 : 0 ≤ tol) (t2 : tol ≤ 4294967295) (w : World) :
    Calls Try.prog 7 #[.agg #[.int .u32 th, .int .u32 ho, .int .u32 ba, .int .i32 mo, .int .i32 cl, .int .i32 of], .int .i32 k, .int .u16 prec, .int .u32 tol] w fun e w' => e = .returned (.bool true) ∧ Below w.heap.size w w' := by
  obtain ⟨a, ha⟩ : ∃ a, a = cl - (th + ho + ba) - 0 := ⟨_, rfl⟩
  obtain ⟨b, hb⟩ : ∃ b, b = cl + of - ba - ho := ⟨_, rfl⟩
  obtain ⟨c, hc⟩ : ∃ c, c = cl + of - ba := ⟨_, rfl⟩
  obtain ⟨o, e1, _, x1, x2⟩ := Sx.ofR_ok (a := a) (b := b) (c := c) (d := cl) (prec := prec + 1) (tol := tol % 500001) (by omega) (by omega) (by omega) (by omega) (by omega) (by omega) (by omega) (by omega) (by omega) (by omega) (by omega) (by omega) (by omega) (by omega)
  obtain ⟨o2, e2, _, y1, y2⟩ := Sx.ofR_ok (a := a) (b := b + k) (c := c + k) (d := cl) (prec := prec + 1) (tol := tol % 500001) (by omega) (by omega) (by omega) (by omega) (by omega) (by omega) (by omega) (by omega) (by omega) (by omega) (by omega) (by omega) (by omega) (by omega)
  obtain ⟨o3, e3, _, z1, z2⟩ := Sx.ofR_ok (a := a + k) (b := b + k) (c := c + k) (d := cl + k) (prec := prec + 1) (tol := tol % 500001) (by omega) (by omega) (by omega) (by omega) (by omega) (by omega) (by omega) (by omega) (by omega) (by omega) (by omega) (by omega) (by omega) (by omega)
  obtain rfl : o2 = o + k := by omega
  obtain rfl : o3 = o := by omega
  rw [show (c + k) - (b + k) = c - b by omega] at e2 e3
  rw [show (cl + k) - (a + k) = cl - a by omega] at e3
  have o1 : -17592186044416 ≤ o3 := by omega
  have o2 : o3 ≤ 17592186044416 := by omega
  have a1 : -17592186044416 ≤ a := by omega
  have a2 : a ≤ 17592186044416 := by omega
  have b1 : -17592186044416 ≤ b := by omega
  have b2 : b ≤ 17592186044416 := by omega
  have c1 : -17592186044416 ≤ c := by omega
  have c2 : c ≤ 17592186044416 := by omega
  obtain ⟨D, hD⟩ : ∃ D, D = max (prec + 1) ((cl - a) - (c - b)) := ⟨_, rfl⟩
  obtain ⟨q, hq⟩ : ∃ q, q = prec + 1 + Sx.gr (cl - a) (tol % 500001) := ⟨_, rfl⟩
  rw [← hD, ← hq] at e1 e2 e3
  have E1 := Lib.hid e1; have E2 := Lib.hid e2; have E3 := Lib.hid e3
  have HA := Lib.hid ha; have HB := Lib.hid hb; have HC := Lib.hid hc
  clear e1 e2 e3 x1 x2 y1 y2 z1 z2 ha hb hc hD hq
  go_enter Try.func7, Try.ntmps7
  go_wp2_with (first | (go_at_call 19; refine (quad_at (by omega) (by omega) (by omega) (by omega) (by omega) (by omega) (by omega) (by omega) (by omega) (by omega) (by omega) (by omega) HA HB HC _).mono ?_; rintro e w1 ⟨rfl, hb1⟩; obtain ⟨hc1, hf1⟩ := Hp.bcell hb1; have hs1 := hb1.size; (try simp at hs1); have lt_w_w1 : w.heap.size < w1.heap.size := (by omega); have le_w_w1 : w.heap.size < w1.heap.size + 1 := (by omega)) | ((with_reducible refine (sof_at E1 _).mono ?_); rintro e w2 ⟨rfl, hb2⟩; obtain ⟨hc2, hf2⟩ := Hp.bcell hb2; have hs2 := hb2.size; (try simp at hs2); have lt_w1_w2 : w1.heap.size < w2.heap.size := (by omega); have le_w1_w2 : w1.heap.size < w2.heap.size + 1 := (by omega)) | ((with_reducible refine (sof_at E2 _).mono ?_); rintro e w3 ⟨rfl, hb3⟩; obtain ⟨hc3, hf3⟩ := Hp.bcell hb3; have hs3 := hb3.size; (try simp at hs3); have lt_w1_w3 : w1.heap.size < w3.heap.size := (by omega); have le_w1_w3 : w1.heap.size < w3.heap.size + 1 := (by omega); have lt_w2_w3 : w2.heap.size < w3.heap.size := (by omega); have le_w2_w3 : w2.heap.size < w3.heap.size + 1 := (by omega)) | ((with_reducible refine (sof_at E3 _).mono ?_); rintro e w4 ⟨rfl, hb4⟩; obtain ⟨hc4, hf4⟩ := Hp.bcell hb4; have hs4 := hb4.size; (try simp at hs4); have lt_w1_w4 : w1.heap.size < w4.heap.size := (by omega); have le_w1_w4 : w1.heap.size < w4.heap.size + 1 := (by omega); have lt_w2_w4 : w2.heap.size < w4.heap.size := (by omega); have le_w2_w4 : w2.heap.size < w4.heap.size + 1 := (by omega); have lt_w3_w4 : w3.heap.size < w4.heap.size := (by omega); have le_w3_w4 : w3.heap.size < w4.heap.size + 1 := (by omega)) | (go_at_call 12; refine (awake21_any _).mono ?_; rintro e w5 ⟨rfl, hb5⟩; obtain ⟨hc5, hf5⟩ := Hp.bcell hb5; have hs5 := hb5.size; (try simp at hs5)))
  go_ret
  refine ⟨rfl, ?_⟩
  (repeat (first | exact Below.refl _ _ | refine Below.drew ?_ | refine Hp.drewN ?_ _ | refine Below.setCell ?_ (by first | (simp; done) | (simp; omega) | omega) _ | refine Below.alloc ?_ (by first | (simp; done) | (simp; omega) | omega) _ | (refine Hp.step ?_ (by assumption))))
end Go.Proofs.Ytjfchcjmfogijaa.FxW
