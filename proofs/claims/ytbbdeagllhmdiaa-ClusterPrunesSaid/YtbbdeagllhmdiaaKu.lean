/- awake of layer 25. -/
import Derived.Test.YtbbdeagllhmdiaaKt
set_option linter.unusedVariables false
set_option linter.unusedSimpArgs false
namespace Go.Proofs.Ytbbdeagllhmdiaa.CxW
open Go.RowKit
open Go.Proofs.Ytbbdeagllhmdiaa.Kx
theorem e0_cs {w : World} {g : Nat} (h : w.heap[g]? = some (.cells #[.int .i64 7, .int .i64 0, .int .i64 10, .int .i64 5, .int .i64 2, .int .i64 3, .int .i64 6, .int .i64 10, .int .i64 5, .int .i64 2, .int .i64 9, .int .i64 100, .int .i64 5, .int .i64 5, .int .i64 3] 36 (0, 0))) : Cs w (some ⟨g, 0, none⟩) e0.length (zof e0) := by
  refine ⟨.inr ⟨g, 0, rfl, Hp.blk_lt h, fun i j hi hj => ?_⟩⟩
  have hi' : i = 0 ∨ i = 1 ∨ i = 2 := by have : e0.length = 3 := rfl; omega
  have hj' : j = 0 ∨ j = 1 ∨ j = 2 ∨ j = 3 ∨ j = 4 := by omega
  rcases hi' with rfl | rfl | rfl <;> rcases hj' with rfl | rfl | rfl | rfl | rfl <;> exact Hp.blk_cell h rfl
theorem spr_call {w : World} {y : Qb.Later w} {a : Option Addr} {c : Nat} {i r : Int} (S : Hid (Cs w a e1.length (zof e1))) (h : sprd e1 i = r) :
    Calls Try.prog 16 #[.slice a 3 c, .int .i64 i] y.1 fun e w'' => e = .returned (.int .i64 r) ∧ ∃ y' : Qb.Later w, w'' = y'.1 :=
  Qb.call (by rw [← h]; exact spread_any e1 a c i _ (S.out.later y.2))
set_option maxHeartbeats 16000000 in
set_option maxRecDepth 100000 in
theorem awake25_any (w : World) : Calls Try.prog 10 #[] w fun e w' => e = .returned (.bool true) ∧ Below w.heap.size w w' := by
  have CB := Hp.blk_new w (.cells #[.int .i64 7, .int .i64 0, .int .i64 10, .int .i64 5, .int .i64 2, .int .i64 3, .int .i64 6, .int .i64 10, .int .i64 5, .int .i64 2, .int .i64 9, .int .i64 100, .int .i64 5, .int .i64 5, .int .i64 3] 36)
  have SA := Lib.hid (e0_cs CB)
  have BA := Lib.hid (Below.alloc (Below.refl w.heap.size w) (Nat.le_refl _) (.cells #[.int .i64 7, .int .i64 0, .int .i64 10, .int .i64 5, .int .i64 2, .int .i64 3, .int .i64 6, .int .i64 10, .int .i64 5, .int .i64 2, .int .i64 9, .int .i64 100, .int .i64 5, .int .i64 5, .int .i64 3] 36))
  clear CB
  go_enter Try.func10, Try.ntmps10
  go_wp2_with (fail)
  refine (order_ok e0 (some ⟨w.heap.size, 0, none⟩) 3 e_val _ SA.out (fun h => by cases h)).mono ?_
  rintro en w1 ⟨v, rfl, o, B1⟩
  rw [e_ord] at o
  rcases o with ⟨hx, _⟩ | ⟨_, g, c1, rfl, hg, oz, hc1⟩
  · cases hx
  have O1 := Lib.hid oz.cs; have HB1 := Lib.hid (bl_next BA.out B1); have S1 := Lib.hid (SA.out.later B1)
  clear B1 oz hc1 hg
  rw [show e1.length = 3 from rfl]
  go_wp2_with (fail)
  refine (system_any e0 (some ⟨w.heap.size, 0, none⟩) 3 _ S1.out (fun h => by cases h)).mono ?_
  rw [e_sys.1, e_sys.2]
  rintro en w2 ⟨rfl, B2⟩
  have O2 := Lib.hid (O1.out.later B2); have HB2 := Lib.hid (bl_next HB1.out B2); have S2 := Lib.hid (S1.out.later B2)
  clear B2
  go_wp2_with (fail)
  refine Qb.region (by kernel_rfl) (by kernel_rfl) ?_
  have gl : g < w2.heap.size := by
    rcases O2.out.cells with h | ⟨b, o, ha, hb, _⟩
    · cases h
    · injection ha with ha; injection ha with e1 e2; subst e1; exact hb
  have wl : w.heap.size < w2.heap.size := by
    rcases S2.out.cells with h | ⟨b, o, ha, hb, _⟩
    · cases h
    · injection ha with ha; injection ha with e1 e2; subst e1; exact hb
  have k0 := Qb.cell (cs_at O2.out 0 0 (by decide) (by decide)) gl
  have m0 := Qb.cell (cs_at S2.out 0 0 (by decide) (by decide)) wl
  have k1 := Qb.cell (cs_at O2.out 0 1 (by decide) (by decide)) gl
  have m1 := Qb.cell (cs_at S2.out 0 1 (by decide) (by decide)) wl
  have k2 := Qb.cell (cs_at O2.out 0 2 (by decide) (by decide)) gl
  have m2 := Qb.cell (cs_at S2.out 0 2 (by decide) (by decide)) wl
  have k3 := Qb.cell (cs_at O2.out 0 3 (by decide) (by decide)) gl
  have m3 := Qb.cell (cs_at S2.out 0 3 (by decide) (by decide)) wl
  have k4 := Qb.cell (cs_at O2.out 0 4 (by decide) (by decide)) gl
  have m4 := Qb.cell (cs_at S2.out 0 4 (by decide) (by decide)) wl
  have k5 := Qb.cell (cs_at O2.out 1 0 (by decide) (by decide)) gl
  have m5 := Qb.cell (cs_at S2.out 1 0 (by decide) (by decide)) wl
  have k6 := Qb.cell (cs_at O2.out 1 1 (by decide) (by decide)) gl
  have m6 := Qb.cell (cs_at S2.out 1 1 (by decide) (by decide)) wl
  have k7 := Qb.cell (cs_at O2.out 1 2 (by decide) (by decide)) gl
  have m7 := Qb.cell (cs_at S2.out 1 2 (by decide) (by decide)) wl
  have k8 := Qb.cell (cs_at O2.out 1 3 (by decide) (by decide)) gl
  have m8 := Qb.cell (cs_at S2.out 1 3 (by decide) (by decide)) wl
  have k9 := Qb.cell (cs_at O2.out 1 4 (by decide) (by decide)) gl
  have m9 := Qb.cell (cs_at S2.out 1 4 (by decide) (by decide)) wl
  have k10 := Qb.cell (cs_at O2.out 2 0 (by decide) (by decide)) gl
  have m10 := Qb.cell (cs_at S2.out 2 0 (by decide) (by decide)) wl
  have k11 := Qb.cell (cs_at O2.out 2 1 (by decide) (by decide)) gl
  have m11 := Qb.cell (cs_at S2.out 2 1 (by decide) (by decide)) wl
  have k12 := Qb.cell (cs_at O2.out 2 2 (by decide) (by decide)) gl
  have m12 := Qb.cell (cs_at S2.out 2 2 (by decide) (by decide)) wl
  have k13 := Qb.cell (cs_at O2.out 2 3 (by decide) (by decide)) gl
  have m13 := Qb.cell (cs_at S2.out 2 3 (by decide) (by decide)) wl
  have k14 := Qb.cell (cs_at O2.out 2 4 (by decide) (by decide)) gl
  have m14 := Qb.cell (cs_at S2.out 2 4 (by decide) (by decide)) wl
  rw [show zof e1 0 0 = 3 from rfl] at k0; rw [show zof e0 0 0 = 7 from rfl] at m0
  rw [show zof e1 0 1 = 6 from rfl] at k1; rw [show zof e0 0 1 = 0 from rfl] at m1
  rw [show zof e1 0 2 = 10 from rfl] at k2; rw [show zof e0 0 2 = 10 from rfl] at m2
  rw [show zof e1 0 3 = 5 from rfl] at k3; rw [show zof e0 0 3 = 5 from rfl] at m3
  rw [show zof e1 0 4 = 2 from rfl] at k4; rw [show zof e0 0 4 = 2 from rfl] at m4
  rw [show zof e1 1 0 = 7 from rfl] at k5; rw [show zof e0 1 0 = 3 from rfl] at m5
  rw [show zof e1 1 1 = 0 from rfl] at k6; rw [show zof e0 1 1 = 6 from rfl] at m6
  rw [show zof e1 1 2 = 10 from rfl] at k7; rw [show zof e0 1 2 = 10 from rfl] at m7
  rw [show zof e1 1 3 = 5 from rfl] at k8; rw [show zof e0 1 3 = 5 from rfl] at m8
  rw [show zof e1 1 4 = 2 from rfl] at k9; rw [show zof e0 1 4 = 2 from rfl] at m9
  rw [show zof e1 2 0 = 9 from rfl] at k10; rw [show zof e0 2 0 = 9 from rfl] at m10
  rw [show zof e1 2 1 = 100 from rfl] at k11; rw [show zof e0 2 1 = 100 from rfl] at m11
  rw [show zof e1 2 2 = 5 from rfl] at k12; rw [show zof e0 2 2 = 5 from rfl] at m12
  rw [show zof e1 2 3 = 5 from rfl] at k13; rw [show zof e0 2 3 = 5 from rfl] at m13
  rw [show zof e1 2 4 = 3 from rfl] at k14; rw [show zof e0 2 4 = 3 from rfl] at m14
  simp only [Nat.zero_mul, Nat.zero_add, Nat.one_mul, Nat.reduceMul, Nat.reduceAdd, Nat.add_zero] at k0 k1 k2 k3 k4 k5 k6 k7 k8 k9 k10 k11 k12 k13 k14 m0 m1 m2 m3 m4 m5 m6 m7 m8 m9 m10 m11 m12 m13 m14
  repeat (go_big_quiet_step (first | (go_at_call 16; first | exact spr_call O2 e_s0 | exact spr_call O2 e_s1 | exact spr_call O2 e_s2 | exact spr_call O2 e_s3)))
  refine wpQuiet_nil ?_
  rintro _ ⟨⟨w3, hb3⟩, rfl⟩
  have HB3 := Lib.hid (bl_next HB2.out hb3); have S3 := Lib.hid (S2.out.later hb3)
  clear hb3 k0 k1 k2 k3 k4 k5 k6 k7 k8 k9 k10 k11 k12 k13 k14 m0 m1 m2 m3 m4 m5 m6 m7 m8 m9 m10 m11 m12 m13 m14
  go_wp2_with (fail)
  refine (prune_ok e0 (some ⟨w.heap.size, 0, none⟩) 3 e_val 1 (by decide) _ S3.out (fun h => by cases h)).mono ?_
  rintro en w4 ⟨v, rfl, o, B4⟩
  rw [e_p1] at o
  obtain ⟨a4, c4, rfl, s4⟩ := o.rd
  have P4 := Lib.hid s4; have HB4 := Lib.hid (bl_next HB3.out B4); have S4 := Lib.hid (S3.out.later B4)
  clear B4 o s4
  rw [show p1.length = 1 from rfl]
  go_wp2_with (fail)
  refine (prune_ok e0 (some ⟨w.heap.size, 0, none⟩) 3 e_val 2 (by decide) _ S4.out (fun h => by cases h)).mono ?_
  rintro en w5 ⟨v, rfl, o, B5⟩
  rw [e_p2] at o
  obtain ⟨a5, c5, rfl, s5⟩ := o.rd
  have P5 := Lib.hid (P4.out.later B5); have R5 := Lib.hid s5; have HB5 := Lib.hid (bl_next HB4.out B5); have S5 := Lib.hid (S4.out.later B5)
  clear B5 o s5
  rw [show p2.length = 2 from rfl]
  go_wp2_with (fail)
  refine (prune_range e0 (some ⟨w.heap.size, 0, none⟩) 3 e_val 0 (by decide) _ S5.out).mono ?_
  rintro en w6 ⟨rfl, B6⟩
  have P6 := Lib.hid (P5.out.later B6); have R6 := Lib.hid (R5.out.later B6); have HB6 := Lib.hid (bl_next HB5.out B6); have S6 := Lib.hid (S5.out.later B6)
  clear B6
  obtain ⟨bp, op, rfl, hbp, x0, x1, x2, x3, x4⟩ := P6.out.elem (i := 0) (by decide)
  obtain ⟨bq, oq, rfl, hbq, y0, y1, y2, y3, y4⟩ := R6.out.elem (i := 0) (by decide)
  obtain ⟨bq', oq', e', _, z0, z1, z2, z3, z4⟩ := R6.out.elem (i := 1) (by decide)
  obtain ⟨rfl, rfl⟩ : bq = bq' ∧ oq = oq' := by injection e' with e'; injection e' with e1 e2; exact ⟨e1, e2⟩
  have m0 := cs_at S6.out 0 0 (by decide) (by decide)
  rw [show zof e0 0 0 = 7 from rfl] at m0
  have m1 := cs_at S6.out 0 1 (by decide) (by decide)
  rw [show zof e0 0 1 = 0 from rfl] at m1
  have m2 := cs_at S6.out 0 2 (by decide) (by decide)
  rw [show zof e0 0 2 = 10 from rfl] at m2
  have m3 := cs_at S6.out 0 3 (by decide) (by decide)
  rw [show zof e0 0 3 = 5 from rfl] at m3
  have m4 := cs_at S6.out 0 4 (by decide) (by decide)
  rw [show zof e0 0 4 = 2 from rfl] at m4
  have m5 := cs_at S6.out 1 0 (by decide) (by decide)
  rw [show zof e0 1 0 = 3 from rfl] at m5
  have m6 := cs_at S6.out 1 1 (by decide) (by decide)
  rw [show zof e0 1 1 = 6 from rfl] at m6
  have m7 := cs_at S6.out 1 2 (by decide) (by decide)
  rw [show zof e0 1 2 = 10 from rfl] at m7
  have m8 := cs_at S6.out 1 3 (by decide) (by decide)
  rw [show zof e0 1 3 = 5 from rfl] at m8
  have m9 := cs_at S6.out 1 4 (by decide) (by decide)
  rw [show zof e0 1 4 = 2 from rfl] at m9
  rw [show zof p1 0 0 = 3 from rfl] at x0
  rw [show zof p1 0 1 = 6 from rfl] at x1
  rw [show zof p1 0 2 = 10 from rfl] at x2
  rw [show zof p1 0 3 = 5 from rfl] at x3
  rw [show zof p1 0 4 = 2 from rfl] at x4
  rw [show zof p2 0 0 = 3 from rfl] at y0
  rw [show zof p2 0 1 = 6 from rfl] at y1
  rw [show zof p2 0 2 = 10 from rfl] at y2
  rw [show zof p2 0 3 = 5 from rfl] at y3
  rw [show zof p2 0 4 = 2 from rfl] at y4
  rw [show zof p2 1 0 = 7 from rfl] at z0
  rw [show zof p2 1 1 = 0 from rfl] at z1
  rw [show zof p2 1 2 = 10 from rfl] at z2
  rw [show zof p2 1 3 = 5 from rfl] at z3
  rw [show zof p2 1 4 = 2 from rfl] at z4
  simp only [Nat.zero_mul, Nat.zero_add, Nat.one_mul, Nat.reduceMul, Nat.reduceAdd, Nat.add_zero] at m0 m1 m2 m3 m4 m5 m6 m7 m8 m9 x0 x1 x2 x3 x4 y0 y1 y2 y3 y4 z0 z1 z2 z3 z4
  clear e'
  go_wp2_with (fail)
  go_quiet (fail)
  go_wp2_with (fail)
  go_ret
  exact ⟨rfl, Hp.drewN HB6.out _⟩
end Go.Proofs.Ytbbdeagllhmdiaa.CxW
