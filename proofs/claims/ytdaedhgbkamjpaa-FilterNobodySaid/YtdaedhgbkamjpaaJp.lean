/- The law FilterNobody of layer 22. -/
import Derived.Test.YtdaedhgbkamjpaaJo
set_option linter.unusedVariables false
set_option linter.unusedSimpArgs false
namespace Go.Proofs.Ytdaedhgbkamjpaa.JxW
open Go.RowKit FxW
open Go.Proofs.Ytdaedhgbkamjpaa.Jx
theorem nil_best (now : Int) (w : World) : Calls Try.prog 16 #[.pointer none, .int .i64 now] w fun e w' => e = .returned (.tuple #[.agg #[.int .i64 0, .int .i64 0, .int .i64 0, .int .i64 0], .bool false, .int .i64 1]) ∧ Below w.heap.size w w' := by
  go_enter Try.func16, Try.ntmps16
  go_wp2_with (fail)
  exact bodyPost_ret (v := .tuple #[.agg #[.int .i64 0, .int .i64 0, .int .i64 0, .int .i64 0], .bool false, .int .i64 1]) (by simp [results, Try.results16, go_sem]) rfl ⟨rfl, by (repeat (first | exact Below.refl _ _ | refine Below.drew ?_ | refine Hp.drewN ?_ _ | refine Below.setCell ?_ (by first | (simp; done) | (simp; omega) | omega) _ | refine Below.alloc ?_ (by first | (simp; done) | (simp; omega) | omega) _ | (refine Hp.step ?_ (by assumption))))⟩
theorem nil_add (xo xd xp xt : Int) (w : World) : Calls Try.prog 13 #[.pointer none, .agg #[.int .i64 xo, .int .i64 xd, .int .i64 xp, .int .i64 xt]] w fun e w' => e = .returned (.int .i64 1) ∧ Below w.heap.size w w' := by
  go_enter Try.func13, Try.ntmps13
  go_wp2_with (fail)
  go_ret
  exact ⟨rfl, by (repeat (first | exact Below.refl _ _ | refine Below.drew ?_ | refine Hp.drewN ?_ _ | refine Below.setCell ?_ (by first | (simp; done) | (simp; omega) | omega) _ | refine Below.alloc ?_ (by first | (simp; done) | (simp; omega) | omega) _ | (refine Hp.step ?_ (by assumption))))⟩
theorem nil_disp (now : Int) (w : World) : Calls Try.prog 11 #[.pointer none, .int .i64 now] w fun e w' => e = .returned (.int .i64 0) ∧ Below w.heap.size w w' := by
  go_enter Try.func11, Try.ntmps11
  go_wp2_with (fail)
  go_ret
  exact ⟨rfl, by (repeat (first | exact Below.refl _ _ | refine Below.drew ?_ | refine Hp.drewN ?_ _ | refine Below.setCell ?_ (by first | (simp; done) | (simp; omega) | omega) _ | refine Below.alloc ?_ (by first | (simp; done) | (simp; omega) | omega) _ | (refine Hp.step ?_ (by assumption))))⟩
theorem nil_jitter (w : World) : Calls Try.prog 23 #[.pointer none] w fun e w' => e = .returned (.int .i64 0) ∧ Below w.heap.size w w' := by
  go_enter Try.func23, Try.ntmps23
  go_wp2_with (fail)
  go_ret
  exact ⟨rfl, by (repeat (first | exact Below.refl _ _ | refine Below.drew ?_ | refine Hp.drewN ?_ _ | refine Below.setCell ?_ (by first | (simp; done) | (simp; omega) | omega) _ | refine Below.alloc ?_ (by first | (simp; done) | (simp; omega) | omega) _ | (refine Hp.step ?_ (by assumption))))⟩
theorem nil_spike (xo xd xp xt : Int) (w : World) : Calls Try.prog 19 #[.pointer none, .agg #[.int .i64 xo, .int .i64 xd, .int .i64 xp, .int .i64 xt]] w fun e w' => e = .returned (.bool false) ∧ Below w.heap.size w w' := by
  go_enter Try.func19, Try.ntmps19
  go_wp2_with (fail)
  go_ret
  exact ⟨rfl, by (repeat (first | exact Below.refl _ _ | refine Below.drew ?_ | refine Hp.drewN ?_ _ | refine Below.setCell ?_ (by first | (simp; done) | (simp; omega) | omega) _ | refine Below.alloc ?_ (by first | (simp; done) | (simp; omega) | omega) _ | (refine Hp.step ?_ (by assumption))))⟩
theorem nil_len (w : World) : Calls Try.prog 21 #[.pointer none] w fun e w' => e = .returned (.int .i64 0) ∧ Below w.heap.size w w' := by
  go_enter Try.func21, Try.ntmps21
  go_wp2_with (fail)
  go_ret
  exact ⟨rfl, by (repeat (first | exact Below.refl _ _ | refine Below.drew ?_ | refine Hp.drewN ?_ _ | refine Below.setCell ?_ (by first | (simp; done) | (simp; omega) | omega) _ | refine Below.alloc ?_ (by first | (simp; done) | (simp; omega) | omega) _ | (refine Hp.step ?_ (by assumption))))⟩
theorem nil_samples (w : World) : Calls Try.prog 26 #[.pointer none] w fun e w' => e = .returned (.slice none 0 0) ∧ Below w.heap.size w w' := by
  go_enter Try.func26, Try.ntmps26
  go_wp2_with (fail)
  go_ret
  exact ⟨rfl, by (repeat (first | exact Below.refl _ _ | refine Below.drew ?_ | refine Hp.drewN ?_ _ | refine Below.setCell ?_ (by first | (simp; done) | (simp; omega) | omega) _ | refine Below.alloc ?_ (by first | (simp; done) | (simp; omega) | omega) _ | (refine Hp.step ?_ (by assumption))))⟩
set_option maxHeartbeats 8000000 in
theorem law_FilterNobody (xo xd xp xt now : Int) (w : World) : Calls Try.prog 9 #[.agg #[.int .i64 xo, .int .i64 xd, .int .i64 xp, .int .i64 xt], .int .i64 now] w fun e w' => e = .returned (.bool true) ∧ Below w.heap.size w w' := by
  go_enter Try.func9, Try.ntmps9
  go_wp2_with (fail)
  have B0 : Hid (Below w.heap.size w (w.alloc (.cells #[.int .i64 xo, .int .i64 xd, .int .i64 xp, .int .i64 xt] 29))) := Lib.hid (by (repeat (first | exact Below.refl _ _ | refine Below.drew ?_ | refine Hp.drewN ?_ _ | refine Below.setCell ?_ (by first | (simp; done) | (simp; omega) | omega) _ | refine Below.alloc ?_ (by first | (simp; done) | (simp; omega) | omega) _ | (refine Hp.step ?_ (by assumption)))))
  refine (nil_best now _).mono ?_
  rintro en w1 ⟨rfl, B1⟩
  have HB1 := Lib.hid (B0.out.trans (B1.mono B0.out.size))
  have blk := Lib.hid ((B1.block w.heap.size (by simp)).trans (Hp.blk_new w _))
  have x0 : w1.cell? ⟨w.heap.size, 0, none⟩ = some (.int .i64 xo) := Hp.blk_cell blk.out rfl
  have x1 : w1.cell? ⟨w.heap.size, 1, none⟩ = some (.int .i64 xd) := Hp.blk_cell blk.out rfl
  have x2 : w1.cell? ⟨w.heap.size, 2, none⟩ = some (.int .i64 xp) := Hp.blk_cell blk.out rfl
  have x3 : w1.cell? ⟨w.heap.size, 3, none⟩ = some (.int .i64 xt) := Hp.blk_cell blk.out rfl
  have xL := World.new_ne w1 _ x0
  have lz := Hp.blk_lt blk.out
  clear B1
  go_wp2_with (fail)
  obtain ⟨wa, hwa⟩ : ∃ wa, w1.alloc (.cells #[.int .i64 0, .int .i64 0, .int .i64 0, .int .i64 0] 29) = wa := ⟨_, rfl⟩
  have BA : Hid (Below w1.heap.size w1 wa) := Lib.hid (by rw [← hwa]; exact (Below.refl _ _).alloc (Nat.le_refl _) _)
  have k6 : Hid (wa.heap[w1.heap.size]? = some (.cells #[.int .i64 0, .int .i64 0, .int .i64 0, .int .i64 0] 29 (0, 0))) := Lib.hid (by rw [← hwa]; exact Hp.blk_new w1 _)
  have k2 : Hid (wa.heap[w.heap.size]? = some (.cells #[.int .i64 xo, .int .i64 xd, .int .i64 xp, .int .i64 xt] 29 (0, 0))) := Lib.hid ((BA.out.block _ lz).trans blk.out)
  have HBa := Lib.hid (HB1.out.trans (BA.out.mono HB1.out.size))
  obtain ⟨g6, hg6⟩ : ∃ g6, w1.heap.size = g6 := ⟨_, rfl⟩
  obtain ⟨g2, hg2⟩ : ∃ g2, w.heap.size = g2 := ⟨_, rfl⟩
  rw [hg6] at k6
  rw [hg2] at k2
  rw [hwa, hg6, hg2]
  have q2 := Lib.hid hg2
  clear x0 x1 x2 x3 xL lz hwa hg6 hg2 blk
  refine (nil_add _ _ _ _ _).mono ?_
  rintro en wb ⟨rfl, Bb⟩
  have HBb := Lib.hid (HBa.out.trans (Bb.mono HBa.out.size))
  have k6b := Lib.hid ((Bb.block g6 (Hp.blk_lt k6.out)).trans k6.out); have k2b := Lib.hid ((Bb.block g2 (Hp.blk_lt k2.out)).trans k2.out)
  have y0 : wb.cell? ⟨g6, 0, none⟩ = some (.int .i64 0) := Hp.blk_cell k6b.out rfl
  have y1 : wb.cell? ⟨g6, 1, none⟩ = some (.int .i64 0) := Hp.blk_cell k6b.out rfl
  have y2 : wb.cell? ⟨g6, 2, none⟩ = some (.int .i64 0) := Hp.blk_cell k6b.out rfl
  have y3 : wb.cell? ⟨g6, 3, none⟩ = some (.int .i64 0) := Hp.blk_cell k6b.out rfl
  clear Bb
  go_wp2_with (fail)
  refine (nil_disp _ _).mono ?_
  rintro en wc ⟨rfl, Bc⟩
  have HBc := Lib.hid (HBb.out.trans (Bc.mono HBb.out.size))
  have k6c := Lib.hid ((Bc.block g6 (Hp.blk_lt k6b.out)).trans k6b.out); have k2c := Lib.hid ((Bc.block g2 (Hp.blk_lt k2b.out)).trans k2b.out)
  clear y0 y1 y2 y3
  clear Bc
  go_wp2_with (fail)
  refine (nil_jitter _).mono ?_
  rintro en wd ⟨rfl, Bd⟩
  have HBd := Lib.hid (HBc.out.trans (Bd.mono HBc.out.size))
  have k6d := Lib.hid ((Bd.block g6 (Hp.blk_lt k6c.out)).trans k6c.out); have k2d := Lib.hid ((Bd.block g2 (Hp.blk_lt k2c.out)).trans k2c.out)
  have y0 : wd.cell? ⟨g2, 0, none⟩ = some (.int .i64 xo) := Hp.blk_cell k2d.out rfl
  have y1 : wd.cell? ⟨g2, 1, none⟩ = some (.int .i64 xd) := Hp.blk_cell k2d.out rfl
  have y2 : wd.cell? ⟨g2, 2, none⟩ = some (.int .i64 xp) := Hp.blk_cell k2d.out rfl
  have y3 : wd.cell? ⟨g2, 3, none⟩ = some (.int .i64 xt) := Hp.blk_cell k2d.out rfl
  clear Bd
  go_wp2_with (fail)
  refine (nil_spike _ _ _ _ _).mono ?_
  rintro en we ⟨rfl, Be⟩
  have HBe := Lib.hid (HBd.out.trans (Be.mono HBd.out.size))
  clear y0 y1 y2 y3
  clear Be
  go_wp2_with (fail)
  refine (nil_len _).mono ?_
  rintro en wf ⟨rfl, Bf⟩
  have HBf := Lib.hid (HBe.out.trans (Bf.mono HBe.out.size))
  clear Bf
  go_wp2_with (fail)
  refine (nil_samples _).mono ?_
  rintro en wh ⟨rfl, Bh⟩
  have HBh := Lib.hid (HBf.out.trans (Bh.mono HBf.out.size))
  clear Bh
  go_wp2_with (fail)
  refine (awake22_any _).mono ?_
  rintro en wz ⟨rfl, Bz⟩
  have HBz := Lib.hid (HBh.out.trans (Bz.mono HBh.out.size))
  clear Bz
  go_wp2_with (fail)
  go_ret
  exact ⟨rfl, HBz.out⟩
end Go.Proofs.Ytdaedhgbkamjpaa.JxW
