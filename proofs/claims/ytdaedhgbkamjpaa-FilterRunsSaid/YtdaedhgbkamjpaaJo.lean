/- awake of layer 22; the contracts at given lists. -/
import Derived.Test.YtdaedhgbkamjpaaJn
set_option linter.unusedVariables false
set_option linter.unusedSimpArgs false
namespace Go.Proofs.Ytdaedhgbkamjpaa.Jx
def s1 : Sm := ⟨100, 50, 8, 10⟩
def s2 : Sm := ⟨130, 40, 8, 20⟩
def s3 : Sm := ⟨90, 60, 8, 30⟩
def l3 : List Sm := [s1, s2, s3]
theorem ex_a1 : addE [] s1 = 0 := by decide
theorem ex_a2 : addL [] s1 = [s1] := rfl
theorem ex_a3 : addE [s1] s2 = 0 := by decide
theorem ex_a4 : addL [s1] s2 = [s1, s2] := rfl
theorem ex_a5 : addE [s1, s2] s3 = 0 := by decide
theorem ex_a6 : addL [s1, s2] s3 = l3 := rfl
theorem ex_b1 : bestR l3 30 0 = ⟨130, 40, 8, 30, 0⟩ := rfl
theorem ex_b2 : freshB l3 false 0 30 0 = true := by decide
theorem ex_b3 : anyN l3 false 0 30 0 = true := by decide
theorem ex_b4 : frN l3 false 0 30 0 = 20 := by decide
theorem ex_b5 : freshB l3 true 20 30 0 = false := by decide
theorem ex_b6 : anyN l3 true 20 30 0 = true := by decide
theorem ex_b7 : frN l3 true 20 30 0 = 20 := by decide
theorem ex_d1 : dispV l3 30 0 = 1937500007 := by decide
theorem ex_q1 : sqN (ord l3) l3.length / ((l3.length : Int) - 1) = 1250 := by decide
theorem ex_j1 : jit l3 = 35 := by unfold jit; rw [ex_q1, if_neg (by decide)]; exact Fx.isq_unique (by decide) (by decide) (by decide)
theorem ex_p1 : spk l3 ⟨235, 0, 0, 40⟩ = false := by unfold spk; rw [ex_j1]; decide
theorem ex_p2 : spk l3 ⟨236, 0, 0, 40⟩ = true := by unfold spk; rw [ex_j1]; decide
theorem ex_a7 : addE l3 ⟨0, 10, 8, 30⟩ = 12 := by decide
theorem ex_a8 : addL l3 ⟨0, 10, 8, 30⟩ = l3 := rfl
theorem ex_v0 : Val [] := Val.nil
theorem ex_v1 : Val [s1] := ex_a2 ▸ ex_v0.add s1
theorem ex_v2 : Val [s1, s2] := ex_a4 ▸ ex_v1.add s2
theorem ex_v3 : Val l3 := ex_a6 ▸ ex_v2.add s3
end Go.Proofs.Ytdaedhgbkamjpaa.Jx
namespace Go.Proofs.Ytdaedhgbkamjpaa.JxW
open Go.RowKit FxW
open Go.Proofs.Ytdaedhgbkamjpaa.Jx
theorem addf_at {g : Nat} {tol : Int} {l m : List Sm} {any : Bool} {fr r : Int} (V : Val l) {xo xd xp xt : Int} (h : addE l ⟨xo, xd, xp, xt⟩ = r) (h2 : addL l ⟨xo, xd, xp, xt⟩ = m) (w : World) (F : Fi w g tol l any fr) :
    Calls Try.prog 13 #[.pointer (some ⟨g, 0, none⟩), .agg #[.int .i64 xo, .int .i64 xd, .int .i64 xp, .int .i64 xt]] w fun e w' => e = .returned (.int .i64 r) ∧ Added w w' g tol m any fr := by
  rw [← h, ← h2]; exact add_any V xo xd xp xt w F
theorem best_at {g : Nat} {tol : Int} {l : List Sm} {any b a2 : Bool} {fr f2 now bo bd bp bt be : Int} (V : Val l) (h : bestR l now tol = ⟨bo, bd, bp, bt, be⟩) (h1 : freshB l any fr now tol = b) (h2 : anyN l any fr now tol = a2) (h3 : frN l any fr now tol = f2) (w : World) (F : Fi w g tol l any fr) :
    Calls Try.prog 16 #[.pointer (some ⟨g, 0, none⟩), .int .i64 now] w fun e w' => e = .returned (.tuple #[.agg #[.int .i64 bo, .int .i64 bd, .int .i64 bp, .int .i64 bt], .bool b, .int .i64 be]) ∧ Added w w' g tol l a2 f2 := by
  refine (best_any V now w F).mono ?_
  rintro e w' ⟨hr, hf, hb⟩
  rw [h, h1] at hr
  rw [h2, h3] at hf
  exact ⟨hr, hf, hb⟩
theorem disp_at {g : Nat} {tol : Int} {l : List Sm} {any : Bool} {fr r now : Int} (V : Val l) (h : dispV l now tol = r) (w : World) (F : Fi w g tol l any fr) :
    Calls Try.prog 11 #[.pointer (some ⟨g, 0, none⟩), .int .i64 now] w fun e w' => e = .returned (.int .i64 r) ∧ Below w.heap.size w w' := by
  rw [← h]; exact disp_any V now w F
theorem jitter_at {g : Nat} {tol : Int} {l : List Sm} {any : Bool} {fr r : Int} (V : Val l) (h : jit l = r) (w : World) (F : Fi w g tol l any fr) :
    Calls Try.prog 23 #[.pointer (some ⟨g, 0, none⟩)] w fun e w' => e = .returned (.int .i64 r) ∧ Below w.heap.size w w' := by
  rw [← h]; exact jitter_any V w F
theorem spike_at {g : Nat} {tol : Int} {l : List Sm} {any r : Bool} {fr : Int} (V : Val l) {xo xd xp xt : Int} (h : spk l ⟨xo, xd, xp, xt⟩ = r) (w : World) (F : Fi w g tol l any fr) :
    Calls Try.prog 19 #[.pointer (some ⟨g, 0, none⟩), .agg #[.int .i64 xo, .int .i64 xd, .int .i64 xp, .int .i64 xt]] w fun e w' => e = .returned (.bool r) ∧ Below w.heap.size w w' := by
  rw [← h]; exact spike_any V xo xd xp xt w F
set_option maxHeartbeats 16000000 in
set_option maxRecDepth 4000 in
theorem awake22_any (w : World) : Calls Try.prog 12 #[] w fun e w' => e = .returned (.bool true) ∧ Below w.heap.size w w' := by
  go_enter Try.func12, Try.ntmps12
  go_wp2_with (fail)
  refine (new_ok 0 (by omega) (by omega) _).mono ?_
  rintro en w1 ⟨g, hg, rfl, f1, B1⟩
  have HG := Lib.hid hg; have F1 := Lib.hid f1; have HB1 := Lib.hid B1
  clear hg f1 B1
  go_wp2_with (fail)
  refine (new_no (-1) (by omega) _).mono ?_
  rintro en w2 ⟨rfl, rfl⟩
  go_wp2_with (fail)
  refine (addf_at ex_v0 ex_a1 ex_a2 _ F1.out).mono ?_
  rintro en w3 ⟨rfl, ad⟩
  have HB3 := Lib.hid (ad.but.toBelow HG.out HB1.out HB1.out.size); have F3 := Lib.hid ad.fi; have U3 := Lib.hid ad.but
  clear ad
  go_wp2_with (fail)
  refine (addf_at ex_v1 ex_a3 ex_a4 _ F3.out).mono ?_
  rintro en w4 ⟨rfl, ad⟩
  have HB4 := Lib.hid (ad.but.toBelow HG.out HB3.out HB3.out.size); have F4 := Lib.hid ad.fi; have U4 := Lib.hid ad.but
  clear ad
  go_wp2_with (fail)
  refine (addf_at ex_v2 ex_a5 ex_a6 _ F4.out).mono ?_
  rintro en w5 ⟨rfl, ad⟩
  have HB5 := Lib.hid (ad.but.toBelow HG.out HB4.out HB4.out.size); have F5 := Lib.hid ad.fi; have U5 := Lib.hid ad.but
  clear ad
  go_wp2_with (fail)
  refine (best_at ex_v3 ex_b1 ex_b2 ex_b3 ex_b4 _ F5.out).mono ?_
  rintro en w6 ⟨rfl, ad⟩
  have HB6 := Lib.hid (ad.but.toBelow HG.out HB5.out HB5.out.size); have F6 := Lib.hid ad.fi; have U6 := Lib.hid ad.but
  clear ad
  go_wp2_with (fail)
  obtain ⟨wa, hwa⟩ : ∃ wa, w6.alloc (.cells #[.int .i64 130, .int .i64 40, .int .i64 8, .int .i64 30] 29) = wa := ⟨_, rfl⟩
  have BA : Hid (Below w6.heap.size w6 wa) := Lib.hid (by rw [← hwa]; exact (Below.refl _ _).alloc (Nat.le_refl _) _)
  have blk : Hid (wa.heap[w6.heap.size]? = some (.cells #[.int .i64 130, .int .i64 40, .int .i64 8, .int .i64 30] 29 (0, 0))) := Lib.hid (by rw [← hwa]; exact Hp.blk_new w6 _)
  have lg : Hid (g < w6.heap.size) := Lib.hid F6.out.lt
  have HB7 := Lib.hid (HB6.out.trans (BA.out.mono HB6.out.size)); have F7 := Lib.hid (F6.out.later BA.out)
  obtain ⟨gy, hgy⟩ : ∃ gy, w6.heap.size = gy := ⟨_, rfl⟩
  rw [hgy] at blk lg
  rw [hwa, hgy]
  clear hwa hgy
  refine (best_at ex_v3 ex_b1 ex_b5 ex_b6 ex_b7 _ F7.out).mono ?_
  rintro en w8 ⟨rfl, ad⟩
  have HB8 := Lib.hid (ad.but.toBelow HG.out HB7.out HB7.out.size); have F8 := Lib.hid ad.fi; have U8 := Lib.hid ad.but
  clear ad
  have blk8 : w8.heap[gy]? = some (.cells #[.int .i64 130, .int .i64 40, .int .i64 8, .int .i64 30] 29 (0, 0)) := (U8.out.block gy (Hp.blk_lt blk.out) (by have := lg.out; omega)).trans blk.out
  have z0 : w8.cell? ⟨gy, 0, none⟩ = some (.int .i64 130) := Hp.blk_cell blk8 rfl
  have z1 : w8.cell? ⟨gy, 1, none⟩ = some (.int .i64 40) := Hp.blk_cell blk8 rfl
  have z2 : w8.cell? ⟨gy, 2, none⟩ = some (.int .i64 8) := Hp.blk_cell blk8 rfl
  have z3 : w8.cell? ⟨gy, 3, none⟩ = some (.int .i64 30) := Hp.blk_cell blk8 rfl
  have zL := World.new_ne w8 _ z0
  have lz := Hp.blk_lt blk8
  clear blk8
  go_wp2_with (fail)
  obtain ⟨wb, hwb⟩ : ∃ wb, w8.alloc (.cells #[.int .i64 130, .int .i64 40, .int .i64 8, .int .i64 30] 29) = wb := ⟨_, rfl⟩
  have BB : Hid (Below w8.heap.size w8 wb) := Lib.hid (by rw [← hwb]; exact (Below.refl _ _).alloc (Nat.le_refl _) _)
  have HB9 := Lib.hid (HB8.out.trans (BB.out.mono HB8.out.size)); have F9 := Lib.hid (F8.out.later BB.out)
  rw [hwb]
  clear hwb z0 z1 z2 z3 zL lz
  refine (jitter_at ex_v3 ex_j1 _ F9.out).mono ?_
  rintro en w10 ⟨rfl, B10⟩
  have HB10 := Lib.hid (HB9.out.trans (B10.mono HB9.out.size)); have F10 := Lib.hid (F9.out.later B10)
  clear B10
  go_wp2_with (fail)
  refine (disp_at ex_v3 ex_d1 _ F10.out).mono ?_
  rintro en w11 ⟨rfl, B11⟩
  have HB11 := Lib.hid (HB10.out.trans (B11.mono HB10.out.size)); have F11 := Lib.hid (F10.out.later B11)
  clear B11
  go_wp2_with (fail)
  refine (spike_at ex_v3 ex_p1 _ F11.out).mono ?_
  rintro en w12 ⟨rfl, B12⟩
  have HB12 := Lib.hid (HB11.out.trans (B12.mono HB11.out.size)); have F12 := Lib.hid (F11.out.later B12)
  clear B12
  go_wp2_with (fail)
  refine (spike_at ex_v3 ex_p2 _ F12.out).mono ?_
  rintro en w13 ⟨rfl, B13⟩
  have HB13 := Lib.hid (HB12.out.trans (B13.mono HB12.out.size)); have F13 := Lib.hid (F12.out.later B13)
  clear B13
  go_wp2_with (fail)
  refine (addf_at ex_v3 ex_a7 ex_a8 _ F13.out).mono ?_
  rintro en w14 ⟨rfl, ad⟩
  have HB14 := Lib.hid (ad.but.toBelow HG.out HB13.out HB13.out.size); have F14 := Lib.hid ad.fi; have U14 := Lib.hid ad.but
  clear ad
  go_wp2_with (fail)
  refine (len_any _ F14.out).mono ?_
  rw [show ((l3.length : Nat) : Int) = 3 from rfl]
  rintro en w15 ⟨rfl, rfl⟩
  go_wp2_with (fail)
  go_ret
  exact ⟨rfl, HB14.out⟩
end Go.Proofs.Ytdaedhgbkamjpaa.JxW
