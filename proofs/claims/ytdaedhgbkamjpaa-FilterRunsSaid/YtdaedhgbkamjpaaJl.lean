/- Best of package filter: a stage that is grown. -/
import Derived.Test.YtdaedhgbkamjpaaJk
set_option linter.unusedVariables false
set_option linter.unusedSimpArgs false
namespace Go.Proofs.Ytdaedhgbkamjpaa.JxW
open Go.RowKit FxW
open Go.Proofs.Ytdaedhgbkamjpaa.Jx
theorem Fi.set_ne {w : World} {g c o : Nat} {v : Value} {tol : Int} {l : List Sm} {any : Bool} {fr : Int} (h : Fi w g tol l any fr) (hc : g ≠ c) : Fi (w.setCell ⟨c, o, none⟩ v) g tol l any fr :=
  h.of (c := 0) (by simp [World.setCell]) (Below.heap_setCell _ _ _ _ (by simpa using hc))
theorem But.set_new {g c o : Nat} {v : Value} {w0 w : World} (h : But g w0 w) (hc : w0.heap.size ≤ c) : But g w0 (w.setCell ⟨c, o, none⟩ v) :=
  ⟨h.os, h.tape, h.output, by simp [World.setCell]; exact h.size, fun k hk hb => (Below.heap_setCell _ _ _ _ (by simp; omega)).trans (h.block k hk hb)⟩
theorem isSome_of {α : Type} {o : Option α} {v : α} (h : o = some v) : o.isSome = true := by rw [h]; rfl
theorem Fi.shown {w : World} {g : Nat} {tol : Int} {l : List Sm} {any : Bool} {fr yt : Int} (h8 : l.length ≤ 8) (h : Fi w g tol l any fr) : Fi ((w.setCell ⟨g, 34, none⟩ (.bool true)).setCell ⟨g, 35, none⟩ (.int .i64 yt)) g tol l true yt := by
  have one : ∀ o, o ≠ 34 → o ≠ 35 → ((w.setCell ⟨g, 34, none⟩ (.bool true)).setCell ⟨g, 35, none⟩ (.int .i64 yt)).cell? ⟨g, o, none⟩ = w.cell? ⟨g, o, none⟩ := fun o h1 h2 => by
    rw [World.cell?_setCell_other _ _ _ _ (by simp <;> omega), World.cell?_setCell_other _ _ _ _ (by simp <;> omega)]
  refine ⟨by simp [World.setCell]; exact h.lt, by rw [one _ (by omega) (by omega)]; exact h.c0, fun i j hi hj => ?_, fun t ht => ?_, by rw [one _ (by omega) (by omega)]; exact h.c33, ?_, ?_, fun o => by rw [World.frozen?_setCell, World.frozen?_setCell]; exact h.free o⟩
  · rw [one _ (by omega) (by omega)]; exact h.st i j hi hj
  · rw [one _ (by omega) (by omega)]; exact h.more t ht
  · rw [World.cell?_setCell_other _ _ _ _ (by simp)]
    exact World.cell?_setCell_same' _ _ _ (isSome_of h.c34)
  · exact World.cell?_setCell_same' _ _ _ (isSome_of (by rw [World.cell?_setCell_other _ _ _ _ (by simp)]; exact h.c35))
set_option maxHeartbeats 16000000 in
set_option maxRecDepth 4000 in
theorem best_grow {g : Nat} {tol : Int} {l : List Sm} {any : Bool} {fr : Int} (V : Val l) (now : Int) (h0 : 0 < l.length) (h : ¬ now < lastT l) (w : World) (F : Fi w g tol l any fr) :
    Calls Try.prog 16 #[.pointer (some ⟨g, 0, none⟩), .int .i64 now] w (Bested w g tol l any fr now) := by
  obtain ⟨G, hG⟩ : ∃ G, grow (first l) now tol = G := ⟨_, rfl⟩
  have RB := Lib.hid (fun he => bestR_bad (l := l) (now := now) (tol := tol) h0 h hG he)
  have RO := Lib.hid (fun he => bestR_ok (l := l) (now := now) (tol := tol) h0 h hG he)
  have ER := Lib.hid (show erl l now = false from decide_eq_false (fun h1 => h h1.2))
  have EA := Lib.hid (fun W (F : Fi W g tol l any fr) => early_any V now W F)
  rw [ER.out] at EA
  obtain ⟨y, hy⟩ : ∃ y, first l = y := ⟨_, rfl⟩
  obtain ⟨yo, yd, yp, yt⟩ := y
  have HY := Lib.hid hy
  obtain ⟨n, hn⟩ : ∃ n, l.length = n := ⟨_, rfl⟩
  have OR := Lib.hid (fun W (F : Fi W g tol l any fr) => ordered_first V hn (by omega) hy W F)
  have GR := Lib.hid (fun W => sgrow_any yo yd yp yt now tol W)
  have hG2 : Sx.growR yo yd yp yt now tol = G := by rw [← hG, hy]; rfl
  rw [hG2] at GR
  obtain ⟨go, gd, gp, gt, ge⟩ := G
  have c := F.c33
  have V8 := Lib.hid V.len
  have HF := Lib.hid F
  have lt := F.lt
  have FA : Hid (∀ o, Fi (w.alloc o) g tol l any fr) := Lib.hid fun o => F.later (by (repeat (first | exact Below.refl _ _ | refine Below.drew ?_ | refine Hp.drewN ?_ _ | refine Below.setCell ?_ (by first | (simp; done) | (simp; omega) | omega) _ | refine Below.alloc ?_ (by first | (simp; done) | (simp; omega) | omega) _ | (refine Hp.step ?_ (by assumption)))))
  rw [hn] at c h0
  have q : ((n : Int) == 0) = false := by simp; omega
  clear F V hn h hG hG2 hy
  go_enter Try.func16, Try.ntmps16
  go_wp2_with (go_at_call 30; (with_reducible refine (EA.out _ (FA.out _)).mono ?_); rintro e w' ⟨rfl, nq, rfl⟩)
  have BZ : Hid (Below w.heap.size w ((w.alloc (.cells #[.int .i64 0, .int .i64 0, .int .i64 0, .int .i64 0] 29)).drewN nq)) := Lib.hid (by (repeat (first | exact Below.refl _ _ | refine Below.drew ?_ | refine Hp.drewN ?_ _ | refine Below.setCell ?_ (by first | (simp; done) | (simp; omega) | omega) _ | refine Below.alloc ?_ (by first | (simp; done) | (simp; omega) | omega) _ | (refine Hp.step ?_ (by assumption)))))
  refine (OR.out _ (HF.out.later BZ.out)).mono ?_
  rintro en w3 ⟨b3, c3, rfl, hb3, lb3, y0, y1, y2, y3, B3⟩
  have blk : w3.heap[w.heap.size]? = some (.cells #[.int .i64 0, .int .i64 0, .int .i64 0, .int .i64 0] 29 (0, 0)) := by rw [B3.block _ (by simp)]; exact Hp.blk_new w _
  have BK := Lib.hid blk
  have HB3 := Lib.hid (BZ.out.trans (B3.mono (by simp)))
  clear B3 blk hb3
  go_wp2_with (fail)
  obtain ⟨wq, hwq⟩ : ∃ wq, w3.alloc (.cells #[.int .i64 yo, .int .i64 yd, .int .i64 yp, .int .i64 yt] 29) = wq := ⟨_, rfl⟩
  have BQ : Hid (Below w.heap.size w wq) := Lib.hid (by rw [← hwq]; exact HB3.out.alloc HB3.out.size _)
  have blk : wq.heap[w3.heap.size]? = some (.cells #[.int .i64 yo, .int .i64 yd, .int .i64 yp, .int .i64 yt] 29 (0, 0)) := by rw [← hwq]; exact Hp.blk_new w3 _
  have blk2 : wq.heap[w.heap.size]? = some (.cells #[.int .i64 0, .int .i64 0, .int .i64 0, .int .i64 0] 29 (0, 0)) := by rw [← hwq]; exact Hp.blk_old BK.out
  have ne : w3.heap.size ≠ w.heap.size := by have := Hp.blk_lt BK.out; omega
  obtain ⟨gy, hgy⟩ : ∃ gy, w3.heap.size = gy := ⟨_, rfl⟩
  obtain ⟨gr, hgr⟩ : ∃ gr, w.heap.size = gr := ⟨_, rfl⟩
  rw [hgy] at blk ne
  rw [hgr] at blk2 ne
  have FQ := Lib.hid (HF.out.later BQ.out)
  rw [hwq, hgy, hgr]
  have gle : Hid (gr ≤ gr ∧ w.heap.size = gr) := Lib.hid ⟨Nat.le_refl _, hgr⟩
  have lg := FQ.out.lt
  have lgr : g < gr := by omega
  have lgy : g < gy := by (have := HB3.out.size; omega)
  have ly := Hp.blk_lt blk
  have lr := Hp.blk_lt blk2
  have KY := Lib.hid blk; have KR := Lib.hid blk2
  have KC := Lib.hid (fun (W' : World) (kb : Below wq.heap.size wq W') =>
    show (W'.heap[gy]? = some (.cells #[.int .i64 yo, .int .i64 yd, .int .i64 yp, .int .i64 yt] 29 (0, 0)) ∧ W'.heap[gr]? = some (.cells #[.int .i64 0, .int .i64 0, .int .i64 0, .int .i64 0] 29 (0, 0))) ∧ W'.cell? ⟨gy, 0, none⟩ = some (.int .i64 yo) ∧ W'.cell? ⟨gy, 1, none⟩ = some (.int .i64 yd) ∧ W'.cell? ⟨gy, 2, none⟩ = some (.int .i64 yp) ∧ W'.cell? ⟨gy, 3, none⟩ = some (.int .i64 yt) ∧ W'.cell? ⟨g, 0, none⟩ = some (.int .i64 tol) from by
      have h1 := (kb.block gy ly).trans KY.out
      have h2 := (kb.block gr lr).trans KR.out
      exact ⟨⟨h1, h2⟩, Hp.blk_cell h1 rfl, Hp.blk_cell h1 rfl, Hp.blk_cell h1 rfl, Hp.blk_cell h1 rfl, (FQ.out.later kb).c0⟩)
  have BA : Hid (Below wq.heap.size wq wq.drew) := Lib.hid (by (repeat (first | exact Below.refl _ _ | refine Below.drew ?_ | refine Hp.drewN ?_ _ | refine Below.setCell ?_ (by first | (simp; done) | (simp; omega) | omega) _ | refine Below.alloc ?_ (by first | (simp; done) | (simp; omega) | omega) _ | (refine Hp.step ?_ (by assumption)))))
  have BB : Hid (Below wq.heap.size wq (wq.drew.alloc (.cells #[.int .i64 0, .int .i64 0, .int .i64 0, .int .i64 0] 29))) := Lib.hid (by (repeat (first | exact Below.refl _ _ | refine Below.drew ?_ | refine Hp.drewN ?_ _ | refine Below.setCell ?_ (by first | (simp; done) | (simp; omega) | omega) _ | refine Below.alloc ?_ (by first | (simp; done) | (simp; omega) | omega) _ | (refine Hp.step ?_ (by assumption)))))
  have BN : Hid (wq.heap.size < (wq.drew.alloc (.cells #[.int .i64 0, .int .i64 0, .int .i64 0, .int .i64 0] 29)).heap.size ∧ (wq.drew.alloc (.cells #[.int .i64 0, .int .i64 0, .int .i64 0, .int .i64 0] 29)).heap[wq.heap.size]? = some (.cells #[.int .i64 0, .int .i64 0, .int .i64 0, .int .i64 0] 29 (0, 0))) := Lib.hid ⟨by simp, Hp.blk_new wq.drew _⟩
  obtain ⟨_, x0, x1, x2, x3, ct⟩ := KC.out wq (Below.refl _ _)
  have x0L := World.new_ne wq _ x0; have ctL := World.new_ne wq _ ct
  have ly1 : gy < wq.heap.size + 1 := by omega
  have lg1 : g < wq.heap.size + 1 := by omega
  clear hwq blk blk2 hgy hgr y0 y1 y2 y3
  go_region_held3 (fun w' => w'.cell? ⟨gy, 0, none⟩ = some (.int .i64 yo) ∧ w'.cell? ⟨gy, 1, none⟩ = some (.int .i64 yd) ∧ w'.cell? ⟨gy, 2, none⟩ = some (.int .i64 yp) ∧ w'.cell? ⟨gy, 3, none⟩ = some (.int .i64 yt) ∧ w'.cell? ⟨g, 0, none⟩ = some (.int .i64 tol)) (go_keep)
    (first
      | (go_at_call 29; (with_reducible refine (GR.out wq.drew).mono ?_); rintro e w4 ⟨rfl, B4⟩; have HB4 := Lib.hid (BA.out.trans B4); obtain ⟨KB, k0, k1, k2, k3, k4⟩ := KC.out _ HB4.out; have sz4 := HB4.out.size; have kL0 := World.new_ne w4 _ k0; have kL4 := World.new_ne w4 _ k4; clear B4 KB)
      | (go_at_call 29; (with_reducible refine (GR.out _).mono ?_); rintro e w4 ⟨rfl, B4⟩; have HB4 := Lib.hid (BB.out.trans (B4.mono BB.out.size)); obtain ⟨KB, k0, k1, k2, k3, k4⟩ := KC.out _ HB4.out; have sz4 := HB4.out.size; obtain ⟨hc4, hf4⟩ := Hp.bcell B4; have KB4 := Lib.hid ((B4.block wq.heap.size BN.out.1).trans BN.out.2); clear B4 KB))
  · obtain ⟨W5, hW5⟩ : ∃ W5, w4.alloc (.cells #[.int .i64 go, .int .i64 gd, .int .i64 gp, .int .i64 gt] 29) = W5 := ⟨_, rfl⟩
    have P : Hid (Below wq.heap.size wq W5 ∧ W5.heap[w4.heap.size]? = some (.cells #[.int .i64 go, .int .i64 gd, .int .i64 gp, .int .i64 gt] 29 (0, 0))) := Lib.hid (by
      rw [← hW5]
      exact ⟨HB4.out.alloc sz4 _, Hp.blk_new w4 _⟩)
    rw [hW5]
    have F5 := Lib.hid (FQ.out.later P.out.1)
    obtain ⟨⟨u5, r5⟩, x0, x1, x2, x3, ct⟩ := KC.out W5 P.out.1
    have n0 : W5.cell? ⟨w4.heap.size, 0, none⟩ = some (.int .i64 go) := Hp.blk_cell P.out.2 rfl
    have n1 : W5.cell? ⟨w4.heap.size, 1, none⟩ = some (.int .i64 gd) := Hp.blk_cell P.out.2 rfl
    have n2 : W5.cell? ⟨w4.heap.size, 2, none⟩ = some (.int .i64 gp) := Hp.blk_cell P.out.2 rfl
    have n3 : W5.cell? ⟨w4.heap.size, 3, none⟩ = some (.int .i64 gt) := Hp.blk_cell P.out.2 rfl
    have r0 : W5.cell? ⟨gr, 0, none⟩ = some (.int .i64 0) := Hp.blk_cell r5 rfl
    have r1 : W5.cell? ⟨gr, 1, none⟩ = some (.int .i64 0) := Hp.blk_cell r5 rfl
    have r2 : W5.cell? ⟨gr, 2, none⟩ = some (.int .i64 0) := Hp.blk_cell r5 rfl
    have r3 : W5.cell? ⟨gr, 3, none⟩ = some (.int .i64 0) := Hp.blk_cell r5 rfl
    have rf : ∀ o, W5.frozen? ⟨gr, o, none⟩ = false := fun o => Hp.blk_free r5
    have gf : ∀ o, W5.frozen? ⟨g, o, none⟩ = false := F5.out.free
    have s34 := F5.out.c34; have s35 := F5.out.c35
    have B5 : Hid (But g w W5) := Lib.hid (But.below (BQ.out.trans (P.out.1.mono BQ.out.size)))
    have wgr : Hid (w.heap.size ≤ gr) := Lib.hid (Nat.le_of_eq gle.out.2)
    have ngr : g ≠ gr := by omega
    have ngy : g ≠ gy := by omega
    have ngn : g ≠ w4.heap.size := by omega
    have nrn : gr ≠ w4.heap.size := by omega
    clear u5 r5 hW5 ct x0 x1 x2
    by_cases hge : ge = 0
    · subst hge
      have R := Lib.hid (RO.out rfl)
      have N := Lib.hid (fresh_ok (any := any) (fr := fr) (show (bestR l now tol).e = 0 by rw [R.out]))
      clear RO RB
      have AN := Lib.hid (show anyN l any fr now tol = (any || freshB l any fr now tol) from rfl)
      have FN := Lib.hid (show frN l any fr now tol = if freshB l any fr now tol = true then (first l).t else fr from rfl)
      have NN := N.out
      rw [HY.out] at NN
      have YT := Lib.hid (show (first l).t = yt by rw [HY.out])
      have cs : (any = false) ∨ (any = true ∧ fr < yt) ∨ (any = true ∧ ¬ fr < yt) := by cases any <;> simp <;> omega
      rcases cs with rfl | ⟨rfl, hf⟩ | ⟨rfl, hf⟩
      · have FB := Lib.hid (show freshB l false fr now tol = true from by rw [NN]; rfl)
        clear NN
        go_wp2_with (fail)
        go_quiet (fail)
        go_wp2_with (fail)
        go_region_held3 (fun w' => w'.cell? ⟨gy, 3, none⟩ = some (.int .i64 yt)) (go_keep) (fail)
        all_goals
          go_wp2_with (fail)
          exact bodyPost_ret (v := .tuple #[.agg #[.int .i64 go, .int .i64 gd, .int .i64 gp, .int .i64 gt], .bool true, .int .i64 0]) (by simp [results, Try.results16, go_sem, r0, r1, r2, r3, ngr, Ne.symm ngr]) rfl
            ⟨by rw [R.out, FB.out], by rw [AN.out, FN.out, FB.out, YT.out]; exact ((((F5.out.drewN.shown V8.out).set_ne ngr).set_ne ngr).set_ne ngr).set_ne ngr, ((((((B5.out.drewN _).setCell _ _).setCell _ _).set_new wgr.out).set_new wgr.out).set_new wgr.out).set_new wgr.out⟩
      · have FB := Lib.hid (show freshB l true fr now tol = true from by rw [NN]; simp; exact hf)
        clear NN
        go_wp2_with (fail)
        go_quiet (fail)
        go_wp2_with (fail)
        go_region_held3 (fun w' => w'.cell? ⟨gy, 3, none⟩ = some (.int .i64 yt)) (go_keep) (fail)
        all_goals
          go_wp2_with (fail)
          exact bodyPost_ret (v := .tuple #[.agg #[.int .i64 go, .int .i64 gd, .int .i64 gp, .int .i64 gt], .bool true, .int .i64 0]) (by simp [results, Try.results16, go_sem, r0, r1, r2, r3, ngr, Ne.symm ngr]) rfl
            ⟨by rw [R.out, FB.out], by rw [AN.out, FN.out, FB.out, YT.out]; exact ((((F5.out.drewN.shown V8.out).set_ne ngr).set_ne ngr).set_ne ngr).set_ne ngr, ((((((B5.out.drewN _).setCell _ _).setCell _ _).set_new wgr.out).set_new wgr.out).set_new wgr.out).set_new wgr.out⟩
      · have FB := Lib.hid (show freshB l true fr now tol = false from by rw [NN]; simp; omega)
        clear NN
        go_wp2_with (fail)
        go_quiet (fail)
        go_wp2_with (fail)
        exact bodyPost_ret (v := .tuple #[.agg #[.int .i64 go, .int .i64 gd, .int .i64 gp, .int .i64 gt], .bool false, .int .i64 0]) (by simp [results, Try.results16, go_sem, r0, r1, r2, r3, hf]) rfl
          ⟨by rw [R.out, FB.out], by rw [AN.out, FN.out, FB.out]; exact (((F5.out.drewN.set_ne ngr).set_ne ngr).set_ne ngr).set_ne ngr, (((((B5.out.drewN _).set_new wgr.out).set_new wgr.out).set_new wgr.out).set_new wgr.out)⟩
    · have hgq : (ge != 0) = true := by simpa using hge
      have R := Lib.hid (RB.out hge)
      have N := Lib.hid (fresh_no (any := any) (fr := fr) (show (bestR l now tol).e ≠ 0 by rw [R.out]; exact hge))
      clear RO RB hge
      go_wp2_with (fail)
      exact bodyPost_ret (v := .tuple #[.agg #[.int .i64 0, .int .i64 0, .int .i64 0, .int .i64 0], .bool false, .int .i64 ge]) (by simp [results, Try.results16, go_sem, r0, r1, r2, r3]) rfl
        ⟨by rw [R.out, N.out.1], by rw [N.out.2.1, N.out.2.2]; exact (((F5.out.set_ne ngr).set_ne ngr).set_ne ngr).set_ne ngr, ((((B5.out.set_new wgr.out).set_new wgr.out).set_new wgr.out).set_new wgr.out)⟩
  · obtain ⟨W5, hW5⟩ : ∃ W5, (((w4.setCell ⟨wq.heap.size, 0, none⟩ (.int .i64 go)).setCell ⟨wq.heap.size, 1, none⟩ (.int .i64 gd)).setCell ⟨wq.heap.size, 2, none⟩ (.int .i64 gp)).setCell ⟨wq.heap.size, 3, none⟩ (.int .i64 gt) = W5 := ⟨_, rfl⟩
    have P : Hid (Below wq.heap.size wq W5 ∧ W5.heap[wq.heap.size]? = some (.cells #[.int .i64 go, .int .i64 gd, .int .i64 gp, .int .i64 gt] 29 (0, 0))) := Lib.hid (by
      rw [← hW5]
      exact ⟨(((HB4.out.setCell (Nat.le_refl _) _).setCell (Nat.le_refl _) _).setCell (Nat.le_refl _) _).setCell (Nat.le_refl _) _, Hp.blk_set (Hp.blk_set (Hp.blk_set (Hp.blk_set KB4.out)))⟩)
    rw [hW5]
    have F5 := Lib.hid (FQ.out.later P.out.1)
    obtain ⟨⟨u5, r5⟩, x0, x1, x2, x3, ct⟩ := KC.out W5 P.out.1
    have n0 : W5.cell? ⟨wq.heap.size, 0, none⟩ = some (.int .i64 go) := Hp.blk_cell P.out.2 rfl
    have n1 : W5.cell? ⟨wq.heap.size, 1, none⟩ = some (.int .i64 gd) := Hp.blk_cell P.out.2 rfl
    have n2 : W5.cell? ⟨wq.heap.size, 2, none⟩ = some (.int .i64 gp) := Hp.blk_cell P.out.2 rfl
    have n3 : W5.cell? ⟨wq.heap.size, 3, none⟩ = some (.int .i64 gt) := Hp.blk_cell P.out.2 rfl
    have r0 : W5.cell? ⟨gr, 0, none⟩ = some (.int .i64 0) := Hp.blk_cell r5 rfl
    have r1 : W5.cell? ⟨gr, 1, none⟩ = some (.int .i64 0) := Hp.blk_cell r5 rfl
    have r2 : W5.cell? ⟨gr, 2, none⟩ = some (.int .i64 0) := Hp.blk_cell r5 rfl
    have r3 : W5.cell? ⟨gr, 3, none⟩ = some (.int .i64 0) := Hp.blk_cell r5 rfl
    have rf : ∀ o, W5.frozen? ⟨gr, o, none⟩ = false := fun o => Hp.blk_free r5
    have gf : ∀ o, W5.frozen? ⟨g, o, none⟩ = false := F5.out.free
    have s34 := F5.out.c34; have s35 := F5.out.c35
    have B5 : Hid (But g w W5) := Lib.hid (But.below (BQ.out.trans (P.out.1.mono BQ.out.size)))
    have wgr : Hid (w.heap.size ≤ gr) := Lib.hid (Nat.le_of_eq gle.out.2)
    have ngr : g ≠ gr := by omega
    have ngy : g ≠ gy := by omega
    have ngn : g ≠ wq.heap.size := by omega
    have nrn : gr ≠ wq.heap.size := by omega
    clear u5 r5 hW5 ct x0 x1 x2
    by_cases hge : ge = 0
    · subst hge
      have R := Lib.hid (RO.out rfl)
      have N := Lib.hid (fresh_ok (any := any) (fr := fr) (show (bestR l now tol).e = 0 by rw [R.out]))
      clear RO RB
      have AN := Lib.hid (show anyN l any fr now tol = (any || freshB l any fr now tol) from rfl)
      have FN := Lib.hid (show frN l any fr now tol = if freshB l any fr now tol = true then (first l).t else fr from rfl)
      have NN := N.out
      rw [HY.out] at NN
      have YT := Lib.hid (show (first l).t = yt by rw [HY.out])
      have cs : (any = false) ∨ (any = true ∧ fr < yt) ∨ (any = true ∧ ¬ fr < yt) := by cases any <;> simp <;> omega
      rcases cs with rfl | ⟨rfl, hf⟩ | ⟨rfl, hf⟩
      · have FB := Lib.hid (show freshB l false fr now tol = true from by rw [NN]; rfl)
        clear NN
        go_wp2_with (fail)
        go_quiet (fail)
        go_wp2_with (fail)
        go_region_held3 (fun w' => w'.cell? ⟨gy, 3, none⟩ = some (.int .i64 yt)) (go_keep) (fail)
        all_goals
          go_wp2_with (fail)
          exact bodyPost_ret (v := .tuple #[.agg #[.int .i64 go, .int .i64 gd, .int .i64 gp, .int .i64 gt], .bool true, .int .i64 0]) (by simp [results, Try.results16, go_sem, r0, r1, r2, r3, ngr, Ne.symm ngr]) rfl
            ⟨by rw [R.out, FB.out], by rw [AN.out, FN.out, FB.out, YT.out]; exact ((((F5.out.drewN.shown V8.out).set_ne ngr).set_ne ngr).set_ne ngr).set_ne ngr, ((((((B5.out.drewN _).setCell _ _).setCell _ _).set_new wgr.out).set_new wgr.out).set_new wgr.out).set_new wgr.out⟩
      · have FB := Lib.hid (show freshB l true fr now tol = true from by rw [NN]; simp; exact hf)
        clear NN
        go_wp2_with (fail)
        go_quiet (fail)
        go_wp2_with (fail)
        go_region_held3 (fun w' => w'.cell? ⟨gy, 3, none⟩ = some (.int .i64 yt)) (go_keep) (fail)
        all_goals
          go_wp2_with (fail)
          exact bodyPost_ret (v := .tuple #[.agg #[.int .i64 go, .int .i64 gd, .int .i64 gp, .int .i64 gt], .bool true, .int .i64 0]) (by simp [results, Try.results16, go_sem, r0, r1, r2, r3, ngr, Ne.symm ngr]) rfl
            ⟨by rw [R.out, FB.out], by rw [AN.out, FN.out, FB.out, YT.out]; exact ((((F5.out.drewN.shown V8.out).set_ne ngr).set_ne ngr).set_ne ngr).set_ne ngr, ((((((B5.out.drewN _).setCell _ _).setCell _ _).set_new wgr.out).set_new wgr.out).set_new wgr.out).set_new wgr.out⟩
      · have FB := Lib.hid (show freshB l true fr now tol = false from by rw [NN]; simp; omega)
        clear NN
        go_wp2_with (fail)
        go_quiet (fail)
        go_wp2_with (fail)
        exact bodyPost_ret (v := .tuple #[.agg #[.int .i64 go, .int .i64 gd, .int .i64 gp, .int .i64 gt], .bool false, .int .i64 0]) (by simp [results, Try.results16, go_sem, r0, r1, r2, r3, hf]) rfl
          ⟨by rw [R.out, FB.out], by rw [AN.out, FN.out, FB.out]; exact (((F5.out.drewN.set_ne ngr).set_ne ngr).set_ne ngr).set_ne ngr, (((((B5.out.drewN _).set_new wgr.out).set_new wgr.out).set_new wgr.out).set_new wgr.out)⟩
    · have hgq : (ge != 0) = true := by simpa using hge
      have R := Lib.hid (RB.out hge)
      have N := Lib.hid (fresh_no (any := any) (fr := fr) (show (bestR l now tol).e ≠ 0 by rw [R.out]; exact hge))
      clear RO RB hge
      go_wp2_with (fail)
      exact bodyPost_ret (v := .tuple #[.agg #[.int .i64 0, .int .i64 0, .int .i64 0, .int .i64 0], .bool false, .int .i64 ge]) (by simp [results, Try.results16, go_sem, r0, r1, r2, r3]) rfl
        ⟨by rw [R.out, N.out.1], by rw [N.out.2.1, N.out.2.2]; exact (((F5.out.set_ne ngr).set_ne ngr).set_ne ngr).set_ne ngr, ((((B5.out.set_new wgr.out).set_new wgr.out).set_new wgr.out).set_new wgr.out)⟩
end Go.Proofs.Ytdaedhgbkamjpaa.JxW
