/- Add of package filter: a stage more where there are eight; Add and Best whole. -/
import Derived.Test.YtdaedhgbkamjpaaJj
import Derived.Test.YtdaedhgbkamjpaaJl
set_option linter.unusedVariables false
set_option linter.unusedSimpArgs false
namespace Go.Proofs.Ytdaedhgbkamjpaa.JxW
open Go.RowKit FxW Go.Deep
open Go.Proofs.Ytdaedhgbkamjpaa.Jx
set_option maxHeartbeats 4000000 in
theorem add_full {g : Nat} {tol : Int} {l : List Sm} {any : Bool} {fr : Int} (V : Val l) (xo xd xp xt : Int) (hx : Sx.okS xo xd xp xt = true) (h8 : l.length = 8) (ht : lastT l < xt) (w : World) (F : Fi w g tol l any fr) :
    Calls Try.prog 13 #[.pointer (some ⟨g, 0, none⟩), .agg #[.int .i64 xo, .int .i64 xd, .int .i64 xp, .int .i64 xt]] w fun e w' => e = .returned (.int .i64 (addE l ⟨xo, xd, xp, xt⟩)) ∧ Added w w' g tol (addL l ⟨xo, xd, xp, xt⟩) any fr := by
  have CK := Lib.hid (fun W => scheck_ok xo xd xp xt hx W)
  have E := Lib.hid (addE_yes (l := l) (x := ⟨xo, xd, xp, xt⟩) hx (.inr ht))
  have EL := Lib.hid (addL_full E.out h8)
  rw [E.out, EL.out]
  have HF := Lib.hid F
  have CT := Lib.hid (fun W (F : Fi W g tol l any fr) => show W.cell? ⟨g, 33, none⟩ = some (.int .i64 8) ∧ W.cell? ⟨g, 32, none⟩ = some (.int .i64 (lastT l)) ∧ (∀ o, W.frozen? ⟨g, o, none⟩ = false) from by
    have c := F.c33; have ct := F.ct (by omega)
    rw [h8] at c ct
    exact ⟨c, ct, F.free⟩)
  have hd : (l.drop 1).length = 7 := by rw [List.length_drop, h8]
  have CU := Lib.hid (fun W (F : Fi W g tol (l.drop 1) any fr) => show W.cell? ⟨g, 33, none⟩ = some (.int .i64 7) ∧ (∀ o, W.frozen? ⟨g, o, none⟩ = false) ∧ ∃ a0 a1 a2 a3, W.cell? ⟨g, 29, none⟩ = some (.int .i64 a0) ∧ W.cell? ⟨g, 30, none⟩ = some (.int .i64 a1) ∧ W.cell? ⟨g, 31, none⟩ = some (.int .i64 a2) ∧ W.cell? ⟨g, 32, none⟩ = some (.int .i64 a3) from by
    have c := F.c33
    rw [hd] at c
    obtain ⟨a0, h0⟩ := F.more 28 (by omega); obtain ⟨a1, h1⟩ := F.more 29 (by omega); obtain ⟨a2, h2⟩ := F.more 30 (by omega); obtain ⟨a3, h3⟩ := F.more 31 (by omega)
    exact ⟨c, F.free, a0, a1, a2, a3, h0, h1, h2, h3⟩)
  have ST := Lib.hid (fun W (F : Fi W g tol (l.drop 1) any fr) => by
    have := Fi.stored F hd (by omega) ⟨xo, xd, xp, xt⟩
    rw [cells4, show 1 + 7 * 4 = 29 from rfl, show 29 + 1 = 30 from rfl, show 29 + 2 = 31 from rfl, show 29 + 3 = 32 from rfl, show ((7 + 1 : Nat) : Int) = 8 from rfl] at this
    exact this)
  have SH := Lib.hid (fun W (F : Fi W g tol l any fr) => Fi.shifted F h8)
  have CP := Lib.hid (fun W (F : Fi W g tol l any fr) => show (∀ j u, (news l)[j]? = some u → W.cell? ((⟨g, 5, none⟩ : Addr).add j) = some u) ∧ (∀ j, j < (news l).length → (W.cell? ⟨g, 1 + j, none⟩).isSome = true) ∧ (∀ j, j < (news l).length → W.frozen? ⟨g, 1 + j, none⟩ = false) ∧ (W.setCells g 1 (news l)).cell? ⟨g, 33, none⟩ = some (.int .i64 8) ∧ (∀ o, (W.setCells g 1 (news l)).frozen? ⟨g, o, none⟩ = false) from by
    have hx : (news l).length = 28 := by unfold news; rw [flat_len]
    have c := F.c33
    rw [h8] at c
    refine ⟨news_src F h8, fun j hj => ?_, fun j _ => F.free _, ?_, fun o => by rw [World.frozen?_setCells]; exact F.free o⟩
    · rw [hx] at hj
      obtain ⟨y, hy⟩ := F.more j (by omega)
      exact some_of hy
    · rw [World.cell?_setCells_out g (news l) 1 W ⟨g, 33, none⟩ (fun _ _ => by rw [hx]; simp)]; exact c)
  have NL : Hid ((news l).length = 7 * 4) := Lib.hid (by unfold news; rw [flat_len])
  have ONE : Hid (∀ v ∈ news l, v.oneCell' = true) := Lib.hid (by unfold news; exact flat_one)
  obtain ⟨i0, hi0, _, hz1, _⟩ := info_parts info_sample
  have HI := Lib.hid hi0; have H1 := Lib.hid hz1
  obtain ⟨T, eT⟩ : ∃ T, lastT l = T := ⟨_, rfl⟩
  rw [eT] at CT ht
  have j6 : ¬ xt ≤ T := by omega
  clear F hx h8 hd eT V hi0 hz1
  go_enter Try.func13, Try.ntmps13
  go_wp2_with (go_at_call 28; (with_reducible refine (CK.out _).mono ?_); rintro e w2 ⟨rfl, hb2⟩; have HB2 := Lib.hid hb2; clear hb2)
  have B0 : Hid (Below w.heap.size w (w.alloc (.cells #[.int .i64 xo, .int .i64 xd, .int .i64 xp, .int .i64 xt] 29))) := Lib.hid (by (repeat (first | exact Below.refl _ _ | refine Below.drew ?_ | refine Hp.drewN ?_ _ | refine Below.setCell ?_ (by first | (simp; done) | (simp; omega) | omega) _ | refine Below.alloc ?_ (by first | (simp; done) | (simp; omega) | omega) _ | (refine Hp.step ?_ (by assumption)))))
  have B2 := Lib.hid (B0.out.trans (HB2.out.mono (by simp)))
  have blk : w2.heap[w.heap.size]? = some (.cells #[.int .i64 xo, .int .i64 xd, .int .i64 xp, .int .i64 xt] 29 (0, 0)) := by rw [HB2.out.block _ (by simp)]; exact Hp.blk_new w _
  have z3 : w2.cell? ⟨w.heap.size, 3, none⟩ = some (.int .i64 xt) := Hp.blk_cell blk rfl
  have BK := Lib.hid blk
  obtain ⟨c, ct, fz⟩ := CT.out w2 (HF.out.later B2.out)
  clear blk
  go_quiet (fail)
  go_wp2_with (fail)
  clear c ct z3 fz
  obtain ⟨wb, hwb⟩ : ∃ wb, w2.drewN nq = wb := ⟨_, rfl⟩
  have BB : Hid (Below w.heap.size w wb) := Lib.hid (by rw [← hwb]; exact Hp.drewN B2.out _)
  have FD := Lib.hid ((HF.out.later BB.out).drewN (n := 1))
  have BKb : Hid (wb.heap[w.heap.size]? = some (.cells #[.int .i64 xo, .int .i64 xd, .int .i64 xp, .int .i64 xt] 29 (0, 0))) := Lib.hid (by rw [← hwb]; exact BK.out)
  rw [hwb]
  have C1 := Lib.hid (CP.out wb.drew FD.out)
  have S1 := Lib.hid (SH.out wb.drew FD.out)
  clear hwb
  go_region_law (refine step_copy_sized (by rfl) (.tmp 42) (.tmp 46) 41 41 (by rfl) 29 i0 4 Try.underlying41 HI.out H1.out g 1 8 8 ⟨g, 5, none⟩ 7 7 7 (by simp [Act.eval, Act.put]) (by simp [Act.eval, Act.put]) (news l) (by rfl) NL.out C1.out.1 C1.out.2.1 C1.out.2.2.1 ONE.out ?_)
  obtain ⟨ws, hws⟩ : ∃ ws, wb.drew.setCells g 1 (news l) = ws := ⟨_, rfl⟩
  have cs := C1.out.2.2.2.1; have fs := C1.out.2.2.2.2
  have S2 := S1.out
  rw [hws] at cs fs S2
  rw [hws]
  have SS := Lib.hid S2
  have LG := Lib.hid (FD.out.lt)
  have BKs : Hid (ws.heap[w.heap.size]? = some (.cells #[.int .i64 xo, .int .i64 xd, .int .i64 xp, .int .i64 xt] 29 (0, 0))) := Lib.hid (by
    rw [← hws]
    have h : (wb.drew.setCells g 1 (news l)).heap[w.heap.size]? = wb.heap[w.heap.size]? := (but_cells (news l) 1 (But.refl g wb.drew)).block _ (Hp.blk_lt BKb.out) (by have := HF.out.lt; omega)
    rw [h]; exact BKb.out)
  clear hws S2
  go_wp2_with (fail)
  obtain ⟨wa, hwa⟩ : ∃ wa, ws.setCell ⟨g, 33, none⟩ (.int .i64 7) = wa := ⟨_, rfl⟩
  have FA : Hid (Fi wa g tol (l.drop 1) any fr) := Lib.hid (by rw [← hwa]; exact SS.out.1)
  have GA : Hid (But g w wa) := Lib.hid (by rw [← hwa]; exact (But.below BB.out).trans ((But.drew (But.refl g wb)).trans SS.out.2))
  have blk : wa.heap[w.heap.size]? = some (.cells #[.int .i64 xo, .int .i64 xd, .int .i64 xp, .int .i64 xt] 29 (0, 0)) := by rw [← hwa, Below.heap_setCell _ _ _ _ (by have := HF.out.lt; simp; omega)]; exact BKs.out
  have z0 : wa.cell? ⟨w.heap.size, 0, none⟩ = some (.int .i64 xo) := Hp.blk_cell blk rfl
  have z1 : wa.cell? ⟨w.heap.size, 1, none⟩ = some (.int .i64 xd) := Hp.blk_cell blk rfl
  have z2 : wa.cell? ⟨w.heap.size, 2, none⟩ = some (.int .i64 xp) := Hp.blk_cell blk rfl
  have z3 : wa.cell? ⟨w.heap.size, 3, none⟩ = some (.int .i64 xt) := Hp.blk_cell blk rfl
  obtain ⟨c, fz, a0, a1, a2, a3, s0, s1, s2, s3⟩ := CU.out wa FA.out
  rw [hwa]
  clear hwa blk cs fs
  go_still_tail 9, (by kernel_rfl)
  change wpList _ _ _ _ _ (World.drew wa)
  go_wp2_with (fail)
  go_ret
  refine ⟨rfl, ?_⟩
  have st := ST.out wa.drew (FA.out.drewN (n := 1))
  exact ⟨st.1, GA.out.trans ((But.drew (But.refl g wa)).trans st.2)⟩
theorem add_any {g : Nat} {tol : Int} {l : List Sm} {any : Bool} {fr : Int} (V : Val l) (xo xd xp xt : Int) (w : World) (F : Fi w g tol l any fr) :
    Calls Try.prog 13 #[.pointer (some ⟨g, 0, none⟩), .agg #[.int .i64 xo, .int .i64 xd, .int .i64 xp, .int .i64 xt]] w fun e w' => e = .returned (.int .i64 (addE l ⟨xo, xd, xp, xt⟩)) ∧ Added w w' g tol (addL l ⟨xo, xd, xp, xt⟩) any fr := by
  by_cases hx : Sx.okS xo xd xp xt = true
  · by_cases h0 : l = []
    · exact add_room V xo xd xp xt hx (by rw [h0]; decide) (.inl h0) w F
    · have hl : 0 < l.length := List.length_pos_iff.2 h0
      by_cases ht : xt ≤ lastT l
      · exact add_order V xo xd xp xt hx hl ht w F
      · by_cases h8 : l.length = 8
        · exact add_full V xo xd xp xt hx h8 (by omega) w F
        · exact add_room V xo xd xp xt hx (by have := V.len; omega) (.inr (by omega)) w F
  · exact add_bad xo xd xp xt (by simpa using hx) w F
theorem best_any {g : Nat} {tol : Int} {l : List Sm} {any : Bool} {fr : Int} (V : Val l) (now : Int) (w : World) (F : Fi w g tol l any fr) :
    Calls Try.prog 16 #[.pointer (some ⟨g, 0, none⟩), .int .i64 now] w (Bested w g tol l any fr now) := by
  by_cases h0 : l = []
  · exact best_nil h0 now w F
  · have hl : 0 < l.length := List.length_pos_iff.2 h0
    by_cases h : now < lastT l
    · exact best_early V now hl h w F
    · exact best_grow V now hl h w F
theorem spike_any {g : Nat} {tol : Int} {l : List Sm} {any : Bool} {fr : Int} (V : Val l) (xo xd xp xt : Int) (w : World) (F : Fi w g tol l any fr) :
    Calls Try.prog 19 #[.pointer (some ⟨g, 0, none⟩), .agg #[.int .i64 xo, .int .i64 xd, .int .i64 xp, .int .i64 xt]] w fun e w' => e = .returned (.bool (spk l ⟨xo, xd, xp, xt⟩)) ∧ Below w.heap.size w w' := by
  by_cases h : l.length < 2
  · exact spike_small h xo xd xp xt w F
  · by_cases hx : Sx.okS xo xd xp xt = true
    · exact spike_ok V (by omega) xo xd xp xt hx w F
    · exact spike_bad (by omega) xo xd xp xt (by simpa using hx) w F
end Go.Proofs.Ytdaedhgbkamjpaa.JxW
