/- Add of package filter: a stage more. -/
import Derived.Test.YtdaedhgbkamjpaaJi
import Derived.StillTailTactics
set_option linter.unusedVariables false
set_option linter.unusedSimpArgs false
namespace Go.Proofs.Ytdaedhgbkamjpaa.JxW
open Go.RowKit FxW Go.Deep
open Go.Proofs.Ytdaedhgbkamjpaa.Jx
theorem addL_room {l : List Sm} {x : Sm} (h : addE l x = 0) (h8 : l.length < 8) : addL l x = l ++ [x] := by
  rw [addL_yes h]; unfold push; rw [if_neg (by omega)]
theorem addL_full {l : List Sm} {x : Sm} (h : addE l x = 0) (h8 : l.length = 8) : addL l x = l.drop 1 ++ [x] := by
  rw [addL_yes h]; unfold push; rw [if_pos h8]
theorem cells4 (w : World) (g o : Nat) (a b c d : Int) : w.setCells g o (encI ⟨a, b, c, d⟩) = (((w.setCell ⟨g, o, none⟩ (.int .i64 a)).setCell ⟨g, o + 1, none⟩ (.int .i64 b)).setCell ⟨g, o + 2, none⟩ (.int .i64 c)).setCell ⟨g, o + 3, none⟩ (.int .i64 d) := rfl
theorem added_of {w wa W : World} {g : Nat} {tol : Int} {l : List Sm} {any : Bool} {fr : Int} (h : Fi W g tol l any fr ∧ But g wa.drew W) (k : Below w.heap.size w wa) : Added w W g tol l any fr :=
  ⟨h.1, (But.below k).trans ((But.drew (But.refl g wa)).trans h.2)⟩
set_option maxHeartbeats 4000000 in
theorem add_room {g : Nat} {tol : Int} {l : List Sm} {any : Bool} {fr : Int} (V : Val l) (xo xd xp xt : Int) (hx : Sx.okS xo xd xp xt = true) (h8 : l.length < 8) (ht : l = [] ∨ lastT l < xt) (w : World) (F : Fi w g tol l any fr) :
    Calls Try.prog 13 #[.pointer (some ⟨g, 0, none⟩), .agg #[.int .i64 xo, .int .i64 xd, .int .i64 xp, .int .i64 xt]] w fun e w' => e = .returned (.int .i64 (addE l ⟨xo, xd, xp, xt⟩)) ∧ Added w w' g tol (addL l ⟨xo, xd, xp, xt⟩) any fr := by
  have CK := Lib.hid (fun W => scheck_ok xo xd xp xt hx W)
  have E := Lib.hid (addE_yes (l := l) (x := ⟨xo, xd, xp, xt⟩) hx ht)
  have EL := Lib.hid (addL_room E.out h8)
  rw [E.out, EL.out]
  have HF := Lib.hid F
  have hk : l.length = 0 ∨ ∃ k, l.length = k + 1 := by rcases h : l.length with _ | k; exact .inl rfl; exact .inr ⟨k, rfl⟩
  rcases hk with hk | ⟨k, hk⟩
  · have CT := Lib.hid (fun W (F : Fi W g tol l any fr) => show W.cell? ⟨g, 33, none⟩ = some (.int .i64 0) ∧ True from by
      have c := F.c33
      rw [hk] at c
      exact ⟨c, trivial⟩)
    have CU := Lib.hid (fun W (F : Fi W g tol l any fr) => show W.cell? ⟨g, 33, none⟩ = some (.int .i64 0) ∧ (∀ o, W.frozen? ⟨g, o, none⟩ = false) ∧ ∃ a0 a1 a2 a3, W.cell? ⟨g, 1, none⟩ = some (.int .i64 a0) ∧ W.cell? ⟨g, 2, none⟩ = some (.int .i64 a1) ∧ W.cell? ⟨g, 3, none⟩ = some (.int .i64 a2) ∧ W.cell? ⟨g, 4, none⟩ = some (.int .i64 a3) from by
      have c := F.c33
      rw [hk] at c
      obtain ⟨a0, h0⟩ := F.more 0 (by omega); obtain ⟨a1, h1⟩ := F.more 1 (by omega); obtain ⟨a2, h2⟩ := F.more 2 (by omega); obtain ⟨a3, h3⟩ := F.more 3 (by omega)
      exact ⟨c, F.free, a0, a1, a2, a3, h0, h1, h2, h3⟩)
    have ST := Lib.hid (fun W (F : Fi W g tol l any fr) => by
      have := Fi.stored F hk (by omega) ⟨xo, xd, xp, xt⟩
      rw [cells4, show 1 + 0 * 4 = 1 from rfl, show 1 + 1 = 2 from rfl, show 1 + 2 = 3 from rfl, show 1 + 3 = 4 from rfl, show ((0 + 1 : Nat) : Int) = 1 from rfl] at this
      exact this)
    clear F hx hk h8 ht V
    go_enter Try.func13, Try.ntmps13
    go_wp2_with (go_at_call 28; (with_reducible refine (CK.out _).mono ?_); rintro e w2 ⟨rfl, hb2⟩; have HB2 := Lib.hid hb2; clear hb2)
    have B0 : Hid (Below w.heap.size w (w.alloc (.cells #[.int .i64 xo, .int .i64 xd, .int .i64 xp, .int .i64 xt] 29))) := Lib.hid (by (repeat (first | exact Below.refl _ _ | refine Below.drew ?_ | refine Hp.drewN ?_ _ | refine Below.setCell ?_ (by first | (simp; done) | (simp; omega) | omega) _ | refine Below.alloc ?_ (by first | (simp; done) | (simp; omega) | omega) _ | (refine Hp.step ?_ (by assumption)))))
    have B2 := Lib.hid (B0.out.trans (HB2.out.mono (by simp)))
    have blk : w2.heap[w.heap.size]? = some (.cells #[.int .i64 xo, .int .i64 xd, .int .i64 xp, .int .i64 xt] 29 (0, 0)) := by rw [HB2.out.block _ (by simp)]; exact Hp.blk_new w _
    have z3 : w2.cell? ⟨w.heap.size, 3, none⟩ = some (.int .i64 xt) := Hp.blk_cell blk rfl
    have BK := Lib.hid blk
    obtain ⟨c, ct⟩ := CT.out w2 (HF.out.later B2.out)
    clear blk
    go_quiet (fail)
    go_wp2_with (fail)
    clear c ct z3
    obtain ⟨wa, hwa⟩ : ∃ wa, w2.drewN nq = wa := ⟨_, rfl⟩
    have BA : Hid (Below w.heap.size w wa) := Lib.hid (by rw [← hwa]; exact Hp.drewN B2.out _)
    have FA := Lib.hid (HF.out.later BA.out)
    have blk : wa.heap[w.heap.size]? = some (.cells #[.int .i64 xo, .int .i64 xd, .int .i64 xp, .int .i64 xt] 29 (0, 0)) := by rw [← hwa]; exact BK.out
    have z0 : wa.cell? ⟨w.heap.size, 0, none⟩ = some (.int .i64 xo) := Hp.blk_cell blk rfl
    have z1 : wa.cell? ⟨w.heap.size, 1, none⟩ = some (.int .i64 xd) := Hp.blk_cell blk rfl
    have z2 : wa.cell? ⟨w.heap.size, 2, none⟩ = some (.int .i64 xp) := Hp.blk_cell blk rfl
    have z3 : wa.cell? ⟨w.heap.size, 3, none⟩ = some (.int .i64 xt) := Hp.blk_cell blk rfl
    obtain ⟨c, fz, a0, a1, a2, a3, s0, s1, s2, s3⟩ := CU.out wa FA.out
    rw [hwa]
    clear hwa blk
    go_still_tail 9, (by kernel_rfl)
    change wpList _ _ _ _ _ (World.drew wa)
    go_wp2_with (fail)
    go_ret
    refine ⟨rfl, ?_⟩
    have st := ST.out wa.drew (FA.out.drewN (n := 1))
    exact added_of st BA.out
  · have h1 : lastT l < xt := by rcases ht with ht | ht; rw [ht] at hk; simp at hk; exact ht
    have CT := Lib.hid (fun W (F : Fi W g tol l any fr) => show W.cell? ⟨g, 33, none⟩ = some (.int .i64 ((k + 1 : Nat) : Int)) ∧ W.cell? ⟨g, 1 + k * 4 + 3, none⟩ = some (.int .i64 (lastT l)) from by
      have c := F.c33; have ct := F.ct (by omega)
      rw [hk] at c
      rw [hk, show k + 1 - 1 = k by omega, show 1 + (k * 4 + 3) = 1 + k * 4 + 3 by omega] at ct
      exact ⟨c, ct⟩)
    have CU := Lib.hid (fun W (F : Fi W g tol l any fr) => show W.cell? ⟨g, 33, none⟩ = some (.int .i64 ((k + 1 : Nat) : Int)) ∧ (∀ o, W.frozen? ⟨g, o, none⟩ = false) ∧ ∃ a0 a1 a2 a3, W.cell? ⟨g, 1 + (k + 1) * 4, none⟩ = some (.int .i64 a0) ∧ W.cell? ⟨g, 1 + (k + 1) * 4 + 1, none⟩ = some (.int .i64 a1) ∧ W.cell? ⟨g, 1 + (k + 1) * 4 + 2, none⟩ = some (.int .i64 a2) ∧ W.cell? ⟨g, 1 + (k + 1) * 4 + 3, none⟩ = some (.int .i64 a3) from by
      have c := F.c33
      rw [hk] at c
      obtain ⟨a0, h0⟩ := F.more ((k + 1) * 4) (by omega); obtain ⟨a1, h1⟩ := F.more ((k + 1) * 4 + 1) (by omega); obtain ⟨a2, h2⟩ := F.more ((k + 1) * 4 + 2) (by omega); obtain ⟨a3, h3⟩ := F.more ((k + 1) * 4 + 3) (by omega)
      exact ⟨c, F.free, a0, a1, a2, a3, h0, h1, h2, h3⟩)
    have ST := Lib.hid (fun W (F : Fi W g tol l any fr) => by
      have := Fi.stored F hk (by omega) ⟨xo, xd, xp, xt⟩
      rw [cells4, show ((k + 1 + 1 : Nat) : Int) = (k : Int) + 1 + 1 from rfl] at this
      exact this)
    obtain ⟨T, eT⟩ : ∃ T, lastT l = T := ⟨_, rfl⟩
    rw [eT] at CT h1
    have j1 : (0 : Int) < (k : Int) + 1 := by omega
    have j2 : (k : Int) + 1 - 1 = k := by omega
    have j3 : k + 1 < 8 := by omega
    have j4 : (k : Int) + 1 < 8 := by omega
    have j5 : (((k : Int) + 1) == 8) = false := by simp; omega
    have j6 : ¬ xt ≤ T := by omega
    have j7 : 0 ≤ (k : Int) + 1 := by omega
    have j8 : ((k : Int) + 1).toNat = k + 1 := by omega
    clear eT
    clear F hx hk h8 ht V
    go_enter Try.func13, Try.ntmps13
    go_wp2_with (go_at_call 28; (with_reducible refine (CK.out _).mono ?_); rintro e w2 ⟨rfl, hb2⟩; have HB2 := Lib.hid hb2; clear hb2)
    have B0 : Hid (Below w.heap.size w (w.alloc (.cells #[.int .i64 xo, .int .i64 xd, .int .i64 xp, .int .i64 xt] 29))) := Lib.hid (by (repeat (first | exact Below.refl _ _ | refine Below.drew ?_ | refine Hp.drewN ?_ _ | refine Below.setCell ?_ (by first | (simp; done) | (simp; omega) | omega) _ | refine Below.alloc ?_ (by first | (simp; done) | (simp; omega) | omega) _ | (refine Hp.step ?_ (by assumption)))))
    have B2 := Lib.hid (B0.out.trans (HB2.out.mono (by simp)))
    have blk : w2.heap[w.heap.size]? = some (.cells #[.int .i64 xo, .int .i64 xd, .int .i64 xp, .int .i64 xt] 29 (0, 0)) := by rw [HB2.out.block _ (by simp)]; exact Hp.blk_new w _
    have z3 : w2.cell? ⟨w.heap.size, 3, none⟩ = some (.int .i64 xt) := Hp.blk_cell blk rfl
    have BK := Lib.hid blk
    obtain ⟨c, ct⟩ := CT.out w2 (HF.out.later B2.out)
    clear blk
    go_quiet (fail)
    go_wp2_with (fail)
    clear c ct z3
    obtain ⟨wa, hwa⟩ : ∃ wa, w2.drewN nq = wa := ⟨_, rfl⟩
    have BA : Hid (Below w.heap.size w wa) := Lib.hid (by rw [← hwa]; exact Hp.drewN B2.out _)
    have FA := Lib.hid (HF.out.later BA.out)
    have blk : wa.heap[w.heap.size]? = some (.cells #[.int .i64 xo, .int .i64 xd, .int .i64 xp, .int .i64 xt] 29 (0, 0)) := by rw [← hwa]; exact BK.out
    have z0 : wa.cell? ⟨w.heap.size, 0, none⟩ = some (.int .i64 xo) := Hp.blk_cell blk rfl
    have z1 : wa.cell? ⟨w.heap.size, 1, none⟩ = some (.int .i64 xd) := Hp.blk_cell blk rfl
    have z2 : wa.cell? ⟨w.heap.size, 2, none⟩ = some (.int .i64 xp) := Hp.blk_cell blk rfl
    have z3 : wa.cell? ⟨w.heap.size, 3, none⟩ = some (.int .i64 xt) := Hp.blk_cell blk rfl
    obtain ⟨c, fz, a0, a1, a2, a3, s0, s1, s2, s3⟩ := CU.out wa FA.out
    rw [hwa]
    clear hwa blk
    go_still_tail 9, (by kernel_rfl)
    change wpList _ _ _ _ _ (World.drew wa)
    go_wp2_with (fail)
    go_ret
    refine ⟨rfl, ?_⟩
    have st := ST.out wa.drew (FA.out.drewN (n := 1))
    exact added_of st BA.out
end Go.Proofs.Ytdaedhgbkamjpaa.JxW
