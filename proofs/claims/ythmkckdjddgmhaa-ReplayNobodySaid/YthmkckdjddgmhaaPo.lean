/- The law ReplayNobody. -/
import Derived.Test.YthmkckdjddgmhaaPn
set_option linter.unusedVariables false
set_option linter.unusedSimpArgs false
namespace Go.Proofs.Ythmkckdjddgmhaa.PxW
open Go.RowKit

theorem refuse_bad {size next : Int} {B : Nat} {n : Int} (h : n < 0 ∨ 4611686018427387904 < n) : Px.refuse size next B n = 3 := by unfold Px.refuse; rw [if_pos h]
theorem refuse_stale {size next : Int} {B : Nat} {n : Int} (h : ¬ (n < 0 ∨ 4611686018427387904 < n)) (h2 : size ≤ next - 1 - n) : Px.refuse size next B n = 17 := by unfold Px.refuse; rw [if_neg h, if_pos h2]
theorem refuse_new {size next : Int} {B : Nat} {n : Int} (h : ¬ (n < 0 ∨ 4611686018427387904 < n)) (h2 : ¬ size ≤ next - 1 - n) (h3 : next ≤ n) : Px.refuse size next B n = 0 := by
  unfold Px.refuse; rw [if_neg h, if_neg h2, if_neg (by omega)]
set_option maxHeartbeats 8000000 in
set_option maxRecDepth 100000 in
theorem nobody_bad (n size : Int) (hn : n < 0 ∨ (¬ n < 0 ∧ 4611686018427387904 < n)) (hs : size < 1 ∨ (1 ≤ size ∧ size ≤ 256) ∨ (¬ size < 1 ∧ 256 < size)) (w : World) :
    Calls Try.prog 6 #[.int .i64 n, .int .i64 size] w fun e w' => e = .returned (.bool true) ∧ Below w.heap.size w w' := by
  have r1 := Lib.hid (refuse_bad (size := 0) (next := 0) (B := 0) (n := n) (by omega))
  have t1 := Lib.hid (show ((3 : Int) == 0) = false from rfl)
  have m1 := Lib.hid (show ((Px.miss 0 (min 0 0 : Int).toNat : Nat) : Int) = 0 by decide +kernel)
  rcases hn with hn | ⟨hn', hn⟩ <;> rcases hs with hs | ⟨hs, hs'⟩ | ⟨hs', hs⟩
  all_goals
    go_enter Try.func6, Try.ntmps6
    go_wp2_with (fail)
    have Z : Win (w.alloc (.cells #[.int .i64 0, .int .i64 0, .int .u64 0, .int .u64 0, .int .u64 0, .int .u64 0] 43 (0, 0))) w.heap.size 0 0 0 := ⟨by simpa [Px.wd] using Hp.blk_new w (.cells #[.int .i64 0, .int .i64 0, .int .u64 0, .int .u64 0, .int .u64 0, .int .u64 0] 43 (0, 0))⟩
    have HZ := Lib.hid Z
    clear Z
    go_wp2_with (first | (with_reducible (refine (reset_nil _).mono ?_; rintro e w' ⟨rfl, rfl⟩)) | (with_reducible (refine (accept_nil _ _).mono ?_; rintro e w' ⟨rfl, rfl⟩)) | (with_reducible (refine (can_nil _ _).mono ?_; rintro e w' ⟨rfl, rfl⟩)) | (with_reducible (refine (top_nil _).mono ?_; rintro e w' ⟨rfl, rfl⟩)) | (with_reducible (refine (missing_nil _).mono ?_; rintro e w' ⟨rfl, rfl⟩)) | (with_reducible (refine (can_at r1 t1 _ HZ.out (by omega) (by omega) (by omega) (by omega)).mono ?_; rintro e w' ⟨rfl, rfl⟩)) | (with_reducible (refine (accept_no n _ HZ.out (by omega) (by omega) (by omega) (by omega) 3 r1 rfl).mono ?_; rintro e w' ⟨rfl, rfl⟩)) | (with_reducible (refine (missing_at m1 _ HZ.out (by omega) (by omega) (by omega)).mono ?_; rintro e w' ⟨rfl, nq, rfl⟩)) | (with_reducible (refine (new_no size (by omega) _).mono ?_; rintro e w' ⟨rfl, rfl⟩)) | (with_reducible (refine (new_yes size (by omega) (by omega) _).mono ?_; rintro e w7 ⟨rfl, W7, B7⟩)) | (with_reducible (refine (awake45_any _).mono ?_; rintro e w8 ⟨rfl, B8⟩)))
    go_ret
    refine ⟨Hp.ret_bool (by first | rfl | (simp; omega)), ?_⟩
    (repeat (first | exact Below.refl _ _ | refine Below.drew ?_ | refine Hp.drewN ?_ _ | refine Below.setCell ?_ (by first | (simp; done) | (simp; omega) | omega) _ | refine Below.alloc ?_ (by first | (simp; done) | (simp; omega) | omega) _ | (refine Hp.step ?_ (by assumption))))
theorem nobody_good (n size : Int) (hn : ¬ n < 0) (hn' : ¬ 4611686018427387904 < n) (hs : size < 1 ∨ (1 ≤ size ∧ size ≤ 256) ∨ (¬ size < 1 ∧ 256 < size)) (w : World) :
    Calls Try.prog 6 #[.int .i64 n, .int .i64 size] w fun e w' => e = .returned (.bool true) ∧ Below w.heap.size w w' := by
  have r1 := Lib.hid (refuse_new (size := 0) (next := 0) (B := 0) (n := n) (by omega) (by omega) (by omega))
  have t1 := Lib.hid (show ((0 : Int) == 0) = true from rfl)
  have x1 := Lib.hid (show Px.nextOf 0 n = n + 1 by unfold Px.nextOf; rw [if_pos (by omega)])
  obtain ⟨U, hU⟩ : ∃ U, Px.bitsOf 0 0 n = U := ⟨_, rfl⟩
  have x2 := Lib.hid hU
  have r2 := Lib.hid (refuse_stale (size := 0) (next := n + 1) (B := U) (n := n) (by omega) (by omega))
  have m1 := Lib.hid (show ((Px.miss U (min 0 (n + 1) : Int).toNat : Nat) : Int) = 0 by rw [show (min 0 (n + 1) : Int).toNat = 0 by omega]; rfl)
  clear hU
  rcases hs with hs | ⟨hs, hs'⟩ | ⟨hs', hs⟩
  all_goals
    go_enter Try.func6, Try.ntmps6
    go_wp2_with (fail)
    have Z : Win (w.alloc (.cells #[.int .i64 0, .int .i64 0, .int .u64 0, .int .u64 0, .int .u64 0, .int .u64 0] 43 (0, 0))) w.heap.size 0 0 0 := ⟨by simpa [Px.wd] using Hp.blk_new w (.cells #[.int .i64 0, .int .i64 0, .int .u64 0, .int .u64 0, .int .u64 0, .int .u64 0] 43 (0, 0))⟩
    have HZ := Lib.hid Z
    clear Z
    go_wp2_with (first | (with_reducible (refine (reset_nil _).mono ?_; rintro e w' ⟨rfl, rfl⟩)) | (with_reducible (refine (accept_nil _ _).mono ?_; rintro e w' ⟨rfl, rfl⟩)) | (with_reducible (refine (can_nil _ _).mono ?_; rintro e w' ⟨rfl, rfl⟩)) | (with_reducible (refine (top_nil _).mono ?_; rintro e w' ⟨rfl, rfl⟩)) | (with_reducible (refine (missing_nil _).mono ?_; rintro e w' ⟨rfl, rfl⟩)) | (with_reducible (refine (can_at r1 t1 _ HZ.out (by omega) (by omega) (by omega) (by omega)).mono ?_; rintro e w' ⟨rfl, rfl⟩)) | (with_reducible (refine (accept_at n r1 x1 x2 _ HZ.out (by omega) (by omega) (by omega) (by omega)).mono ?_; rintro e w2 ⟨rfl, W2, B2⟩; have HW2 := Lib.hid W2; have HB2 := Lib.hid B2; clear W2 B2)) | (with_reducible (refine (accept_no n _ HW2.out (by omega) (by omega) (by omega) (by omega) 17 r2 rfl).mono ?_; rintro e w' ⟨rfl, rfl⟩)) | (with_reducible (refine (missing_at m1 _ HW2.out (by omega) (by omega) (by omega)).mono ?_; rintro e w' ⟨rfl, nq, rfl⟩)) | (with_reducible (refine (new_no size (by omega) _).mono ?_; rintro e w' ⟨rfl, rfl⟩)) | (with_reducible (refine (new_yes size (by omega) (by omega) _).mono ?_; rintro e w7 ⟨rfl, W7, B7⟩)) | (with_reducible (refine (awake45_any _).mono ?_; rintro e w8 ⟨rfl, B8⟩)))
    go_ret
    refine ⟨Hp.ret_bool (by first | rfl | (simp; omega)), ?_⟩
    have BB : Below w.heap.size w w2 := HB2.out.toBelow (Nat.le_refl _) ((Below.refl _ _).alloc (by simp) _) (by simp)
    first | exact Hp.step (Hp.drewN BB _) B8 | exact Hp.step (Hp.step (Hp.drewN BB _) B7) B8
theorem law_ReplayNobody (n size : Int) (w : World) :
    Calls Try.prog 6 #[.int .i64 n, .int .i64 size] w fun e w' => e = .returned (.bool true) ∧ Below w.heap.size w w' := by
  by_cases h : n < 0 ∨ 4611686018427387904 < n
  · exact nobody_bad n size (by omega) (by omega) w
  · exact nobody_good n size (by omega) (by omega) (by omega) w
end Go.Proofs.Ythmkckdjddgmhaa.PxW
