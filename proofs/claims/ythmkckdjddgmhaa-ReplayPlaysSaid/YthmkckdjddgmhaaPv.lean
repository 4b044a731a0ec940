/- Contracts of package replay: Top, refusal, Can, New, Reset. -/
import Derived.Test.YthmkckdjddgmhaaPw
set_option linter.unusedVariables false
set_option linter.unusedSimpArgs false
namespace Go.Proofs.Ythmkckdjddgmhaa.PxW
open Go.RowKit

set_option maxHeartbeats 1000000 in
theorem top_any {b : Nat} {size next : Int} {B : Nat} (w : World) (W : Win w b size next B) (n0 : 0 ≤ next) (n1 : next ≤ 4611686018427387905) :
    Calls Try.prog 12 #[.pointer (some ⟨b, 0, none⟩)] w fun e w' => e = .returned (.int .i64 (next - 1)) ∧ w = w' := by
  have c1 := W.c1
  go_enter Try.func12, Try.ntmps12
  go_wp2
  go_ret
  exact ⟨rfl, rfl⟩
set_option maxHeartbeats 1000000 in
theorem top_nil (w : World) :
    Calls Try.prog 12 #[.pointer none] w fun e w' => e = .returned (.int .i64 (-1)) ∧ w = w' := by
  go_enter Try.func12, Try.ntmps12
  go_wp2
  go_ret
  exact ⟨rfl, rfl⟩
set_option maxHeartbeats 2000000 in
theorem refusal_any {b : Nat} {size next : Int} {B : Nat} (n : Int) (w : World) (W : Win w b size next B) (s0 : 0 ≤ size) (s1 : size ≤ 256) (n0 : 0 ≤ next) (n1 : next ≤ 4611686018427387905) :
    Calls Try.prog 23 #[.pointer (some ⟨b, 0, none⟩), .int .i64 n] w fun e w' => e = .returned (.int .i64 (Px.refuse size next B n)) ∧ w = w' := by
  have c0 := W.c0
  have c1 := W.c1
  by_cases a1 : n < 0
  · have R := Lib.hid (show Px.refuse size next B n = 3 by unfold Px.refuse; rw [if_pos (.inl a1)])
    go_enter Try.func23, Try.ntmps23
    go_wp2
    go_ret
    exact ⟨Hp.ret_int R.out.symm, rfl⟩
  by_cases a2 : 4611686018427387904 < n
  · have R := Lib.hid (show Px.refuse size next B n = 3 by unfold Px.refuse; rw [if_pos (.inr a2)])
    go_enter Try.func23, Try.ntmps23
    go_wp2
    go_ret
    exact ⟨Hp.ret_int R.out.symm, rfl⟩
  have a12 : ¬ (n < 0 ∨ 4611686018427387904 < n) := by omega
  by_cases a3 : size ≤ next - 1 - n
  · have R := Lib.hid (show Px.refuse size next B n = 17 by unfold Px.refuse; rw [if_neg a12, if_pos a3])
    clear a12
    go_enter Try.func23, Try.ntmps23
    go_wp2_with (go_at_call 12; refine (top_any _ W n0 n1).mono ?_; rintro e w' ⟨rfl, rfl⟩)
    go_ret
    exact ⟨Hp.ret_int R.out.symm, rfl⟩
  by_cases a4 : 0 ≤ next - 1 - n
  · cases ht : B.testBit (next - 1 - n).toNat
    · have R := Lib.hid (show Px.refuse size next B n = 0 by unfold Px.refuse; rw [if_neg a12, if_neg a3, if_neg (by rw [ht]; simp)])
      have HT := Lib.hid ht
      clear a12 ht
      go_enter Try.func23, Try.ntmps23
      go_wp2_with (first | (go_at_call 12; refine (top_any _ W n0 n1).mono ?_; rintro e w' ⟨rfl, rfl⟩) | (go_at_call 25; refine (has_any _ (by omega) (by omega) _ W).mono ?_; rw [HT.out]; rintro e w' ⟨rfl, rfl⟩))
      go_ret
      exact ⟨Hp.ret_int R.out.symm, rfl⟩
    · have R := Lib.hid (show Px.refuse size next B n = 10 by unfold Px.refuse; rw [if_neg a12, if_neg a3, if_pos ⟨a4, ht⟩])
      have HT := Lib.hid ht
      clear a12 ht
      go_enter Try.func23, Try.ntmps23
      go_wp2_with (first | (go_at_call 12; refine (top_any _ W n0 n1).mono ?_; rintro e w' ⟨rfl, rfl⟩) | (go_at_call 25; refine (has_any _ (by omega) (by omega) _ W).mono ?_; rw [HT.out]; rintro e w' ⟨rfl, rfl⟩))
      go_ret
      exact ⟨Hp.ret_int R.out.symm, rfl⟩
  · have R := Lib.hid (show Px.refuse size next B n = 0 by unfold Px.refuse; rw [if_neg a12, if_neg a3, if_neg (by omega)])
    clear a12
    go_enter Try.func23, Try.ntmps23
    go_wp2_with (go_at_call 12; refine (top_any _ W n0 n1).mono ?_; rintro e w' ⟨rfl, rfl⟩)
    go_ret
    exact ⟨Hp.ret_int R.out.symm, rfl⟩
set_option maxHeartbeats 1000000 in
theorem refusal_nil (n : Int) (w : World) :
    Calls Try.prog 23 #[.pointer none, .int .i64 n] w fun e w' => e = .returned (.int .i64 1) ∧ w = w' := by
  go_enter Try.func23, Try.ntmps23
  go_wp2
  go_ret
  exact ⟨rfl, rfl⟩
set_option maxHeartbeats 1000000 in
theorem can_nil (n : Int) (w : World) :
    Calls Try.prog 16 #[.pointer none, .int .i64 n] w fun e w' => e = .returned (.bool false) ∧ w = w' := by
  go_enter Try.func16, Try.ntmps16
  go_wp2_with (go_at_call 23; refine (refusal_nil _ _).mono ?_; rintro e w' ⟨rfl, rfl⟩)
  go_ret
  exact ⟨rfl, rfl⟩
set_option maxHeartbeats 1000000 in
theorem can_any {b : Nat} {size next : Int} {B : Nat} (n : Int) (w : World) (W : Win w b size next B) (s0 : 0 ≤ size) (s1 : size ≤ 256) (n0 : 0 ≤ next) (n1 : next ≤ 4611686018427387905) :
    Calls Try.prog 16 #[.pointer (some ⟨b, 0, none⟩), .int .i64 n] w fun e w' => e = .returned (.bool (Px.refuse size next B n == 0)) ∧ w = w' := by
  go_enter Try.func16, Try.ntmps16
  go_wp2_with (go_at_call 23; refine (refusal_any _ _ W s0 s1 n0 n1).mono ?_; rintro e w' ⟨rfl, rfl⟩)
  go_ret
  exact ⟨rfl, rfl⟩
set_option maxHeartbeats 1000000 in
theorem new_no (size : Int) (h : size < 1 ∨ 256 < size) (w : World) :
    Calls Try.prog 9 #[.int .i64 size] w fun e w' => e = .returned (.pointer none) ∧ w = w' := by
  rcases h with h | h
  · go_enter Try.func9, Try.ntmps9
    go_wp2
    go_ret
    exact ⟨rfl, rfl⟩
  · have h' : ¬ size < 1 := by omega
    go_enter Try.func9, Try.ntmps9
    go_wp2
    go_ret
    exact ⟨rfl, rfl⟩
set_option maxHeartbeats 1000000 in
theorem new_yes (size : Int) (h1 : 1 ≤ size) (h2 : size ≤ 256) (w : World) :
    Calls Try.prog 9 #[.int .i64 size] w fun e w' => e = .returned (.pointer (some ⟨w.heap.size, 0, none⟩)) ∧ Win w' w.heap.size size 0 0 ∧ Below w.heap.size w w' := by
  go_enter Try.func9, Try.ntmps9
  go_wp2
  go_ret
  refine ⟨rfl, ⟨?_⟩, ?_⟩
  · have h := Hp.blk_new w (.cells #[.int .i64 size, .int .i64 0, .int .u64 0, .int .u64 0, .int .u64 0, .int .u64 0] 43 (0, 0))
    simpa [Px.wd] using h
  · (repeat (first | exact Below.refl _ _ | refine Below.drew ?_ | refine Hp.drewN ?_ _ | refine Below.setCell ?_ (by first | (simp; done) | (simp; omega) | omega) _ | refine Below.alloc ?_ (by first | (simp; done) | (simp; omega) | omega) _ | (refine Hp.step ?_ (by assumption))))
set_option maxHeartbeats 1000000 in
theorem reset_nil (w : World) :
    Calls Try.prog 18 #[.pointer none] w fun e w' => e = .returned (.tuple #[]) ∧ w = w' := by
  go_enter Try.func18, Try.ntmps18
  go_wp2
  refine bodyPost_ret (results_none rfl _ _ _) rfl ?_
  exact ⟨rfl, rfl⟩
set_option maxHeartbeats 1000000 in
theorem reset_any {b : Nat} {size next : Int} {B : Nat} (w : World) (W : Win w b size next B) :
    Calls Try.prog 18 #[.pointer (some ⟨b, 0, none⟩)] w fun e w' => e = .returned (.tuple #[]) ∧ Win w' b size 0 0 ∧ But b w w' := by
  have c0 := W.c0; have c1 := W.c1; have c2 := W.c2; have c3 := W.c3; have c4 := W.c4; have c5 := W.c5
  have f1 := W.free 1; have f2 := W.free 2; have f3 := W.free 3; have f4 := W.free 4; have f5 := W.free 5
  go_enter Try.func18, Try.ntmps18
  go_wp2
  go_end0
  refine ⟨rfl, ⟨?_⟩, ?_⟩
  · have h := Hp.blk_set (o := 5) (v := .int .u64 0) (Hp.blk_set (o := 4) (v := .int .u64 0) (Hp.blk_set (o := 3) (v := .int .u64 0) (Hp.blk_set (o := 2) (v := .int .u64 0) (Hp.blk_set (o := 1) (v := .int .i64 0) W.blk))))
    simpa [Px.wd] using h
  · repeat (first | exact But.refl _ _ | refine But.setCell ?_ _ _ | refine But.drew ?_)
end Go.Proofs.Ythmkckdjddgmhaa.PxW
