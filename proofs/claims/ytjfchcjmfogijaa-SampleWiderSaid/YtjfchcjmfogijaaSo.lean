/- The contract of sample.Of. -/
import Derived.Test.YtjfchcjmfogijaaSv
import Derived.LoopTactic
set_option linter.unusedVariables false
set_option linter.unusedSimpArgs false
namespace Go.Proofs.Ytjfchcjmfogijaa.FxW
open Go.RowKit

def OfPost (r : Sx.R5) (w : World) (e : Ending) (w' : World) : Prop := e = .returned (.tuple #[.agg #[.int .i64 r.o, .int .i64 r.d, .int .i64 r.p, .int .i64 r.t], .int .i64 r.e]) ∧ Below w.heap.size w w'
set_option maxHeartbeats 4000000 in
set_option maxRecDepth 100000 in
theorem sof_time (j : Nat) (hj : j < 4) (T : Nat → Int) (h1 : ∀ k, k < j → Sx.timeB (T k) = true) (h2 : Sx.timeB (T j) = false) (prec tol : Int) (w : World) :
    Calls Try.prog 10 #[.agg #[.int .i64 (T 0), .int .i64 (T 1), .int .i64 (T 2), .int .i64 (T 3)], .int .i64 prec, .int .i64 tol] w (OfPost ⟨0, 0, 0, 0, 3⟩ w) := by
  have H1 := Lib.hid h1
  have H2 := Lib.hid h2
  have i0 : ∀ w, (Instr.index 47 (.agg #[.int .i64 (T 0), .int .i64 (T 1), .int .i64 (T 2), .int .i64 (T 3)]) (.int .i64 0)).run Try.prog w = .ok (.int .i64 (T 0)) w := fun _ => by kernel_rfl
  have i1 : ∀ w, (Instr.index 47 (.agg #[.int .i64 (T 0), .int .i64 (T 1), .int .i64 (T 2), .int .i64 (T 3)]) (.int .i64 1)).run Try.prog w = .ok (.int .i64 (T 1)) w := fun _ => by kernel_rfl
  have i2 : ∀ w, (Instr.index 47 (.agg #[.int .i64 (T 0), .int .i64 (T 1), .int .i64 (T 2), .int .i64 (T 3)]) (.int .i64 2)).run Try.prog w = .ok (.int .i64 (T 2)) w := fun _ => by kernel_rfl
  have i3 : ∀ w, (Instr.index 47 (.agg #[.int .i64 (T 0), .int .i64 (T 1), .int .i64 (T 2), .int .i64 (T 3)]) (.int .i64 3)).run Try.prog w = .ok (.int .i64 (T 3)) w := fun _ => by kernel_rfl
  clear h1 h2
  go_enter Try.func10, Try.ntmps10
  go_wp2_with (fail)
  go_loop [24] (fun i => ∃ k : Nat, k ≤ j ∧ i = .int .i64 k) (fun i => 4 - (intOf i).toNat)
  case atStart => exact ⟨0, Nat.zero_le _, rfl⟩
  case round =>
    obtain ⟨k, hk, rfl⟩ := hrel
    by_cases e : k = j
    · have X : Sx.timeB (T k) = false := by rw [e]; exact H2.out
      have : k = 0 ∨ k = 1 ∨ k = 2 ∨ k = 3 := by omega
      clear e
      rcases this with rfl | rfl | rfl | rfl
      all_goals
        go_wp2_with (go_at_call 22; refine (istime_any _ _).mono ?_; rintro e w' ⟨rfl, rfl⟩)
        refine bodyPost_ret (v := .tuple #[.agg #[.int .i64 0, .int .i64 0, .int .i64 0, .int .i64 0], .int .i64 3]) (by simp [results, Try.results10, go_sem]) rfl ⟨rfl, ?_⟩
        (repeat (first | exact Below.refl _ _ | refine Below.drew ?_ | refine Hp.drewN ?_ _ | refine Below.setCell ?_ (by simp) _ | refine Below.alloc ?_ (by simp) _ | (refine Hp.step ?_ (by assumption))))
    · have X : Sx.timeB (T k) = true := H1.out k (by omega)
      have : k = 0 ∨ k = 1 ∨ k = 2 ∨ k = 3 := by omega
      have lt : k + 1 ≤ j := by omega
      clear e
      rcases this with rfl | rfl | rfl | rfl
      all_goals
        go_wp2_with (go_at_call 22; refine (istime_any _ _).mono ?_; rintro e w' ⟨rfl, rfl⟩)
        go_round
        case rel => exact ⟨_, lt, by first | rfl | go_num⟩
        case measure => simp [intOf]
set_option maxHeartbeats 4000000 in
set_option maxRecDepth 100000 in
theorem sof_num (T : Nat → Int) (t0 : Sx.timeB (T 0) = true) (t1 : Sx.timeB (T 1) = true) (t2 : Sx.timeB (T 2) = true) (t3 : Sx.timeB (T 3) = true) (prec tol : Int)
    (h : prec < 1 ∨ (¬ prec < 1 ∧ 1000000000 < prec) ∨ (¬ prec < 1 ∧ ¬ 1000000000 < prec ∧ Sx.tolB tol = false)) (w : World) :
    Calls Try.prog 10 #[.agg #[.int .i64 (T 0), .int .i64 (T 1), .int .i64 (T 2), .int .i64 (T 3)], .int .i64 prec, .int .i64 tol] w (OfPost ⟨0, 0, 0, 0, 3⟩ w) := by
  have i0 : ∀ w, (Instr.index 47 (.agg #[.int .i64 (T 0), .int .i64 (T 1), .int .i64 (T 2), .int .i64 (T 3)]) (.int .i64 0)).run Try.prog w = .ok (.int .i64 (T 0)) w := fun _ => by kernel_rfl
  have i1 : ∀ w, (Instr.index 47 (.agg #[.int .i64 (T 0), .int .i64 (T 1), .int .i64 (T 2), .int .i64 (T 3)]) (.int .i64 1)).run Try.prog w = .ok (.int .i64 (T 1)) w := fun _ => by kernel_rfl
  have i2 : ∀ w, (Instr.index 47 (.agg #[.int .i64 (T 0), .int .i64 (T 1), .int .i64 (T 2), .int .i64 (T 3)]) (.int .i64 2)).run Try.prog w = .ok (.int .i64 (T 2)) w := fun _ => by kernel_rfl
  have i3 : ∀ w, (Instr.index 47 (.agg #[.int .i64 (T 0), .int .i64 (T 1), .int .i64 (T 2), .int .i64 (T 3)]) (.int .i64 3)).run Try.prog w = .ok (.int .i64 (T 3)) w := fun _ => by kernel_rfl
  have H1 : Hid (∀ k, k < 4 → Sx.timeB (T k) = true) := fun k hk => by
    have : k = 0 ∨ k = 1 ∨ k = 2 ∨ k = 3 := by omega
    rcases this with rfl | rfl | rfl | rfl <;> assumption
  clear t0 t1 t2 t3
  go_enter Try.func10, Try.ntmps10
  go_wp2_with (fail)
  go_loop [24] (fun i => ∃ k : Nat, k ≤ 4 ∧ i = .int .i64 k) (fun i => 4 - (intOf i).toNat)
  case atStart => exact ⟨0, Nat.zero_le _, rfl⟩
  case round =>
    obtain ⟨k, hk, rfl⟩ := hrel
    by_cases e : k = 4
    · subst e
      rcases h with h | ⟨h, h'⟩ | ⟨h, h', h''⟩
      all_goals
        go_wp2_with (go_at_call 23; refine (istol_any _ _).mono ?_; rintro e w' ⟨rfl, rfl⟩)
        refine bodyPost_ret (v := .tuple #[.agg #[.int .i64 0, .int .i64 0, .int .i64 0, .int .i64 0], .int .i64 3]) (by simp [results, Try.results10, go_sem]) rfl ⟨rfl, ?_⟩
        (repeat (first | exact Below.refl _ _ | refine Below.drew ?_ | refine Hp.drewN ?_ _ | refine Below.setCell ?_ (by simp) _ | refine Below.alloc ?_ (by simp) _ | (refine Hp.step ?_ (by assumption))))
    · have X : Sx.timeB (T k) = true := H1.out k (by omega)
      have : k = 0 ∨ k = 1 ∨ k = 2 ∨ k = 3 := by omega
      have lt : k + 1 ≤ 4 := by omega
      clear e h
      rcases this with rfl | rfl | rfl | rfl
      all_goals
        go_wp2_with (go_at_call 22; refine (istime_any _ _).mono ?_; rintro e w' ⟨rfl, rfl⟩)
        go_round
        case rel => exact ⟨_, lt, by first | rfl | go_num⟩
        case measure => simp [intOf]
end Go.Proofs.Ytjfchcjmfogijaa.FxW
