/- Contracts of the reference of layer 45: nil windows; the same state on both sides. -/
import Derived.Test.YthmkckdjddgmhaaPzd
import Derived.Test.YthmkckdjddgmhaaPp
set_option linter.unusedVariables false
set_option linter.unusedSimpArgs false
namespace Go.Proofs.Ythmkckdjddgmhaa.PxW
open Go.RowKit Go.Proofs.Ythmkckdjddgmhaa.Rw

set_option maxHeartbeats 1000000 in
theorem raccept_nil (n : Int) (w : World) :
    Calls Try.prog 15 #[.pointer none, .int .i64 n] w fun e' w' => e' = .returned (.int .i64 1) ∧ w = w' := by
  go_enter Try.func15, Try.ntmps15
  go_wp2
  go_ret
  exact ⟨rfl, rfl⟩
set_option maxHeartbeats 1000000 in
theorem rtop_nil (w : World) :
    Calls Try.prog 20 #[.pointer none] w fun e' w' => e' = .returned (.int .i64 (-1)) ∧ w = w' := by
  go_enter Try.func20, Try.ntmps20
  go_wp2
  go_ret
  exact ⟨rfl, rfl⟩
set_option maxHeartbeats 1000000 in
theorem rmissing_nil (w : World) :
    Calls Try.prog 21 #[.pointer none] w fun e' w' => e' = .returned (.int .i64 0) ∧ w = w' := by
  go_enter Try.func21, Try.ntmps21
  go_wp2
  go_ret
  exact ⟨rfl, rfl⟩
set_option maxHeartbeats 1000000 in
theorem rreset_nil (w : World) :
    Calls Try.prog 19 #[.pointer none] w fun e' w' => e' = .returned (.tuple #[]) ∧ w = w' := by
  go_enter Try.func19, Try.ntmps19
  go_wp2
  go_end0
  exact ⟨rfl, rfl⟩
set_option maxHeartbeats 1000000 in
theorem rcan_nil (n : Int) (w : World) :
    Calls Try.prog 17 #[.pointer none, .int .i64 n] w fun e' w' => e' = .returned (.bool false) ∧ ∃ m, w' = w.drewN m := by
  go_enter Try.func17, Try.ntmps17
  go_wp2
  go_quiet (fail)
  go_wp2
  go_ret
  exact ⟨rfl, _, rfl⟩
/-- both windows, in the same state -/
structure Both (w : World) (base wb rb : Nat) (size next : Int) (B : Nat) (v : Value) (s l : List Int) : Prop where
  W : Win w wb size next B
  R : RWin w rb size next v
  own : Row w base v l
  S : Px.Seen next B s
  I : Px.RI size next s l
  n0 : 0 ≤ next
  n1 : next ≤ 4611686018427387905
theorem Both.drewN {w : World} {base wb rb n : Nat} {size next : Int} {B : Nat} {v : Value} {s l : List Int} (h : Both w base wb rb size next B v s l) : Both (w.drewN n) base wb rb size next B v s l :=
  ⟨h.W.drewN, h.R.drewN, h.own.drewN, h.S, h.I, h.n0, h.n1⟩
theorem Both.later {w w' : World} {base wb rb : Nat} {size next : Int} {B : Nat} {v : Value} {s l : List Int} (h : Both w base wb rb size next B v s l) (k : Below w.heap.size w w') : Both w' base wb rb size next B v s l :=
  ⟨h.W.later k, h.R.later k, h.own.later k, h.S, h.I, h.n0, h.n1⟩
theorem rcan_eq {size next : Int} {B : Nat} {s l : List Int} (S : Px.Seen next B s) (I : Px.RI size next s l) (s1 : size ≤ 256) (n : Int) : rcan size next n l = (Px.refuse size next B n == 0) := by
  unfold rcan
  by_cases q1 : n < 0 ∨ 4611686018427387904 < n
  · have e : Px.refuse size next B n = 3 := by unfold Px.refuse; rw [if_pos q1]
    rw [e]
    rcases q1 with q | q
    · rw [decide_eq_false (by omega : ¬ 0 ≤ n)]; rfl
    · rw [decide_eq_false (by omega : ¬ n ≤ 4611686018427387904)]; simp
  · rw [decide_eq_true (by omega : 0 ≤ n), decide_eq_true (by omega : n ≤ 4611686018427387904)]
    by_cases q3 : n ≤ next - 1 - size
    · rw [S.stale s1 (by omega) (by omega) q3, decide_eq_false (by omega : ¬ next - 1 - size < n)]; rfl
    · rw [decide_eq_true (by omega : next - 1 - size < n)]
      by_cases q4 : n ∈ s
      · rw [S.twice s1 (by omega) (by omega) q3 q4, decide_eq_true ((I.mem n).2 ⟨q4, by omega⟩)]; rfl
      · rw [S.fresh s1 (by omega) (by omega) q3 q4, decide_eq_false (fun h => q4 ((I.mem n).1 h).1)]; rfl
theorem rmiss_eq {size next : Int} {B : Nat} {s l : List Int} (S : Px.Seen next B s) (I : Px.RI size next s l) (s0 : 0 ≤ size) (s1 : size ≤ 256) (n0 : 0 ≤ next) : rmiss size next l = (Px.miss B (min size next).toNat : Int) := by
  have := I.card S s0 s1 n0
  unfold rmiss
  split
  · omega
  · rw [show (min size next).toNat = 0 by omega]; rfl
theorem raccept_any {base rb : Nat} {size next : Int} {B : Nat} {v : Value} {s l : List Int} (n : Int) (w : World) (R : RWin w rb size next v) (own : Row w base v l) (S : Px.Seen next B s) (I : Px.RI size next s l) (n0 : 0 ≤ next) (n1 : next ≤ 4611686018427387905) (s0 : 1 ≤ size) (s1 : size ≤ 256) (small : l.length ≤ 900000) (hb : base ≤ w.heap.size) :
    Calls Try.prog 15 #[.pointer (some ⟨rb, 0, none⟩), .int .i64 n] w fun e' w' => e' = .returned (.int .i64 (Px.refuse size next B n)) ∧
      ∃ v' s' l', RWin w' rb size (accN size next B n) v' ∧ Row w' base v' l' ∧ Px.Seen (accN size next B n) (accB size next B n) s' ∧ Px.RI size (accN size next B n) s' l' ∧ l'.length ≤ l.length + 1 ∧ RKeep rb v w w' := by
  by_cases h : Px.refuse size next B n = 0
  · have hr : ¬ (n < 0 ∨ 4611686018427387904 < n) := by intro h'; unfold Px.refuse at h; rw [if_pos h'] at h; omega
    have hs : ¬ n ≤ next - 1 - size := fun h' => by rw [S.stale s1 (by omega) (by omega) h'] at h; omega
    have hin : n ∉ s := fun h' => by rw [S.twice s1 (by omega) (by omega) hs h'] at h; omega
    have hl : n ∉ l := fun h' => hin ((I.mem n).1 h').1
    refine (raccept_yes n w R own n0 n1 (by omega) s1 small hb (by omega) (by omega) hs hl).mono ?_
    rintro e w' ⟨rfl, v', R', own', K⟩
    refine ⟨by rw [h], v', s ++ [n], Px.accL size next n l, ?_, own', ?_, ?_, Px.accL_le _ _ _ _, K⟩
    · unfold accN; rw [if_pos h]; exact R'
    · unfold accN accB; rw [if_pos h, if_pos h]
      by_cases hu : next ≤ n
      · rw [Px.nextOf_up hu]; exact S.up n0 hu
      · rw [Px.nextOf_low hu]; exact S.low (by omega) hu (by omega)
    · unfold accN; rw [if_pos h]
      by_cases hu : next ≤ n
      · rw [Px.nextOf_up hu, Px.accL_up hu]; exact I.up s0 hu (fun x hx => (S.bd x hx).2)
      · rw [Px.nextOf_low hu, Px.accL_low hu]; exact I.low (by omega) hl
  · have key : RRefuse size next n l (Px.refuse size next B n) := by
      refine ⟨?_⟩
      by_cases q1 : n < 0
      · exact .inl ⟨by unfold Px.refuse; rw [if_pos (.inl q1)], q1⟩
      · by_cases q2 : 4611686018427387904 < n
        · exact .inr (.inl ⟨by unfold Px.refuse; rw [if_pos (.inr q2)], q1, q2⟩)
        · by_cases q3 : n ≤ next - 1 - size
          · exact .inr (.inr (.inl ⟨S.stale s1 (by omega) (by omega) q3, q1, q2, q3⟩))
          · by_cases q4 : n ∈ s
            · exact .inr (.inr (.inr ⟨S.twice s1 (by omega) (by omega) q3 q4, q1, q2, q3, (I.mem n).2 ⟨q4, by omega⟩⟩))
            · exact absurd (S.fresh s1 (by omega) (by omega) q3 q4) h
    refine (raccept_no n _ w R own n0 n1 (by omega) s1 (by omega) key).mono ?_
    rintro e w' ⟨rfl, m, rfl⟩
    refine ⟨rfl, v, s, l, ?_, own.drewN, ?_, ?_, by omega, RKeep.refl _ _ _ _⟩
    · unfold accN; rw [if_neg h]; exact R.drewN
    · unfold accN accB; rw [if_neg h, if_neg h]; exact S
    · unfold accN; rw [if_neg h]; exact I
end Go.Proofs.Ythmkckdjddgmhaa.PxW
