/- Contracts of the reference of layer 45: Can, Missing. -/
import Derived.Test.YthmkckdjddgmhaaPzb
import Derived.Test.YthmkckdjddgmhaaQb
set_option linter.unusedVariables false
set_option linter.unusedSimpArgs false
namespace Go.Proofs.Ythmkckdjddgmhaa.PxW
open Go.RowKit Go.Proofs.Ythmkckdjddgmhaa.Rw

theorem rhas_at {b base : Nat} {size next : Int} {v : Value} {l : List Int} {z : Int} {c : Bool} (hc : Hid (decide (z ∈ l) = c)) (w : World) (W : RWin w b size next v) (own : Row w base v l) (small : l.length ≤ 1000000) :
    Calls Try.prog 26 #[.pointer (some ⟨b, 0, none⟩), .int .i64 z] w fun e w' => e = .returned (.bool c) ∧ w = w' := by
  have := rhas_any z w W own small; rw [hc.out] at this; exact this
/-- Can of the reference -/
def rcan (size next n : Int) (l : List Int) : Bool := decide (0 ≤ n) && decide (n ≤ 4611686018427387904) && decide (next - 1 - size < n) && !decide (n ∈ l)
set_option maxHeartbeats 4000000 in
theorem rcan_any {b base : Nat} {size next : Int} {v : Value} {l : List Int} (n : Int) (w : World) (W : RWin w b size next v) (own : Row w base v l) (n0 : 0 ≤ next) (nm : next ≤ 4611686018427387905) (s0 : 0 ≤ size) (s1 : size ≤ 256) (small : l.length ≤ 1000000) :
    Calls Try.prog 17 #[.pointer (some ⟨b, 0, none⟩), .int .i64 n] w fun e w' => e = .returned (.bool (rcan size next n l)) ∧ ∃ m, w' = w.drewN m := by
  have c0 := W.c0
  have HW := Lib.hid W; have HO := Lib.hid own
  clear W own
  have s2 : IntKind.i64.wrap (next - 1 - size) = next - 1 - size := IntWalk.i64_in _ (by omega)
  by_cases q1 : 0 ≤ n
  · by_cases q2 : n ≤ 4611686018427387904
    · by_cases q3 : next - 1 - size < n
      · cases q4 : decide (n ∈ l)
        · have R := Lib.hid (show rcan size next n l = true by unfold rcan; simp only [q1, q2, q3, q4]; rfl)
          have HM := Lib.hid q4
          clear q4
          have d1 : decide (0 ≤ n) = true := decide_eq_true q1
          have d2 : decide (n ≤ 4611686018427387904) = true := decide_eq_true q2
          have d3 : decide (next - 1 - size < n) = true := decide_eq_true q3
          go_enter Try.func17, Try.ntmps17
          go_wp2_with (fail)
          go_quiet (first | (go_at_call 20; exact Qb.same (rtop_any _ HW.out.drewN n0)) | (go_at_call 26; exact Qb.same (rhas_at HM _ HW.out.drewN HO.out.drewN small)))
          go_wp2
          go_ret
          exact ⟨Hp.ret_bool R.out.symm, _, rfl⟩
        · have R := Lib.hid (show rcan size next n l = false by unfold rcan; simp only [q4]; simp)
          have HM := Lib.hid q4
          clear q4
          have d1 : decide (0 ≤ n) = true := decide_eq_true q1
          have d2 : decide (n ≤ 4611686018427387904) = true := decide_eq_true q2
          have d3 : decide (next - 1 - size < n) = true := decide_eq_true q3
          go_enter Try.func17, Try.ntmps17
          go_wp2_with (fail)
          go_quiet (first | (go_at_call 20; exact Qb.same (rtop_any _ HW.out.drewN n0)) | (go_at_call 26; exact Qb.same (rhas_at HM _ HW.out.drewN HO.out.drewN small)))
          go_wp2
          go_ret
          exact ⟨Hp.ret_bool R.out.symm, _, rfl⟩
      · have R := Lib.hid (show rcan size next n l = false by unfold rcan; simp only [q3]; simp)
        have d1 : decide (0 ≤ n) = true := decide_eq_true q1
        have d2 : decide (n ≤ 4611686018427387904) = true := decide_eq_true q2
        have d3 : decide (next - 1 - size < n) = false := decide_eq_false q3
        go_enter Try.func17, Try.ntmps17
        go_wp2_with (fail)
        go_quiet (first | (go_at_call 20; exact Qb.same (rtop_any _ HW.out.drewN n0)))
        go_wp2
        go_ret
        exact ⟨Hp.ret_bool R.out.symm, _, rfl⟩
    · have R := Lib.hid (show rcan size next n l = false by unfold rcan; simp only [q2]; simp)
      have d1 : decide (0 ≤ n) = true := decide_eq_true q1
      have d2 : decide (n ≤ 4611686018427387904) = false := decide_eq_false q2
      go_enter Try.func17, Try.ntmps17
      go_wp2_with (fail)
      go_quiet (fail)
      go_wp2
      go_ret
      exact ⟨Hp.ret_bool R.out.symm, _, rfl⟩
  · have R := Lib.hid (show rcan size next n l = false by unfold rcan; simp only [q1]; simp)
    have d1 : decide (0 ≤ n) = false := decide_eq_false q1
    go_enter Try.func17, Try.ntmps17
    go_wp2_with (fail)
    go_quiet (fail)
    go_wp2
    go_ret
    exact ⟨Hp.ret_bool R.out.symm, _, rfl⟩
/-- Missing of the reference -/
def rmiss (size next : Int) (l : List Int) : Int := if 0 < next then next - max 0 (next - size) - l.length else 0
set_option maxHeartbeats 4000000 in
theorem rmissing_any {b base : Nat} {size next : Int} {v : Value} {l : List Int} (w : World) (W : RWin w b size next v) (own : Row w base v l) (n0 : 0 ≤ next) (nm : next ≤ 4611686018427387905) (s0 : 0 ≤ size) (s1 : size ≤ 256) (small : l.length ≤ 1000000) :
    Calls Try.prog 21 #[.pointer (some ⟨b, 0, none⟩)] w fun e w' => e = .returned (.int .i64 (rmiss size next l)) ∧ ∃ m, w' = w.drewN m := by
  have c0 := W.c0
  have c1 := W.c1
  have c2 := W.c2
  have c3 := W.c3
  by_cases h : 0 < next
  · rw [decide_eq_true h] at c1
    rw [topV, if_pos h] at c2
    obtain ⟨a, cap, hv⟩ : ∃ a cap, v = .slice a l.length cap := by
      rcases own.form with ⟨hv, hl⟩ | ⟨g, cap, cur, hv, _⟩
      · exact ⟨none, 0, by rw [hv, hl]; rfl⟩
      · exact ⟨_, cap, hv⟩
    subst hv
    have R := Lib.hid (show rmiss size next l = next - max 0 (next - size) - l.length by unfold rmiss; rw [if_pos h])
    clear own W
    by_cases q : next - 1 - size + 1 < 0
    · have e := Lib.hid (show next - max 0 (next - size) - (l.length : Int) = next - 1 - 0 + 1 - l.length by omega)
      go_enter Try.func21, Try.ntmps21
      go_wp2
      go_quiet (fail)
      go_wp2
      go_quiet (fail)
      go_wp2
      go_ret
      exact ⟨Hp.ret_int (by rw [R.out, e.out]; omega), _, by rw [World.drewN_drewN]⟩
    · have e := Lib.hid (show next - max 0 (next - size) - (l.length : Int) = size - l.length by omega)
      go_enter Try.func21, Try.ntmps21
      go_wp2
      go_quiet (fail)
      go_wp2
      go_quiet (fail)
      go_wp2
      go_ret
      exact ⟨Hp.ret_int (by rw [R.out, e.out]; omega), _, by rw [World.drewN_drewN]⟩
  · rw [decide_eq_false h] at c1
    have R := Lib.hid (show rmiss size next l = 0 by unfold rmiss; rw [if_neg h])
    clear own W
    go_enter Try.func21, Try.ntmps21
    go_wp2
    go_ret
    exact ⟨Hp.ret_int R.out.symm, 0, rfl⟩
end Go.Proofs.Ythmkckdjddgmhaa.PxW
