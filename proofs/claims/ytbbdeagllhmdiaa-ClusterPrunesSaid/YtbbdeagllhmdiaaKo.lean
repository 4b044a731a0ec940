/- cluster.Order, System, Spread. -/
import Derived.Test.YtbbdeagllhmdiaaKs
import Derived.Test.YtbbdeagllhmdiaaFs
import Derived.LoopTactic
import Derived.BigQuiet
import Derived.Deep.QuietTactic
set_option linter.unusedVariables false
set_option linter.unusedSimpArgs false
namespace Go.Proofs.Ytbbdeagllhmdiaa.CxW
open Go.RowKit FxW
open Go.Proofs.Ytbbdeagllhmdiaa.Kx
theorem chk_bd {l : List Cd} {r : Int} (h : Hid (Cx.chk l.length (zof l) = r)) (hr : (r != 0) = true) : ¬ Val l := fun V => by
  have := (val_iff l).2 V
  rw [h.out] at this; simp [this] at hr
set_option maxHeartbeats 4000000 in
theorem order_bad (l : List Cd) (a : Option Addr) (c : Nat) {r : Int} (h : Hid (Cx.chk l.length (zof l) = r)) (hr : (r != 0) = true) (w : World) (S : Cs w a l.length (zof l)) :
    Calls Try.prog 14 #[.slice a l.length c] w fun e w' => e = .returned (.slice none 0 0) ∧ Below w.heap.size w w' := by
  have hS := Lib.hid S
  clear S
  go_enter Try.func14, Try.ntmps14
  go_wp2_with (fail)
  refine (check_at h hS.out).mono ?_
  rintro en w1 ⟨rfl, B1⟩
  have HB := Lib.hid B1
  clear B1
  go_wp2_with (fail)
  go_ret
  exact ⟨rfl, HB.out⟩
set_option maxHeartbeats 2000000 in
theorem ins_zero (a : Option Addr) (c : Nat) (f : Value) (w : World) : Calls Try.prog 43 #[.slice a 0 c, .int .i64 0, .int .i64 0, f] w fun e w' => e = .returned (.tuple #[]) ∧ w = w' := by
  go_enter Try.func43, Try.ntmps43
  go_wp2_with (fail)
  refine wp_loop_rounds 1 ?_
  rw [rounds_succ]
  go_wp2_with (fail)
  (try simp only [Exit.inBlock, Exit.then]); refine bodyPost_end (results_none rfl _ _ _) rfl ⟨rfl, rfl⟩
set_option maxHeartbeats 2000000 in
theorem pdq_zero (a : Option Addr) (c : Nat) (l : Int) (f : Value) (w : World) : Calls Try.prog 36 #[.slice a 0 c, .int .i64 0, .int .i64 0, .int .i64 l, f] w fun e w' => e = .returned (.tuple #[]) ∧ w = w' := by
  go_enter Try.func36, Try.ntmps36
  go_wp2_with (fail)
  refine wp_loop_rounds 1 ?_
  rw [rounds_succ]
  go_wp2_with (go_at_call 43; refine (ins_zero a c f _).mono ?_; rintro e w' ⟨rfl, rfl⟩)
  (try simp only [Exit.inBlock, Exit.then]); refine bodyPost_ret (results_none rfl _ _ _) rfl ⟨rfl, rfl⟩
set_option maxHeartbeats 2000000 in
theorem sort_zero (a : Option Addr) (c : Nat) (w : World) : Calls Try.prog 23 #[.slice a 0 c, .func (.func 24) #[] #[]] w fun e w' => e = .returned (.tuple #[]) ∧ w = w' := by
  go_enter Try.func23, Try.ntmps23
  go_wp2_with (first | (go_at_call 37; refine (hlen 0 _ (by omega)).mono ?_; rintro e w' ⟨⟨l, rfl⟩, rfl⟩) | (go_at_call 36; refine (pdq_zero a c _ _ _).mono ?_; rintro e w' ⟨rfl, rfl⟩))
  go_end0
  exact ⟨rfl, rfl⟩
set_option maxHeartbeats 4000000 in
theorem order_ok (l : List Cd) (a : Option Addr) (c : Nat) (V : Val l) (w : World) (S : Cs w a l.length (zof l)) (h0 : a = none → l.length = 0 ∧ c = 0) :
    Calls Try.prog 14 #[.slice a l.length c] w fun e w' => ∃ v, e = .returned v ∧ Ol w' w.heap.size v (ord l) ∧ Below w.heap.size w w' := by
  have hS := Lib.hid S; have HV := Lib.hid V; have H0 := Lib.hid h0
  have HC : Hid (Cx.chk l.length (zof l) = 0) := Lib.hid ((val_iff l).2 V)
  clear S h0
  go_enter Try.func14, Try.ntmps14
  go_wp2_with (fail)
  refine (check_at HC hS.out).mono ?_
  rintro en w1 ⟨rfl, B1⟩
  have HB := Lib.hid B1; have S1 := Lib.hid (hS.out.later B1)
  clear B1
  go_wp2_with (fail)
  refine (clone_list a l c _ S1.out H0.out HV.out.len).mono ?_
  rintro en w2 ⟨v, rfl, o, B2⟩
  have HO := Lib.hid o; have HB2 := Lib.hid (bl_next HB.out B2)
  have b12 := HB.out.size
  clear B2 o V
  rcases HO.out with ⟨hl, a', c', rfl⟩ | ⟨hl, g, c', rfl, hg, oz, hc⟩
  · subst hl
    go_wp2_with (fail)
    refine (sort_zero a' c' _).mono ?_
    rintro en w3 ⟨rfl, rfl⟩
    go_wp2_with (fail)
    go_ret
    exact ⟨_, rfl, .inl ⟨rfl, _, _, rfl⟩, HB2.out⟩
  · have OZ := Lib.hid oz
    clear oz
    go_wp2_with (fail)
    refine (sort_any HV.out g c' _ OZ.out).mono ?_
    rintro en w3 ⟨rfl, o3, B3⟩
    have O3 := Lib.hid o3; have HB3 := Lib.hid (HB2.out.trans (B3.mono (by omega)))
    clear B3 o3
    go_wp2_with (fail)
    go_ret
    exact ⟨_, rfl, .inr ⟨by rw [ord_len]; exact hl, g, c', by rw [ord_len] <;> rfl, by omega, by rw [ord_len]; exact O3.out, by rw [ord_len]; exact hc⟩, HB3.out⟩
end Go.Proofs.Ytbbdeagllhmdiaa.CxW
