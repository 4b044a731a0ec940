/- Contracts of layer 48: add, squares. -/
import Derived.Test.YtbidogefodfakaaYr
import Derived.Test.YtbidogefodfakaaFw
import Derived.Defers
import Derived.Recover
import Derived.Outline
import Derived.WalkLawsBesides
set_option linter.unusedVariables false
set_option linter.unusedSimpArgs false
namespace Go.Proofs.Ytbidogefodfakaa.YxW
open Go.RowKit Ls
theorem mul_ok {a b : Int} (h1 : -9223372036854775808 ≤ a * b) (h2 : a * b ≤ 9223372036854775807) (a1 : -9223372036854775808 ≤ a) (a2 : a ≤ 9223372036854775807) (b1 : -9223372036854775808 ≤ b) (b2 : b ≤ 9223372036854775807) (w : World) :
    Calls Try.prog 56 #[.int .i64 a, .int .i64 b] w fun e w' => e = .returned (.tuple #[.int .i64 (a * b), .bool true]) ∧ w = w' := by
  have := FxW.mul_any a b a1 a2 b1 b2 w
  rw [Fx.fitV_of (Fx.fitOk_true h1 h2), Fx.fitOk_true h1 h2] at this; exact this
theorem fitOk_out {v : Int} (h : v < -9223372036854775808 ∨ 9223372036854775807 < v) : Fx.fitOk v = false := by unfold Fx.fitOk; exact decide_eq_false (by omega)
theorem mul_no {a b : Int} (h : 9223372036854775807 < a * b) (a1 : -9223372036854775808 ≤ a) (a2 : a ≤ 9223372036854775807) (b1 : -9223372036854775808 ≤ b) (b2 : b ≤ 9223372036854775807) (w : World) :
    Calls Try.prog 56 #[.int .i64 a, .int .i64 b] w fun e w' => e = .returned (.tuple #[.int .i64 (Fx.fitV (a * b)), .bool false]) ∧ w = w' := by
  have := FxW.mul_any a b a1 a2 b1 b2 w
  rw [fitOk_out (.inr h)] at this; exact this
theorem add_ok' {a b : Int} (h1 : -9223372036854775808 ≤ a + b) (h2 : a + b ≤ 9223372036854775807) (a1 : -9223372036854775808 ≤ a) (a2 : a ≤ 9223372036854775807) (b1 : -9223372036854775808 ≤ b) (b2 : b ≤ 9223372036854775807) (w : World) :
    Calls Try.prog 57 #[.int .i64 a, .int .i64 b] w fun e w' => e = .returned (.tuple #[.int .i64 (a + b), .bool true]) ∧ w = w' := by
  have := FxW.add_any a b a1 a2 b1 b2 w
  rw [Fx.fitV_of (Fx.fitOk_true h1 h2), Fx.fitOk_true h1 h2] at this; exact this
theorem add_no' {a b : Int} (h : 9223372036854775807 < a + b) (a1 : -9223372036854775808 ≤ a) (a2 : a ≤ 9223372036854775807) (b1 : -9223372036854775808 ≤ b) (b2 : b ≤ 9223372036854775807) (w : World) :
    Calls Try.prog 57 #[.int .i64 a, .int .i64 b] w fun e w' => e = .returned (.tuple #[.int .i64 (Fx.fitV (a + b)), .bool false]) ∧ w = w' := by
  have := FxW.add_any a b a1 a2 b1 b2 w
  rw [fitOk_out (.inr h)] at this; exact this
set_option maxHeartbeats 1000000 in
theorem sadd_yes (s x : Int) (s0 : 0 ≤ s) (x1 : -9223372036854775808 ≤ x) (x2 : x ≤ 9223372036854775807) (h : s + x * x ≤ 9223372036854775807) (w : World) :
    Calls Try.prog 48 #[.int .i64 s, .int .i64 x] w fun e w' => e = .returned (.int .i64 (s + x * x)) ∧ w = w' := by
  have q := Yx.sq_nonneg x
  have M := fun w => mul_ok (a := x) (b := x) (by omega) (by omega) x1 x2 x1 x2 w
  obtain ⟨y, hy⟩ : ∃ y, x * x = y := ⟨_, rfl⟩
  rw [hy] at q h M ⊢
  have MM := Lib.hid M
  clear hy M
  go_enter Try.func48, Try.ntmps48
  go_wp2_with (first | (go_at_call 56; refine (MM.out _).mono ?_; rintro e w' ⟨rfl, rfl⟩) | (go_at_call 57; refine (add_ok' (by omega) (by omega) (by omega) (by omega) (by omega) (by omega) _).mono ?_; rintro e w' ⟨rfl, rfl⟩))
  go_ret
  exact ⟨rfl, rfl⟩
set_option maxHeartbeats 1000000 in
theorem sadd_no (s x : Int) (s0 : 0 ≤ s) (s1 : s ≤ 9223372036854775807) (x1 : -9223372036854775808 ≤ x) (x2 : x ≤ 9223372036854775807) (h : 9223372036854775807 < s + x * x) (w : World) :
    Calls Try.prog 48 #[.int .i64 s, .int .i64 x] w fun e w' => e = .panicked [{ v := .iface 25 (.int .i64 4), recovered := false }] ∧ w = w' := by
  have q := Yx.sq_nonneg x
  by_cases g : x * x ≤ 9223372036854775807
  · have M := fun w => mul_ok (a := x) (b := x) (by omega) (by omega) x1 x2 x1 x2 w
    obtain ⟨y, hy⟩ : ∃ y, x * x = y := ⟨_, rfl⟩
    rw [hy] at q h M g
    have MM := Lib.hid M
    clear hy M
    go_enter Try.func48, Try.ntmps48
    go_wp2_with (first | (go_at_call 56; refine (MM.out _).mono ?_; rintro e w' ⟨rfl, rfl⟩) | (go_at_call 57; refine (add_no' (by omega) (by omega) (by omega) (by omega) (by omega) _).mono ?_; rintro e w' ⟨rfl, rfl⟩))
    exact ⟨rfl, rfl, rfl⟩
  · have M := fun w => mul_no (a := x) (b := x) (by omega) x1 x2 x1 x2 w
    have MM := Lib.hid M
    clear M
    go_enter Try.func48, Try.ntmps48
    go_wp2_with (first | (go_at_call 56; refine (MM.out _).mono ?_; rintro e w' ⟨rfl, rfl⟩))
    exact ⟨rfl, rfl, rfl⟩
theorem catch_panicking (p q : Addr) (x y : Int) (u : TypeId) (pv : Value) (older : List PanicEntry) (w : World) (hc : w.cell? p = some (.int .i64 x)) (hz : w.frozen? p = false) (hc2 : (w.setCell p (.int .i64 0)).cell? q = some (.int .i64 y)) (hz2 : (w.setCell p (.int .i64 0)).frozen? q = false) :
    CallsD Try.prog 47 #[.pointer (some p), .pointer (some q)] (.panicking ({ v := .iface u pv, recovered := false } :: older)) w fun e u' w' =>
      e = .returned (.tuple #[]) ∧ u' = .panicking ({ v := .iface u pv, recovered := true } :: older) ∧ w' = (w.setCell p (.int .i64 0)).setCell q (.int .i64 4) := by
  refine callsD_of_wpS Try.func47 rfl fun c₀ cs hu => ?_
  apply wpS_seq
  apply wpS_region
  simp [wpOpsS, go_sem, recoverD, hu, Try.ntmps47, Exit.thenS]
  refine wpS_cond (t := true) (by simp [Act.eval, Array.replicate]) ?_
  simp only [if_true]
  apply wpS_region
  simp [wpOpsS, go_sem, hc, hz, hc2, hz2, bodyPostS, results, Try.results47]
theorem catch_idle (p q : Addr) (w : World) :
    CallsD Try.prog 47 #[.pointer (some p), .pointer (some q)] .returning w fun e u' w' => e = .returned (.tuple #[]) ∧ u' = .returning ∧ w' = w := by
  refine callsD_of_wpS Try.func47 rfl fun c₀ cs hu => ?_
  apply wpS_seq
  apply wpS_region
  simp [wpOpsS, go_sem, recoverD, hu, Try.ntmps47, Exit.thenS]
  refine wpS_cond (t := false) (by simp [Act.eval, Array.replicate]) ?_
  simp only [Bool.false_eq_true, if_false]
  refine wpS_of_wp (wp_skip ?_)
  cases c₀
  simp_all [bodyPostS, results, Try.results47]
theorem sqV_yes {f : Nat → Int} {m : Nat} (h : Yx.sqs f m ≤ 9223372036854775807) : Yx.sqV f m = Yx.sqs f m ∧ Yx.sqE f m = 0 := by unfold Yx.sqV Yx.sqE; rw [if_pos h, if_pos h]; exact ⟨rfl, rfl⟩
theorem sqV_no {f : Nat → Int} {m : Nat} (h : ¬ Yx.sqs f m ≤ 9223372036854775807) : Yx.sqV f m = 0 ∧ Yx.sqE f m = 4 := by unfold Yx.sqV Yx.sqE; rw [if_neg h, if_neg h]; exact ⟨rfl, rfl⟩
set_option maxHeartbeats 4000000 in
theorem squares_any (a : Option Addr) (m cap : Nat) (f : Nat → Int) (w : World) (S : Is w a m f) (hm : m ≤ 9223372036854775807) (ft : ∀ i, i < m → -9223372036854775808 ≤ f i ∧ f i ≤ 9223372036854775807) :
    Calls Try.prog 35 #[.slice a m cap] w fun e w' => e = .returned (.tuple #[.int .i64 (Yx.sqV f m), .int .i64 (Yx.sqE f m)]) ∧ Below w.heap.size w w' := by
  have hmf : ∀ (fn : Fn) (first cap : Array Value) (w : World), (Instr.makeFunc fn first cap).run Try.prog w = .ok (.func fn first cap) w := fun _ _ _ _ => rfl
  have hS := Lib.hid S; have HF := Lib.hid ft
  clear S ft
  go_enter_defers Try.func35, Try.ntmps35
  go_wp2_with (fail)
  go_loopw [9] (fun c wr => ∃ k : Nat, k ≤ m ∧ c = .int .i64 k ∧ Yx.sqs f k ≤ 9223372036854775807 ∧ wr = (w.alloc (.cells #[.int .i64 (Yx.sqs f k)] 3)).alloc (.cells #[.int .i64 0] 25)) (fun c _ => m - (intOf c).toNat)
  case atStart => exact ⟨0, by omega, rfl, by simp [Yx.sqs, Yx.sum], rfl⟩
  case round =>
    obtain ⟨k, hk, rfl, hq, rfl⟩ := hrel
    have hq0 := Yx.sqs_nonneg f k
    have HSu := Lib.hid (Yx.sqs_succ f k)
    by_cases hlt : k < m
    · obtain ⟨b, o, rfl, hb, c0⟩ := hS.out.elem hlt
      obtain ⟨f1, f2⟩ := HF.out k hlt
      obtain ⟨s, hs⟩ : ∃ s, Yx.sqs f k = s := ⟨_, rfl⟩
      have HQ := Lib.hid hs
      obtain ⟨v, hv⟩ : ∃ s, f k = s := ⟨_, rfl⟩
      have HV := Lib.hid hv
      rw [hs] at hq hq0
      rw [hv] at c0 f1 f2
      rw [hs]
      clear hs hv
      by_cases hok : s + v * v ≤ 9223372036854775807
      · go_wp2_with (go_at_call 48; refine (sadd_yes s v (by omega) (by omega) (by omega) (by omega) _).mono ?_; rintro e w' ⟨rfl, rfl⟩)
        go_roundw
        case rel => exact ⟨k + 1, by omega, by go_num, by rw [HSu.out, HQ.out, HV.out]; exact hok, by rw [HSu.out, HQ.out, HV.out]⟩
        case measure => simp [intOf]; omega
      · go_wp2_with (go_at_call 48; refine (sadd_no s v (by omega) (by omega) (by omega) (by omega) (by omega) _).mono ?_; rintro e w' ⟨rfl, rfl⟩)
        have hno : ¬ Yx.sqs f m ≤ 9223372036854775807 := by
          have := Yx.sqs_mono f (k := k + 1) (m := m) (by omega)
          have e := HSu.out; rw [HQ.out, HV.out] at e; omega
        have HN := Lib.hid (sqV_no hno)
        clear hno
        refine leaves_cons (f := 47) (args := #[.pointer (some ⟨w.heap.size, 0, none⟩), .pointer (some ⟨w.heap.size + 1, 0, none⟩)]) (by simp) (by simp [go_sem]) ?_
        refine (catch_panicking ⟨w.heap.size, 0, none⟩ ⟨w.heap.size + 1, 0, none⟩ s 0 _ _ [] _ ?_ ?_ ?_ ?_).mono ?_
        · simp [go_sem]
        · simp [go_sem]
        · simp [go_sem]
        · simp [go_sem]
        rintro e u' w'' ⟨rfl, rfl, rfl⟩
        rw [HN.out.1, HN.out.2]
        simp [Leaves, settle, results, Try.results35, go_sem]
        (repeat (first | exact Below.refl _ _ | refine Below.drew ?_ | refine Hp.drewN ?_ _ | refine Below.setCell ?_ (by first | (simp; done) | (simp; omega) | omega) _ | refine Below.alloc ?_ (by first | (simp; done) | (simp; omega) | omega) _ | (refine Hp.step ?_ (by assumption))))
    · go_wp2_with (fail)
      obtain rfl : k = m := by omega
      have HY := Lib.hid (sqV_yes hq)
      refine leaves_cons (f := 47) (args := #[.pointer (some ⟨w.heap.size, 0, none⟩), .pointer (some ⟨w.heap.size + 1, 0, none⟩)]) (by simp) (by simp [go_sem]) ?_
      refine (catch_idle ⟨w.heap.size, 0, none⟩ ⟨w.heap.size + 1, 0, none⟩ _).mono ?_
      rintro e u' w'' ⟨rfl, rfl, rfl⟩
      rw [HY.out.1, HY.out.2]
      simp [Leaves, settle, results, Try.results35, go_sem]
      (repeat (first | exact Below.refl _ _ | refine Below.drew ?_ | refine Hp.drewN ?_ _ | refine Below.setCell ?_ (by first | (simp; done) | (simp; omega) | omega) _ | refine Below.alloc ?_ (by first | (simp; done) | (simp; omega) | omega) _ | (refine Hp.step ?_ (by assumption))))
end Go.Proofs.Ytbidogefodfakaa.YxW
