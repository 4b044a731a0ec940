/- Contracts of layer 48: ratio, rat; the reference's squares. -/
import Derived.Test.YtbidogefodfakaaYq
import Derived.Test.YtbidogefodfakaaRm
import Derived.StillTailTactics
set_option linter.unusedVariables false
set_option linter.unusedSimpArgs false
namespace Go.Proofs.Ytbidogefodfakaa.YxW
open Go.RowKit Ls
theorem rmul_ok {a b : Int} (h1 : -9223372036854775808 ≤ a * b) (h2 : a * b ≤ 9223372036854775807) (a1 : -9223372036854775808 ≤ a) (a2 : a ≤ 9223372036854775807) (b1 : -9223372036854775808 ≤ b) (b2 : b ≤ 9223372036854775807) (w : World) :
    Calls Try.prog 49 #[.int .i64 a, .int .i64 b] w fun e w' => e = .returned (.tuple #[.int .i64 (a * b), .bool true]) ∧ w = w' := by
  have := FxW.rmul_any a b a1 a2 b1 b2 w
  rw [Fx.fitV_of (Fx.fitOk_true h1 h2), Fx.fitOk_true h1 h2] at this; exact this
theorem rmul_no {a b : Int} (h : 9223372036854775807 < a * b) (a1 : -9223372036854775808 ≤ a) (a2 : a ≤ 9223372036854775807) (b1 : -9223372036854775808 ≤ b) (b2 : b ≤ 9223372036854775807) (w : World) :
    Calls Try.prog 49 #[.int .i64 a, .int .i64 b] w fun e w' => e = .returned (.tuple #[.int .i64 0, .bool false]) ∧ w = w' := by
  have := FxW.rmul_any a b a1 a2 b1 b2 w
  have g := fitOk_out (.inr h)
  rw [show Fx.fitV (a * b) = 0 by unfold Fx.fitV; rw [g]; rfl, g] at this; exact this
theorem radd_ok' {a b : Int} (h1 : -9223372036854775808 ≤ a + b) (h2 : a + b ≤ 9223372036854775807) (a1 : -9223372036854775808 ≤ a) (a2 : a ≤ 9223372036854775807) (b1 : -9223372036854775808 ≤ b) (b2 : b ≤ 9223372036854775807) (w : World) :
    Calls Try.prog 50 #[.int .i64 a, .int .i64 b] w fun e w' => e = .returned (.tuple #[.int .i64 (a + b), .bool true]) ∧ w = w' := by
  have := FxW.radd_any a b a1 a2 b1 b2 w
  rw [Fx.fitV_of (Fx.fitOk_true h1 h2), Fx.fitOk_true h1 h2] at this; exact this
theorem radd_no' {a b : Int} (h : 9223372036854775807 < a + b) (a1 : -9223372036854775808 ≤ a) (a2 : a ≤ 9223372036854775807) (b1 : -9223372036854775808 ≤ b) (b2 : b ≤ 9223372036854775807) (w : World) :
    Calls Try.prog 50 #[.int .i64 a, .int .i64 b] w fun e w' => e = .returned (.tuple #[.int .i64 0, .bool false]) ∧ w = w' := by
  have := FxW.radd_any a b a1 a2 b1 b2 w
  have g := fitOk_out (.inr h)
  rw [show Fx.fitV (a + b) = 0 by unfold Fx.fitV; rw [g]; rfl, g] at this; exact this
theorem ret_ib {k : IntKind} {a b : Int} {c d : Bool} (h1 : a = b) (h2 : c = d) : Ending.returned (.tuple #[.int k a, .bool c]) = .returned (.tuple #[.int k b, .bool d]) := by rw [h1, h2]
def sqB (f : Nat → Int) (m : Nat) : Bool := decide (Yx.sqs f m ≤ 9223372036854775807)
set_option maxHeartbeats 8000000 in
theorem rsquares_any (a : Option Addr) (m cap : Nat) (f : Nat → Int) (w : World) (S : Is w a m f) (hm : m ≤ 9223372036854775807) (ft : ∀ i, i < m → -9223372036854775808 ≤ f i ∧ f i ≤ 9223372036854775807) :
    Calls Try.prog 38 #[.slice a m cap] w fun e w' => e = .returned (.tuple #[.int .i64 (Yx.sqV f m), .bool (sqB f m)]) ∧ Below w.heap.size w w' := by
  have hS := Lib.hid S; have HF := Lib.hid ft
  clear S ft
  go_enter Try.func38, Try.ntmps38
  go_wp2_with (fail)
  go_loopw [5, 4] (fun c s wr => ∃ k : Nat, k ≤ m ∧ c = .int .i64 k ∧ Yx.sqs f k ≤ 9223372036854775807 ∧ s = .int .i64 (Yx.sqs f k) ∧ ∃ q, wr = w.drewN q) (fun c _ _ => m - (intOf c).toNat)
  case atStart => exact ⟨0, by omega, rfl, by simp [Yx.sqs, Yx.sum], rfl, 0, rfl⟩
  case round =>
    obtain ⟨k, hk, rfl, hq, rfl, q, rfl⟩ := hrel
    have hq0 := Yx.sqs_nonneg f k
    have HSu := Lib.hid (Yx.sqs_succ f k)
    by_cases hlt : k < m
    · obtain ⟨b, o, rfl, hb, c0⟩ := hS.out.elem hlt
      obtain ⟨f1, f2⟩ := HF.out k hlt
      obtain ⟨s, hs⟩ : ∃ s, Yx.sqs f k = s := ⟨_, rfl⟩
      have HQ := Lib.hid hs
      obtain ⟨v, hv⟩ : ∃ s, f k = s := ⟨_, rfl⟩
      have HV := Lib.hid hv
      rw [hs] at hq hq0
      rw [hv] at c0 f1 f2
      rw [hs]
      clear hs hv
      have hv0 := Yx.sq_nonneg v
      by_cases hok : s + v * v ≤ 9223372036854775807
      · have M : Hid (∀ w, Calls Try.prog 49 #[.int .i64 v, .int .i64 v] w fun e w' => e = .returned (.tuple #[.int .i64 (v * v), .bool true]) ∧ w = w') := Lib.hid fun w => rmul_ok (by omega) (by omega) (by omega) (by omega) (by omega) (by omega) w
        obtain ⟨y, hy⟩ : ∃ y, v * v = y := ⟨_, rfl⟩
        have HY := Lib.hid hy
        have M2 : Hid (∀ w, Calls Try.prog 49 #[.int .i64 v, .int .i64 v] w fun e w' => e = .returned (.tuple #[.int .i64 y, .bool true]) ∧ w = w') := Lib.hid (by rw [← hy]; exact M.out)
        rw [hy] at hok hv0
        clear hy M
        go_wp2_with (fail)
        go_quiet ((go_at_call 49; exact Qb.sameA (M2.out _)))
        go_wp2_with (go_at_call 50; refine (radd_ok' (by omega) (by omega) (by omega) (by omega) (by omega) (by omega) _).mono ?_; rintro e w' ⟨rfl, rfl⟩)
        go_roundw
        case rel => exact ⟨k + 1, by omega, by go_num, by rw [HSu.out, HQ.out, HV.out, HY.out]; exact hok, by rw [HSu.out, HQ.out, HV.out, HY.out], _, rfl⟩
        case measure => simp [intOf]; omega
      · have hno : ¬ Yx.sqs f m ≤ 9223372036854775807 := by
          have := Yx.sqs_mono f (k := k + 1) (m := m) (by omega)
          have e := HSu.out; rw [HQ.out, HV.out] at e; omega
        have HN := Lib.hid (sqV_no hno)
        have HB : Hid (sqB f m = false) := Lib.hid (decide_eq_false hno)
        clear hno
        by_cases g : v * v ≤ 9223372036854775807
        · have M : Hid (∀ w, Calls Try.prog 49 #[.int .i64 v, .int .i64 v] w fun e w' => e = .returned (.tuple #[.int .i64 (v * v), .bool true]) ∧ w = w') := Lib.hid fun w => rmul_ok (by omega) (by omega) (by omega) (by omega) (by omega) (by omega) w
          obtain ⟨y, hy⟩ : ∃ y, v * v = y := ⟨_, rfl⟩
          have M2 : Hid (∀ w, Calls Try.prog 49 #[.int .i64 v, .int .i64 v] w fun e w' => e = .returned (.tuple #[.int .i64 y, .bool true]) ∧ w = w') := Lib.hid (by rw [← hy]; exact M.out)
          rw [hy] at hok hv0 g
          clear hy M
          go_wp2_with (fail)
          go_quiet ((go_at_call 49; exact Qb.sameA (M2.out _)))
          go_wp2_with (go_at_call 50; refine (radd_no' (by omega) (by omega) (by omega) (by omega) (by omega) _).mono ?_; rintro e w' ⟨rfl, rfl⟩)
          go_ret2
          exact ⟨ret_ib HN.out.1.symm HB.out.symm, by (repeat (first | exact Below.refl _ _ | refine Below.drew ?_ | refine Hp.drewN ?_ _ | refine Below.setCell ?_ (by first | (simp; done) | (simp; omega) | omega) _ | refine Below.alloc ?_ (by first | (simp; done) | (simp; omega) | omega) _ | (refine Hp.step ?_ (by assumption))))⟩
        · have M2 : Hid (∀ w, Calls Try.prog 49 #[.int .i64 v, .int .i64 v] w fun e w' => e = .returned (.tuple #[.int .i64 0, .bool false]) ∧ w = w') := Lib.hid fun w => rmul_no (by omega) (by omega) (by omega) (by omega) (by omega) w
          clear hok g hv0
          go_wp2_with (fail)
          go_quiet ((go_at_call 49; exact Qb.sameA (M2.out _)))
          go_wp2_with (fail)
          go_ret2
          exact ⟨ret_ib HN.out.1.symm HB.out.symm, by (repeat (first | exact Below.refl _ _ | refine Below.drew ?_ | refine Hp.drewN ?_ _ | refine Below.setCell ?_ (by first | (simp; done) | (simp; omega) | omega) _ | refine Below.alloc ?_ (by first | (simp; done) | (simp; omega) | omega) _ | (refine Hp.step ?_ (by assumption))))⟩
    · obtain rfl : k = m := by omega
      have HY := Lib.hid (sqV_yes hq)
      have HB : Hid (sqB f k = true) := Lib.hid (decide_eq_true hq)
      go_wp2_with (fail)
      go_ret2
      exact ⟨ret_ib HY.out.1.symm HB.out.symm, by (repeat (first | exact Below.refl _ _ | refine Below.drew ?_ | refine Hp.drewN ?_ _ | refine Below.setCell ?_ (by first | (simp; done) | (simp; omega) | omega) _ | refine Below.alloc ?_ (by first | (simp; done) | (simp; omega) | omega) _ | (refine Hp.step ?_ (by assumption))))⟩
theorem gcd_step {p q : Int} (hp : 0 ≤ p) (hq : 0 < q) : Int.gcd q (p % q) = Int.gcd p q := by
  obtain ⟨a, rfl⟩ := Int.eq_ofNat_of_zero_le hp
  obtain ⟨b, rfl⟩ := Int.eq_ofNat_of_zero_le (show 0 ≤ q by omega)
  show Nat.gcd _ _ = Nat.gcd _ _
  rw [← Int.natCast_emod]
  simp only [Int.natAbs_natCast]
  rw [Nat.gcd_comm b, ← Nat.gcd_rec, Nat.gcd_comm]
set_option maxHeartbeats 4000000 in
theorem ratio_any (n d : Int) (n0 : 0 ≤ n) (n1 : n ≤ 9223372036854775807) (d0 : 1 ≤ d) (d1 : d ≤ 9223372036854775807) (w : World) :
    Calls Try.prog 36 #[.int .i64 n, .int .i64 d] w fun e w' => e = .returned (.agg #[.int .i64 (Yx.rN n d), .int .i64 (Yx.rD n d)]) ∧ Below w.heap.size w w' := by
  go_enter Try.func36, Try.ntmps36
  go_wp2_with (fail)
  go_loopw [5, 6] (fun a b wr => ∃ p q : Int, 0 ≤ p ∧ 0 ≤ q ∧ p ≤ 9223372036854775807 ∧ q ≤ 9223372036854775807 ∧ a = .int .i64 p ∧ b = .int .i64 q ∧ Int.gcd p q = Int.gcd n d ∧ ∃ k, wr = (w.alloc (.cells #[.int .i64 0, .int .i64 0] 31)).drewN k) (fun _ b _ => (intOf b).toNat)
  case atStart => exact ⟨n, d, by omega, by omega, by omega, by omega, rfl, rfl, rfl, 0, rfl⟩
  case round =>
    obtain ⟨p, q, p0, q0, p1, q1, rfl, rfl, hg, k, rfl⟩ := hrel
    have HG := Lib.hid hg
    clear hg
    by_cases hq : q = 0
    · subst hq
      have hgp : p = (Int.gcd n d : Int) := by rw [← HG.out, Int.gcd_zero_right]; omega
      have hp0 : 0 < p := by
        rw [hgp]
        have : Int.gcd n d ≠ 0 := by rw [Ne, Int.gcd_eq_zero_iff]; omega
        omega
      have hpz : ¬ p = 0 := by omega
      have HP := Lib.hid hgp
      clear hgp
      go_wp2_with (fail)
      go_still_tail 7, (by kernel_rfl)
      change wpList _ _ _ _ _ (World.drew ((w.alloc (.cells #[.int .i64 0, .int .i64 0] 31)).drewN k))
      go_wp2_with (fail)
      refine bodyPost_ret (v := .agg #[.int .i64 (n / p), .int .i64 (d / p)]) (by simp [results, Try.results36, go_sem]) rfl ⟨?_, ?_⟩
      · rw [HP.out]; rfl
      · (repeat (first | exact Below.refl _ _ | refine Below.drew ?_ | refine Hp.drewN ?_ _ | refine Below.setCell ?_ (by first | (simp; done) | (simp; omega) | omega) _ | refine Below.alloc ?_ (by first | (simp; done) | (simp; omega) | omega) _ | (refine Hp.step ?_ (by assumption))))
    · have hqb : (q != 0) = true := by simpa using hq
      have hqp : 0 < q := by omega
      have e1 := Lib.hid (gcd_step p0 hqp)
      have b1 := Int.emod_nonneg p hq; have b2 := Int.emod_lt_of_pos p hqp
      have e2 : p.tmod q = p % q := Int.tmod_eq_emod_of_nonneg p0
      go_wp2_with (fail)
      go_quiet (fail)
      go_wp2_with (fail)
      go_roundw
      case rel => exact ⟨q, p % q, by omega, by omega, by omega, by omega, rfl, rfl, by rw [e1.out, HG.out], k + nq, by rw [World.drewN_drewN]⟩
      case measure => simp only [intOf]; omega
set_option maxHeartbeats 4000000 in
theorem rat_any (n d : Int) (n0 : 0 ≤ n) (n1 : n ≤ 9223372036854775807) (d0 : 1 ≤ d) (d1 : d ≤ 9223372036854775807) (w : World) :
    Calls Try.prog 39 #[.int .i64 n, .int .i64 d] w fun e w' => e = .returned (.agg #[.int .i64 (Yx.rN n d), .int .i64 (Yx.rD n d)]) ∧ Below w.heap.size w w' := by
  go_enter Try.func39, Try.ntmps39
  go_wp2_with (fail)
  go_loopw [5, 6] (fun a b wr => ∃ p q : Int, 0 ≤ p ∧ 0 ≤ q ∧ p ≤ 9223372036854775807 ∧ q ≤ 9223372036854775807 ∧ a = .int .i64 p ∧ b = .int .i64 q ∧ Int.gcd p q = Int.gcd n d ∧ ∃ k, wr = (w.alloc (.cells #[.int .i64 0, .int .i64 0] 31)).drewN k) (fun _ b _ => (intOf b).toNat)
  case atStart => exact ⟨n, d, by omega, by omega, by omega, by omega, rfl, rfl, rfl, 0, rfl⟩
  case round =>
    obtain ⟨p, q, p0, q0, p1, q1, rfl, rfl, hg, k, rfl⟩ := hrel
    have HG := Lib.hid hg
    clear hg
    by_cases hq : q = 0
    · subst hq
      have hgp : p = (Int.gcd n d : Int) := by rw [← HG.out, Int.gcd_zero_right]; omega
      have hp0 : 0 < p := by
        rw [hgp]
        have : Int.gcd n d ≠ 0 := by rw [Ne, Int.gcd_eq_zero_iff]; omega
        omega
      have hpz : ¬ p = 0 := by omega
      have HP := Lib.hid hgp
      clear hgp
      go_wp2_with (fail)
      go_still_tail 7, (by kernel_rfl)
      change wpList _ _ _ _ _ (World.drew ((w.alloc (.cells #[.int .i64 0, .int .i64 0] 31)).drewN k))
      go_wp2_with (fail)
      refine bodyPost_ret (v := .agg #[.int .i64 (n / p), .int .i64 (d / p)]) (by simp [results, Try.results39, go_sem]) rfl ⟨?_, ?_⟩
      · rw [HP.out]; rfl
      · (repeat (first | exact Below.refl _ _ | refine Below.drew ?_ | refine Hp.drewN ?_ _ | refine Below.setCell ?_ (by first | (simp; done) | (simp; omega) | omega) _ | refine Below.alloc ?_ (by first | (simp; done) | (simp; omega) | omega) _ | (refine Hp.step ?_ (by assumption))))
    · have hqb : (q != 0) = true := by simpa using hq
      have hqp : 0 < q := by omega
      have e1 := Lib.hid (gcd_step p0 hqp)
      have b1 := Int.emod_nonneg p hq; have b2 := Int.emod_lt_of_pos p hqp
      have e2 : p.tmod q = p % q := Int.tmod_eq_emod_of_nonneg p0
      go_wp2_with (fail)
      go_roundw
      case rel => exact ⟨q, p % q, by omega, by omega, by omega, by omega, rfl, rfl, by rw [e1.out, HG.out], k, rfl⟩
      case measure => simp only [intOf]; omega
end Go.Proofs.Ytbidogefodfakaa.YxW
