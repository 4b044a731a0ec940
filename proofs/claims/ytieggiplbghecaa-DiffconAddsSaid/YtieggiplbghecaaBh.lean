/- Contracts of layer 51: within, Holds (both). -/
import Derived.Test.YtieggiplbghecaaBc
import Derived.Test.YtieggiplbghecaaQb
set_option linter.unusedVariables false
set_option linter.unusedSimpArgs false
namespace Go.Proofs.Ytieggiplbghecaa.BxW
open Go.RowKit Ls
theorem uwrap {a : Int} (h1 : -9223372036854775808 ≤ a) (h2 : a ≤ 9223372036854775807) : IntKind.u64.wrap a = if a < 0 then a + 18446744073709551616 else a := by
  rw [IntKind.wrap_u64]; split <;> omega
set_option maxHeartbeats 4000000 in
theorem within_any (a b c : Int) (a1 : -9223372036854775808 ≤ a) (a2 : a ≤ 9223372036854775807) (b1 : -9223372036854775808 ≤ b) (b2 : b ≤ 9223372036854775807) (c1 : -9223372036854775808 ≤ c) (c2 : c ≤ 9223372036854775807) (w : World) :
    Calls Try.prog 38 #[.int .i64 a, .int .i64 b, .int .i64 c] w fun e w' => e = .returned (.bool (decide (b - a ≤ c))) ∧ w = w' := by
  by_cases h : b < a
  · by_cases hc : 0 ≤ c
    · have E : Hid (decide (b - a ≤ c) = true) := Lib.hid (decide_eq_true (by omega))
      go_enter Try.func38, Try.ntmps38
      go_wp2
      go_ret
      exact ⟨Hp.ret_bool (by rw [E.out]), rfl⟩
    · have e1 : Hid (IntKind.u64.wrap (IntKind.u64.wrap a - IntKind.u64.wrap b) = a - b) := Lib.hid (by rw [IntKind.wrap_u64, IntKind.wrap_u64, IntKind.wrap_u64]; omega)
      have e2 : Hid (IntKind.u64.wrap (-IntKind.u64.wrap c) = -c) := Lib.hid (by rw [IntKind.wrap_u64, IntKind.wrap_u64]; omega)
      go_enter Try.func38, Try.ntmps38
      go_wp2
      go_ret
      refine ⟨Hp.ret_bool ?_, rfl⟩
      rw [e1.out, e2.out, Bool.eq_iff_iff]; simp; omega
  · by_cases hc : 0 ≤ c
    · have e1 : Hid (IntKind.u64.wrap (IntKind.u64.wrap b - IntKind.u64.wrap a) = b - a) := Lib.hid (by rw [IntKind.wrap_u64, IntKind.wrap_u64, IntKind.wrap_u64]; omega)
      have e2 : Hid (IntKind.u64.wrap c = c) := Lib.hid (by rw [IntKind.wrap_u64]; omega)
      go_enter Try.func38, Try.ntmps38
      go_wp2
      go_ret
      refine ⟨Hp.ret_bool ?_, rfl⟩
      first | rfl | (rw [e1.out]) | (rw [e1.out, e2.out])
    · have E : Hid (decide (b - a ≤ c) = false) := Lib.hid (decide_eq_false (by omega))
      go_enter Try.func38, Try.ntmps38
      go_wp2
      go_ret
      exact ⟨Hp.ret_bool (by rw [E.out]), rfl⟩
/-- constraint i holds for x -/
def okH (z : Nat → Nat → Int) (x : Nat → Int) (len i : Nat) : Bool := decide (0 ≤ z i 0 ∧ z i 0 < len ∧ 0 ≤ z i 1 ∧ z i 1 < len ∧ x (Bx.to z i) - x (Bx.fr z i) ≤ z i 2)
def holds (z : Nat → Nat → Int) (x : Nat → Int) (len m : Nat) : Bool := decide (∀ i, i < m → okH z x len i = true)
theorem hold_parts (A B n d W : Int) : A < 0 ∨ (0 ≤ A ∧ n ≤ A) ∨ (0 ≤ A ∧ A < n ∧ B < 0) ∨ (0 ≤ A ∧ A < n ∧ 0 ≤ B ∧ n ≤ B) ∨ (0 ≤ A ∧ A < n ∧ 0 ≤ B ∧ B < n ∧ W < d) ∨ (0 ≤ A ∧ A < n ∧ 0 ≤ B ∧ B < n ∧ d ≤ W) := by omega
/-- the numbers of a list are ints -/
def Fit (n : Nat) (x : Nat → Int) : Prop := ∀ i, i < n → -9223372036854775808 ≤ x i ∧ x i ≤ 9223372036854775807
def FitZ (m : Nat) (z : Nat → Nat → Int) : Prop := ∀ i j, i < m → j < 3 → -9223372036854775808 ≤ z i j ∧ z i j ≤ 9223372036854775807
theorem holds_no {z : Nat → Nat → Int} {x : Nat → Int} {len m k : Nat} (hk : k < m) (h : okH z x len k = false) : holds z x len m = false := decide_eq_false fun g => by rw [g k hk] at h; cases h
theorem exceeds_at {a b c : Int} {r : Bool} (a1 : -9223372036854775808 ≤ a) (a2 : a ≤ 9223372036854775807) (b1 : -9223372036854775808 ≤ b) (b2 : b ≤ 9223372036854775807) (c1 : -9223372036854775808 ≤ c) (c2 : c ≤ 9223372036854775807) (h : Hid (decide (c < b - a) = r)) (w : World) :
    Calls Try.prog 37 #[.int .i64 a, .int .i64 b, .int .i64 c] w fun e w' => e = .returned (.bool r) ∧ w = w' := by rw [← h.out]; exact exceeds_any a b c a1 a2 b1 b2 c1 c2 w
theorem within_at {a b c : Int} {r : Bool} (a1 : -9223372036854775808 ≤ a) (a2 : a ≤ 9223372036854775807) (b1 : -9223372036854775808 ≤ b) (b2 : b ≤ 9223372036854775807) (c1 : -9223372036854775808 ≤ c) (c2 : c ≤ 9223372036854775807) (h : Hid (decide (b - a ≤ c) = r)) (w : World) :
    Calls Try.prog 38 #[.int .i64 a, .int .i64 b, .int .i64 c] w fun e w' => e = .returned (.bool r) ∧ w = w' := by rw [← h.out]; exact within_any a b c a1 a2 b1 b2 c1 c2 w
set_option maxHeartbeats 16000000 in
theorem holds_any (a : Option Addr) (m cap : Nat) (z : Nat → Nat → Int) (ax : Option Addr) (n capx : Nat) (x : Nat → Int) (w : World) (S : Ss 3 w a m z) (X : Is w ax n x) (fz : FitZ m z) (fx : Fit n x) (hm : m ≤ 9223372036854775807) (hn : n ≤ 9223372036854775807) :
    Calls Try.prog 23 #[.slice a m cap, .slice ax n capx] w fun e w' => e = .returned (.bool (holds z x n m)) ∧ Below w.heap.size w w' := by
  have hS := Lib.hid S; have hX := Lib.hid X; have HF := Lib.hid fz; have HG := Lib.hid fx
  clear S X fz fx
  go_enter Try.func23, Try.ntmps23
  go_wp2
  go_loopw [9] (fun c wr => ∃ k : Nat, k ≤ m ∧ c = .int .i64 k ∧ (∀ i, i < k → okH z x n i = true) ∧ Below w.heap.size w wr) (fun c _ => m - (intOf c).toNat)
  case atStart => exact ⟨0, by omega, rfl, fun i hi => by omega, Below.refl _ _⟩
  case round =>
    obtain ⟨k, hk, rfl, hs, hB⟩ := hrel
    have HB := Lib.hid hB; have HS := Lib.hid hs
    have hbs := hB.size
    clear hB hs
    by_cases hlt : k < m
    · obtain ⟨b, o, rfl, hb, c0, c1, c2⟩ := (hS.out.later HB.out).elem3 hlt
      have f2 := HF.out k 2 hlt (by omega)
      have Q := hold_parts (z k 0) (z k 1) n (x (Bx.to z k) - x (Bx.fr z k)) (z k 2)
      have D : Hid (okH z x n k = decide (0 ≤ z k 0 ∧ z k 0 < n ∧ 0 ≤ z k 1 ∧ z k 1 < n ∧ x (z k 1).toNat - x (z k 0).toNat ≤ z k 2)) := Lib.hid rfl
      unfold Bx.to Bx.fr at Q
      obtain ⟨A, hA⟩ : ∃ A, z k 0 = A := ⟨_, rfl⟩
      obtain ⟨B, hB'⟩ : ∃ A, z k 1 = A := ⟨_, rfl⟩
      obtain ⟨W, hW⟩ : ∃ A, z k 2 = A := ⟨_, rfl⟩
      rw [hA] at c0 Q; rw [hB'] at c1 Q; rw [hW] at c2 Q f2
      have D2 : Hid (okH z x n k = decide (0 ≤ A ∧ A < n ∧ 0 ≤ B ∧ B < n ∧ x B.toNat - x A.toNat ≤ W)) := Lib.hid (by rw [D.out, hA, hB', hW])
      clear hA hB' hW D
      have f21 := f2.1; have f22 := f2.2
      clear f2
      rcases Q with q | ⟨q, q1⟩ | ⟨q, q1, q2⟩ | ⟨q, q1, q2, q3⟩ | ⟨q, q1, q2, q3, q4⟩ | ⟨q, q1, q2, q3, q4⟩
      · have E : Hid (okH z x n k = false) := Lib.hid (by rw [D2.out]; exact decide_eq_false (by omega))
        have d1 : decide (A < 0) = true := decide_eq_true q
        clear D2
        go_wp2_with (fail)
        go_quiet (fail)
        go_wp2_with (fail)
        go_ret
        exact ⟨Hp.ret_bool (by rw [holds_no hlt E.out]), by have := HB.out; (repeat (first | exact Below.refl _ _ | refine Below.drew ?_ | refine Hp.drewN ?_ _ | refine Below.setCell ?_ (by first | (simp; done) | (simp; omega) | omega) _ | refine Below.alloc ?_ (by first | (simp; done) | (simp; omega) | omega) _ | (refine Hp.step ?_ (by assumption))))⟩
      · have E : Hid (okH z x n k = false) := Lib.hid (by rw [D2.out]; exact decide_eq_false (by omega))
        have d1 : decide (A < 0) = false := decide_eq_false (by omega)
        have d2 : decide ((n : Int) ≤ A) = true := decide_eq_true q1
        clear D2
        go_wp2_with (fail)
        go_quiet (fail)
        go_wp2_with (fail)
        go_ret
        exact ⟨Hp.ret_bool (by rw [holds_no hlt E.out]), by have := HB.out; (repeat (first | exact Below.refl _ _ | refine Below.drew ?_ | refine Hp.drewN ?_ _ | refine Below.setCell ?_ (by first | (simp; done) | (simp; omega) | omega) _ | refine Below.alloc ?_ (by first | (simp; done) | (simp; omega) | omega) _ | (refine Hp.step ?_ (by assumption))))⟩
      · have E : Hid (okH z x n k = false) := Lib.hid (by rw [D2.out]; exact decide_eq_false (by omega))
        have d1 : decide (A < 0) = false := decide_eq_false (by omega)
        have d2 : decide ((n : Int) ≤ A) = false := decide_eq_false (by omega)
        have d3 : decide (B < 0) = true := decide_eq_true q2
        clear D2
        go_wp2_with (fail)
        go_quiet (fail)
        go_wp2_with (fail)
        go_ret
        exact ⟨Hp.ret_bool (by rw [holds_no hlt E.out]), by have := HB.out; (repeat (first | exact Below.refl _ _ | refine Below.drew ?_ | refine Hp.drewN ?_ _ | refine Below.setCell ?_ (by first | (simp; done) | (simp; omega) | omega) _ | refine Below.alloc ?_ (by first | (simp; done) | (simp; omega) | omega) _ | (refine Hp.step ?_ (by assumption))))⟩
      · have E : Hid (okH z x n k = false) := Lib.hid (by rw [D2.out]; exact decide_eq_false (by omega))
        have d1 : decide (A < 0) = false := decide_eq_false (by omega)
        have d2 : decide ((n : Int) ≤ A) = false := decide_eq_false (by omega)
        have d3 : decide (B < 0) = false := decide_eq_false (by omega)
        have d4 : decide ((n : Int) ≤ B) = true := decide_eq_true q3
        clear D2
        go_wp2_with (fail)
        go_quiet (fail)
        go_wp2_with (fail)
        go_ret
        exact ⟨Hp.ret_bool (by rw [holds_no hlt E.out]), by have := HB.out; (repeat (first | exact Below.refl _ _ | refine Below.drew ?_ | refine Hp.drewN ?_ _ | refine Below.setCell ?_ (by first | (simp; done) | (simp; omega) | omega) _ | refine Below.alloc ?_ (by first | (simp; done) | (simp; omega) | omega) _ | (refine Hp.step ?_ (by assumption))))⟩
      · have E : Hid (okH z x n k = false) := Lib.hid (by rw [D2.out]; exact decide_eq_false (by omega))
        have d1 : decide (A < 0) = false := decide_eq_false (by omega)
        have d2 : decide ((n : Int) ≤ A) = false := decide_eq_false (by omega)
        have d3 : decide (B < 0) = false := decide_eq_false (by omega)
        have d4 : decide ((n : Int) ≤ B) = false := decide_eq_false (by omega)
        obtain ⟨p, rfl⟩ := Int.eq_ofNat_of_zero_le q
        obtain ⟨r, rfl⟩ := Int.eq_ofNat_of_zero_le q2
        have hp : p < n := by omega
        have hr : r < n := by omega
        obtain ⟨bx, ox, rfl, hbx, hcx⟩ := (hX.out.later HB.out).addr (by omega)
        have e1 := hcx p hp; have e2 := hcx r hr
        have g1 := HG.out p hp; have g2 := HG.out r hr
        have R := Lib.hid (decide_eq_true q4)
        simp only [Int.toNat_natCast] at R
        have g11 := g1.1; have g12 := g1.2; have g21 := g2.1; have g22 := g2.2
        clear D2 hcx g1 g2 q4 d4 d3 d2 d1
        have d2 : decide (n ≤ p) = false := decide_eq_false (by omega)
        have d4 : decide (n ≤ r) = false := decide_eq_false (by omega)
        go_wp2_with (fail)
        go_quiet ((go_at_call 37; exact Qb.same (exceeds_at g11 g12 g21 g22 f21 f22 R _)))
        go_wp2_with (fail)
        go_ret
        exact ⟨Hp.ret_bool (by rw [holds_no hlt E.out]), by have := HB.out; (repeat (first | exact Below.refl _ _ | refine Below.drew ?_ | refine Hp.drewN ?_ _ | refine Below.setCell ?_ (by first | (simp; done) | (simp; omega) | omega) _ | refine Below.alloc ?_ (by first | (simp; done) | (simp; omega) | omega) _ | (refine Hp.step ?_ (by assumption))))⟩
      · have E : Hid (okH z x n k = true) := Lib.hid (by rw [D2.out]; exact decide_eq_true (by omega))
        have d1 : decide (A < 0) = false := decide_eq_false (by omega)
        have d2 : decide ((n : Int) ≤ A) = false := decide_eq_false (by omega)
        have d3 : decide (B < 0) = false := decide_eq_false (by omega)
        have d4 : decide ((n : Int) ≤ B) = false := decide_eq_false (by omega)
        obtain ⟨p, rfl⟩ := Int.eq_ofNat_of_zero_le q
        obtain ⟨r, rfl⟩ := Int.eq_ofNat_of_zero_le q2
        have hp : p < n := by omega
        have hr : r < n := by omega
        obtain ⟨bx, ox, rfl, hbx, hcx⟩ := (hX.out.later HB.out).addr (by omega)
        have e1 := hcx p hp; have e2 := hcx r hr
        have g1 := HG.out p hp; have g2 := HG.out r hr
        simp only [Int.toNat_natCast] at q4
        have R : Hid (decide (W < x r - x p) = false) := Lib.hid (decide_eq_false (by omega))
        have g11 := g1.1; have g12 := g1.2; have g21 := g2.1; have g22 := g2.2
        clear D2 hcx g1 g2 q4 d4 d3 d2 d1
        have d2 : decide (n ≤ p) = false := decide_eq_false (by omega)
        have d4 : decide (n ≤ r) = false := decide_eq_false (by omega)
        go_wp2_with (fail)
        go_quiet ((go_at_call 37; exact Qb.same (exceeds_at g11 g12 g21 g22 f21 f22 R _)))
        go_wp2_with (fail)
        go_roundw
        case rel => exact ⟨k + 1, by omega, by go_num, fun i hi => by
          by_cases e : i = k
          · rw [e]; exact E.out
          · exact HS.out i (by omega), by have := HB.out; (repeat (first | exact Below.refl _ _ | refine Below.drew ?_ | refine Hp.drewN ?_ _ | refine Below.setCell ?_ (by first | (simp; done) | (simp; omega) | omega) _ | refine Below.alloc ?_ (by first | (simp; done) | (simp; omega) | omega) _ | (refine Hp.step ?_ (by assumption))))⟩
        case measure => simp [intOf]; omega
    · go_wp2
      go_ret
      exact ⟨Hp.ret_bool (by symm; exact decide_eq_true (by rw [← show k = m by omega]; exact HS.out)), HB.out⟩
end Go.Proofs.Ytieggiplbghecaa.BxW
