/- Contracts of layer 51: the reference's Holds. -/
import Derived.Test.YtieggiplbghecaaBh
set_option linter.unusedVariables false
set_option linter.unusedSimpArgs false
namespace Go.Proofs.Ytieggiplbghecaa.BxW
open Go.RowKit Ls
set_option maxHeartbeats 16000000 in
theorem rholds_any (a : Option Addr) (m cap : Nat) (z : Nat → Nat → Int) (ax : Option Addr) (n capx : Nat) (x : Nat → Int) (w : World) (S : Ss 3 w a m z) (X : Is w ax n x) (fz : FitZ m z) (fx : Fit n x) (hm : m ≤ 9223372036854775807) (hn : n ≤ 9223372036854775807) :
    Calls Try.prog 24 #[.slice a m cap, .slice ax n capx] w fun e w' => e = .returned (.bool (holds z x n m)) ∧ Below w.heap.size w w' := by
  have hS := Lib.hid S; have hX := Lib.hid X; have HF := Lib.hid fz; have HG := Lib.hid fx
  clear S X fz fx
  go_enter Try.func24, Try.ntmps24
  go_wp2
  go_loopw [5] (fun c wr => ∃ k : Nat, k ≤ m ∧ c = .int .i64 k ∧ (∀ i, i < k → okH z x n i = true) ∧ Below w.heap.size w wr) (fun c _ => m - (intOf c).toNat)
  case atStart => exact ⟨0, by omega, rfl, fun i hi => by omega, Below.refl _ _⟩
  case round =>
    obtain ⟨k, hk, rfl, hs, hB⟩ := hrel
    have HB := Lib.hid hB; have HS := Lib.hid hs
    have hbs := hB.size
    clear hB hs
    by_cases hlt : k < m
    · obtain ⟨b, o, rfl, hb, c0, c1, c2⟩ := (hS.out.later HB.out).elem3 hlt
      have f2 := HF.out k 2 hlt (by omega)
      have Q := hold_parts (z k 0) (z k 1) n (x (Bx.to z k) - x (Bx.fr z k)) (z k 2)
      have D : Hid (okH z x n k = decide (0 ≤ z k 0 ∧ z k 0 < n ∧ 0 ≤ z k 1 ∧ z k 1 < n ∧ x (z k 1).toNat - x (z k 0).toNat ≤ z k 2)) := Lib.hid rfl
      unfold Bx.to Bx.fr at Q
      obtain ⟨A, hA⟩ : ∃ A, z k 0 = A := ⟨_, rfl⟩
      obtain ⟨B, hB'⟩ : ∃ A, z k 1 = A := ⟨_, rfl⟩
      obtain ⟨W, hW⟩ : ∃ A, z k 2 = A := ⟨_, rfl⟩
      rw [hA] at c0 Q; rw [hB'] at c1 Q; rw [hW] at c2 Q f2
      have D2 : Hid (okH z x n k = decide (0 ≤ A ∧ A < n ∧ 0 ≤ B ∧ B < n ∧ x B.toNat - x A.toNat ≤ W)) := Lib.hid (by rw [D.out, hA, hB', hW])
      clear hA hB' hW D
      have f21 := f2.1; have f22 := f2.2
      clear f2
      rcases Q with q | ⟨q, q1⟩ | ⟨q, q1, q2⟩ | ⟨q, q1, q2, q3⟩ | ⟨q, q1, q2, q3, q4⟩ | ⟨q, q1, q2, q3, q4⟩
      · have E : Hid (okH z x n k = false) := Lib.hid (by rw [D2.out]; exact decide_eq_false (by omega))
        have d1 : decide (A < 0) = true := decide_eq_true q
        clear D2
        go_wp2_with (fail)
        go_quiet (fail)
        go_wp2_with (fail)
        go_ret
        exact ⟨Hp.ret_bool (by rw [holds_no hlt E.out]), by have := HB.out; (repeat (first | exact Below.refl _ _ | refine Below.drew ?_ | refine Hp.drewN ?_ _ | refine Below.setCell ?_ (by first | (simp; done) | (simp; omega) | omega) _ | refine Below.alloc ?_ (by first | (simp; done) | (simp; omega) | omega) _ | (refine Hp.step ?_ (by assumption))))⟩
      · have E : Hid (okH z x n k = false) := Lib.hid (by rw [D2.out]; exact decide_eq_false (by omega))
        have d1 : decide (A < 0) = false := decide_eq_false (by omega)
        have d2 : decide ((n : Int) ≤ A) = true := decide_eq_true q1
        clear D2
        go_wp2_with (fail)
        go_quiet (fail)
        go_wp2_with (fail)
        go_ret
        exact ⟨Hp.ret_bool (by rw [holds_no hlt E.out]), by have := HB.out; (repeat (first | exact Below.refl _ _ | refine Below.drew ?_ | refine Hp.drewN ?_ _ | refine Below.setCell ?_ (by first | (simp; done) | (simp; omega) | omega) _ | refine Below.alloc ?_ (by first | (simp; done) | (simp; omega) | omega) _ | (refine Hp.step ?_ (by assumption))))⟩
      · have E : Hid (okH z x n k = false) := Lib.hid (by rw [D2.out]; exact decide_eq_false (by omega))
        have d1 : decide (A < 0) = false := decide_eq_false (by omega)
        have d2 : decide ((n : Int) ≤ A) = false := decide_eq_false (by omega)
        have d3 : decide (B < 0) = true := decide_eq_true q2
        clear D2
        go_wp2_with (fail)
        go_quiet (fail)
        go_wp2_with (fail)
        go_ret
        exact ⟨Hp.ret_bool (by rw [holds_no hlt E.out]), by have := HB.out; (repeat (first | exact Below.refl _ _ | refine Below.drew ?_ | refine Hp.drewN ?_ _ | refine Below.setCell ?_ (by first | (simp; done) | (simp; omega) | omega) _ | refine Below.alloc ?_ (by first | (simp; done) | (simp; omega) | omega) _ | (refine Hp.step ?_ (by assumption))))⟩
      · have E : Hid (okH z x n k = false) := Lib.hid (by rw [D2.out]; exact decide_eq_false (by omega))
        have d1 : decide (A < 0) = false := decide_eq_false (by omega)
        have d2 : decide ((n : Int) ≤ A) = false := decide_eq_false (by omega)
        have d3 : decide (B < 0) = false := decide_eq_false (by omega)
        have d4 : decide ((n : Int) ≤ B) = true := decide_eq_true q3
        clear D2
        go_wp2_with (fail)
        go_quiet (fail)
        go_wp2_with (fail)
        go_ret
        exact ⟨Hp.ret_bool (by rw [holds_no hlt E.out]), by have := HB.out; (repeat (first | exact Below.refl _ _ | refine Below.drew ?_ | refine Hp.drewN ?_ _ | refine Below.setCell ?_ (by first | (simp; done) | (simp; omega) | omega) _ | refine Below.alloc ?_ (by first | (simp; done) | (simp; omega) | omega) _ | (refine Hp.step ?_ (by assumption))))⟩
      · have E : Hid (okH z x n k = false) := Lib.hid (by rw [D2.out]; exact decide_eq_false (by omega))
        have d1 : decide (A < 0) = false := decide_eq_false (by omega)
        have d2 : decide ((n : Int) ≤ A) = false := decide_eq_false (by omega)
        have d3 : decide (B < 0) = false := decide_eq_false (by omega)
        have d4 : decide ((n : Int) ≤ B) = false := decide_eq_false (by omega)
        obtain ⟨p, rfl⟩ := Int.eq_ofNat_of_zero_le q
        obtain ⟨r, rfl⟩ := Int.eq_ofNat_of_zero_le q2
        have hp : p < n := by omega
        have hr : r < n := by omega
        obtain ⟨bx, ox, rfl, hbx, hcx⟩ := (hX.out.later HB.out).addr (by omega)
        have e1 := hcx p hp; have e2 := hcx r hr
        have g1 := HG.out p hp; have g2 := HG.out r hr
        simp only [Int.toNat_natCast] at q4
        have R : Hid (decide (x r - x p ≤ W) = false) := Lib.hid (decide_eq_false (by omega))
        have g11 := g1.1; have g12 := g1.2; have g21 := g2.1; have g22 := g2.2
        clear D2 hcx g1 g2 q4 d4 d3 d2 d1
        have d2 : decide (n ≤ p) = false := decide_eq_false (by omega)
        have d4 : decide (n ≤ r) = false := decide_eq_false (by omega)
        go_wp2_with (fail)
        go_quiet ((go_at_call 38; exact Qb.same (within_at g11 g12 g21 g22 f21 f22 R _)))
        go_wp2_with (fail)
        go_ret
        exact ⟨Hp.ret_bool (by rw [holds_no hlt E.out]), by have := HB.out; (repeat (first | exact Below.refl _ _ | refine Below.drew ?_ | refine Hp.drewN ?_ _ | refine Below.setCell ?_ (by first | (simp; done) | (simp; omega) | omega) _ | refine Below.alloc ?_ (by first | (simp; done) | (simp; omega) | omega) _ | (refine Hp.step ?_ (by assumption))))⟩
      · have E : Hid (okH z x n k = true) := Lib.hid (by rw [D2.out]; exact decide_eq_true (by omega))
        have d1 : decide (A < 0) = false := decide_eq_false (by omega)
        have d2 : decide ((n : Int) ≤ A) = false := decide_eq_false (by omega)
        have d3 : decide (B < 0) = false := decide_eq_false (by omega)
        have d4 : decide ((n : Int) ≤ B) = false := decide_eq_false (by omega)
        obtain ⟨p, rfl⟩ := Int.eq_ofNat_of_zero_le q
        obtain ⟨r, rfl⟩ := Int.eq_ofNat_of_zero_le q2
        have hp : p < n := by omega
        have hr : r < n := by omega
        obtain ⟨bx, ox, rfl, hbx, hcx⟩ := (hX.out.later HB.out).addr (by omega)
        have e1 := hcx p hp; have e2 := hcx r hr
        have g1 := HG.out p hp; have g2 := HG.out r hr
        simp only [Int.toNat_natCast] at q4
        have R : Hid (decide (x r - x p ≤ W) = true) := Lib.hid (decide_eq_true (by omega))
        have g11 := g1.1; have g12 := g1.2; have g21 := g2.1; have g22 := g2.2
        clear D2 hcx g1 g2 q4 d4 d3 d2 d1
        have d2 : decide (n ≤ p) = false := decide_eq_false (by omega)
        have d4 : decide (n ≤ r) = false := decide_eq_false (by omega)
        go_wp2_with (fail)
        go_quiet ((go_at_call 38; exact Qb.same (within_at g11 g12 g21 g22 f21 f22 R _)))
        go_wp2_with (fail)
        go_roundw
        case rel => exact ⟨k + 1, by omega, by go_num, fun i hi => by
          by_cases e : i = k
          · rw [e]; exact E.out
          · exact HS.out i (by omega), by have := HB.out; (repeat (first | exact Below.refl _ _ | refine Below.drew ?_ | refine Hp.drewN ?_ _ | refine Below.setCell ?_ (by first | (simp; done) | (simp; omega) | omega) _ | refine Below.alloc ?_ (by first | (simp; done) | (simp; omega) | omega) _ | (refine Hp.step ?_ (by assumption))))⟩
        case measure => simp [intOf]; omega
    · go_wp2
      go_ret
      exact ⟨Hp.ret_bool (by symm; exact decide_eq_true (by rw [← show k = m by omega]; exact HS.out)), HB.out⟩
end Go.Proofs.Ytieggiplbghecaa.BxW
