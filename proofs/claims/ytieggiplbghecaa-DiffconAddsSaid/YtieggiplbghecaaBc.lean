/- Contracts of layer 51: valid, right, Check (both), Less, lesser, exceeds, within. -/
import Derived.Test.YtieggiplbghecaaBx
import Derived.Test.YtieggiplbghecaaLs
import Derived.LoopTactic
import Derived.BigQuiet
import Derived.Deep.QuietTactic
set_option linter.unusedVariables false
set_option linter.unusedSimpArgs false
namespace Go.Proofs.Ytieggiplbghecaa.BxW
open Go.RowKit Ls
def okB (n A B W : Int) : Bool := decide (0 ≤ A ∧ A < n ∧ 0 ≤ B ∧ B < n ∧ -9007199254740992 ≤ W ∧ W ≤ 9007199254740992)
theorem okB_iff {n A B W : Int} : okB n A B W = true ↔ (0 ≤ A ∧ A < n ∧ 0 ≤ B ∧ B < n ∧ -9007199254740992 ≤ W ∧ W ≤ 9007199254740992) := by unfold okB; simp
theorem okB_no {n A B W : Int} (h : ¬ (0 ≤ A ∧ A < n ∧ 0 ≤ B ∧ B < n ∧ -9007199254740992 ≤ W ∧ W ≤ 9007199254740992)) : okB n A B W = false := by unfold okB; exact decide_eq_false h
theorem parts (n A B W : Int) : (¬ 0 ≤ A) ∨ (0 ≤ A ∧ ¬ A < n) ∨ (0 ≤ A ∧ A < n ∧ ¬ 0 ≤ B) ∨ (0 ≤ A ∧ A < n ∧ 0 ≤ B ∧ ¬ B < n) ∨ (0 ≤ A ∧ A < n ∧ 0 ≤ B ∧ B < n ∧ ¬ -9007199254740992 ≤ W) ∨ (0 ≤ A ∧ A < n ∧ 0 ≤ B ∧ B < n ∧ -9007199254740992 ≤ W) := by omega
set_option maxHeartbeats 4000000 in
theorem valid_any (n A B W : Int) (w : World) : Calls Try.prog 34 #[.int .i64 n, .agg #[.int .i64 A, .int .i64 B, .int .i64 W]] w fun e w' => e = .returned (.bool (okB n A B W)) ∧ Below w.heap.size w w' := by
  rcases parts n A B W with h | ⟨h, h1⟩ | ⟨h, h1, h2⟩ | ⟨h, h1, h2, h3⟩ | ⟨h, h1, h2, h3, h4⟩ | ⟨h, h1, h2, h3, h4⟩
  all_goals
    go_enter Try.func34, Try.ntmps34
    go_wp2
    go_ret
    refine ⟨Hp.ret_bool ?_, by (repeat (first | exact Below.refl _ _ | refine Below.drew ?_ | refine Hp.drewN ?_ _ | refine Below.setCell ?_ (by first | (simp; done) | (simp; omega) | omega) _ | refine Below.alloc ?_ (by first | (simp; done) | (simp; omega) | omega) _ | (refine Hp.step ?_ (by assumption))))⟩
    first | (symm; exact okB_no (by omega)) | (symm; exact okB_iff.2 (by omega)) | (rw [Bool.eq_iff_iff, okB_iff]; simp; omega)
set_option maxHeartbeats 4000000 in
theorem right_any (n A B W : Int) (w : World) : Calls Try.prog 35 #[.int .i64 n, .agg #[.int .i64 A, .int .i64 B, .int .i64 W]] w fun e w' => e = .returned (.bool (okB n A B W)) ∧ Below w.heap.size w w' := by
  rcases parts n A B W with h | ⟨h, h1⟩ | ⟨h, h1, h2⟩ | ⟨h, h1, h2, h3⟩ | ⟨h, h1, h2, h3, h4⟩ | ⟨h, h1, h2, h3, h4⟩
  all_goals
    go_enter Try.func35, Try.ntmps35
    go_wp2
    go_ret
    refine ⟨Hp.ret_bool ?_, by (repeat (first | exact Below.refl _ _ | refine Below.drew ?_ | refine Hp.drewN ?_ _ | refine Below.setCell ?_ (by first | (simp; done) | (simp; omega) | omega) _ | refine Below.alloc ?_ (by first | (simp; done) | (simp; omega) | omega) _ | (refine Hp.step ?_ (by assumption))))⟩
    first | (symm; exact okB_no (by omega)) | (symm; exact okB_iff.2 (by omega)) | (rw [Bool.eq_iff_iff, okB_iff]; simp; omega)
theorem valid_at {n : Int} {z : Nat → Nat → Int} {k : Nat} {r : Bool} (h : Hid (Bx.okC n z k = r)) (w : World) : Calls Try.prog 34 #[.int .i64 n, .agg #[.int .i64 (z k 0), .int .i64 (z k 1), .int .i64 (z k 2)]] w fun e w' => e = .returned (.bool r) ∧ Below w.heap.size w w' := by
  rw [← h.out]; exact valid_any _ _ _ _ w
theorem right_at {n : Int} {z : Nat → Nat → Int} {k : Nat} {r : Bool} (h : Hid (Bx.okC n z k = r)) (w : World) : Calls Try.prog 35 #[.int .i64 n, .agg #[.int .i64 (z k 0), .int .i64 (z k 1), .int .i64 (z k 2)]] w fun e w' => e = .returned (.bool r) ∧ Below w.heap.size w w' := by
  rw [← h.out]; exact right_any _ _ _ _ w
theorem chk_lo {n : Int} {m : Nat} {z : Nat → Nat → Int} (h : n < 1 ∨ 160 < n) : Bx.chk n m z = 3 := by unfold Bx.chk; rw [if_pos h]
theorem chk_long {n : Int} {m : Nat} {z : Nat → Nat → Int} (h : ¬ (n < 1 ∨ 160 < n)) (h2 : 4096 < m) : Bx.chk n m z = 6 := by unfold Bx.chk; rw [if_neg h, if_pos h2]
theorem chk_scan {n : Int} {m : Nat} {z : Nat → Nat → Int} (h : ¬ (n < 1 ∨ 160 < n)) (h2 : ¬ 4096 < m) : Bx.chk n m z = Bx.scan n z m := by unfold Bx.chk; rw [if_neg h, if_neg h2]
set_option maxHeartbeats 4000000 in
theorem check_any (n : Int) (a : Option Addr) (m cap : Nat) (z : Nat → Nat → Int) (w : World) (S : Ss 3 w a m z) :
    Calls Try.prog 15 #[.int .i64 n, .slice a m cap] w fun e w' => e = .returned (.int .i64 (Bx.chk n m z)) ∧ Below w.heap.size w w' := by
  by_cases h1 : n < 1
  · have E := Lib.hid (chk_lo (m := m) (z := z) (.inl h1))
    clear S
    go_enter Try.func15, Try.ntmps15
    go_wp2
    go_ret
    exact ⟨by rw [E.out] <;> rfl, Below.refl _ _⟩
  · by_cases h2 : 160 < n
    · have E := Lib.hid (chk_lo (m := m) (z := z) (.inr h2))
      clear S
      go_enter Try.func15, Try.ntmps15
      go_wp2
      go_ret
      exact ⟨by rw [E.out] <;> rfl, Below.refl _ _⟩
    · by_cases h3 : 4096 < m
      · have E := Lib.hid (chk_long (z := z) (n := n) (by omega) h3)
        have h3' : (4096 : Int) < (m : Int) := by omega
        clear S h3
        go_enter Try.func15, Try.ntmps15
        go_wp2
        go_ret
        exact ⟨by rw [E.out] <;> rfl, Below.refl _ _⟩
      · have E := Lib.hid (chk_scan (z := z) (n := n) (by omega) h3)
        have h3' : ¬ (4096 : Int) < (m : Int) := by omega
        have hS := Lib.hid S
        clear S h3
        go_enter Try.func15, Try.ntmps15
        go_wp2
        go_loopw [18] (fun c wr => ∃ k : Nat, k ≤ m ∧ c = .int .i64 k ∧ Bx.scan n z k = 0 ∧ Below w.heap.size w wr) (fun c _ => m - (intOf c).toNat)
        case atStart => exact ⟨0, by omega, rfl, rfl, Below.refl _ _⟩
        case round =>
          obtain ⟨k, hk, rfl, hs, hB⟩ := hrel
          have HB := Lib.hid hB; have HS := Lib.hid hs
          have hbs := hB.size
          clear hB hs
          by_cases hlt : k < m
          · obtain ⟨b, o, rfl, hb, c0, c1, c2⟩ := (hS.out.later HB.out).elem3 hlt
            by_cases g : Bx.okC n z k = true
            · have q := Lib.hid g
              have e := Lib.hid (Bx.scan_go HS.out g)
              clear g
              go_wp2_with (go_at_call 34; refine (valid_at q _).mono ?_; rintro e w5 ⟨rfl, hb5⟩; obtain ⟨hc5, hf5⟩ := Hp.bcell hb5; have hs5 := hb5.size; (try simp at hs5); have B5 := Lib.hid ((HB.out.alloc hbs _).trans (hb5.mono (by simp; omega))); clear hb5)
              go_roundw
              case rel => exact ⟨k + 1, by omega, by go_num, e.out, B5.out⟩
              case measure => simp [intOf]; omega
            · have g : Bx.okC n z k = false := by simpa using g
              have q := Lib.hid g
              have e := Lib.hid (Bx.scan_no g m hlt)
              clear g
              go_wp2_with (go_at_call 34; refine (valid_at q _).mono ?_; rintro e w5 ⟨rfl, hb5⟩; obtain ⟨hc5, hf5⟩ := Hp.bcell hb5; have hs5 := hb5.size; (try simp at hs5); have B5 := Lib.hid ((HB.out.alloc hbs _).trans (hb5.mono (by simp; omega))); clear hb5)
              go_ret
              exact ⟨by rw [E.out, e.out] <;> rfl, B5.out⟩
          · go_wp2
            go_ret
            exact ⟨by rw [E.out, ← show k = m by omega, HS.out] <;> rfl, HB.out⟩
set_option maxHeartbeats 4000000 in
theorem rcheck_any (n : Int) (a : Option Addr) (m cap : Nat) (z : Nat → Nat → Int) (w : World) (S : Ss 3 w a m z) :
    Calls Try.prog 16 #[.int .i64 n, .slice a m cap] w fun e w' => e = .returned (.int .i64 (Bx.chk n m z)) ∧ Below w.heap.size w w' := by
  by_cases h1 : n < 1
  · have E := Lib.hid (chk_lo (m := m) (z := z) (.inl h1))
    clear S
    go_enter Try.func16, Try.ntmps16
    go_wp2
    go_ret
    exact ⟨by rw [E.out] <;> rfl, Below.refl _ _⟩
  · by_cases h2 : 160 < n
    · have E := Lib.hid (chk_lo (m := m) (z := z) (.inr h2))
      clear S
      go_enter Try.func16, Try.ntmps16
      go_wp2
      go_ret
      exact ⟨by rw [E.out] <;> rfl, Below.refl _ _⟩
    · by_cases h3 : 4096 < m
      · have E := Lib.hid (chk_long (z := z) (n := n) (by omega) h3)
        have h3' : (4096 : Int) < (m : Int) := by omega
        clear S h3
        go_enter Try.func16, Try.ntmps16
        go_wp2
        go_ret
        exact ⟨by rw [E.out] <;> rfl, Below.refl _ _⟩
      · have E := Lib.hid (chk_scan (z := z) (n := n) (by omega) h3)
        have h3' : ¬ (4096 : Int) < (m : Int) := by omega
        have hS := Lib.hid S
        clear S h3
        go_enter Try.func16, Try.ntmps16
        go_wp2
        go_loopw [5] (fun c wr => ∃ k : Nat, k ≤ m ∧ c = .int .i64 k ∧ Bx.scan n z k = 0 ∧ Below w.heap.size w wr) (fun c _ => m - (intOf c).toNat)
        case atStart => exact ⟨0, by omega, rfl, rfl, Below.refl _ _⟩
        case round =>
          obtain ⟨k, hk, rfl, hs, hB⟩ := hrel
          have HB := Lib.hid hB; have HS := Lib.hid hs
          have hbs := hB.size
          clear hB hs
          by_cases hlt : k < m
          · obtain ⟨b, o, rfl, hb, c0, c1, c2⟩ := (hS.out.later HB.out).elem3 hlt
            by_cases g : Bx.okC n z k = true
            · have q := Lib.hid g
              have e := Lib.hid (Bx.scan_go HS.out g)
              clear g
              go_wp2_with (go_at_call 35; refine (right_at q _).mono ?_; rintro e w5 ⟨rfl, hb5⟩; obtain ⟨hc5, hf5⟩ := Hp.bcell hb5; have hs5 := hb5.size; (try simp at hs5); have B5 := Lib.hid (HB.out.trans (hb5.mono hbs)); clear hb5)
              go_roundw
              case rel => exact ⟨k + 1, by omega, by go_num, e.out, B5.out⟩
              case measure => simp [intOf]; omega
            · have g : Bx.okC n z k = false := by simpa using g
              have q := Lib.hid g
              have e := Lib.hid (Bx.scan_no g m hlt)
              clear g
              go_wp2_with (go_at_call 35; refine (right_at q _).mono ?_; rintro e w5 ⟨rfl, hb5⟩; obtain ⟨hc5, hf5⟩ := Hp.bcell hb5; have hs5 := hb5.size; (try simp at hs5); have B5 := Lib.hid (HB.out.trans (hb5.mono hbs)); clear hb5)
              go_ret
              exact ⟨by rw [E.out, e.out] <;> rfl, B5.out⟩
          · go_wp2
            go_ret
            exact ⟨by rw [E.out, ← show k = m by omega, HS.out] <;> rfl, HB.out⟩
theorem nan_any (a : Int) (w : World) : Calls Try.prog 45 #[.int .i64 a] w fun e w' => e = .returned (.bool false) ∧ w = w' := by
  go_enter Try.func45, Try.ntmps45
  go_wp2
  go_ret
  exact ⟨by simp, rfl⟩
theorem less_any (a b : Int) (w : World) : Calls Try.prog 44 #[.int .i64 a, .int .i64 b] w fun e w' => e = .returned (.bool (decide (a < b))) ∧ w = w' := by
  go_enter Try.func44, Try.ntmps44
  go_wp2_with (go_at_call 45; refine (nan_any _ _).mono ?_; rintro e w' ⟨rfl, rfl⟩)
  go_ret
  exact ⟨rfl, rfl⟩
theorem lesser_any (a b : Int) (w : World) : Calls Try.prog 42 #[.int .i64 a, .int .i64 b] w fun e w' => e = .returned (.int .i64 (if b < a then b else a)) ∧ w = w' := by
  by_cases h : b < a
  · rw [if_pos h]
    have h' : decide (b < a) = true := decide_eq_true h
    go_enter Try.func42, Try.ntmps42
    go_wp2_with (go_at_call 44; refine (less_any _ _ _).mono ?_; rintro e w' ⟨rfl, rfl⟩)
    go_ret
    exact ⟨rfl, rfl⟩
  · rw [if_neg h]
    have h' : decide (b < a) = false := decide_eq_false h
    go_enter Try.func42, Try.ntmps42
    go_wp2_with (go_at_call 44; refine (less_any _ _ _).mono ?_; rintro e w' ⟨rfl, rfl⟩)
    go_ret
    exact ⟨rfl, rfl⟩
set_option maxHeartbeats 4000000 in
theorem exceeds_any (a b c : Int) (a1 : -9223372036854775808 ≤ a) (a2 : a ≤ 9223372036854775807) (b1 : -9223372036854775808 ≤ b) (b2 : b ≤ 9223372036854775807) (c1 : -9223372036854775808 ≤ c) (c2 : c ≤ 9223372036854775807) (w : World) :
    Calls Try.prog 37 #[.int .i64 a, .int .i64 b, .int .i64 c] w fun e w' => e = .returned (.bool (decide (c < b - a))) ∧ w = w' := by
  by_cases h : -9223372036854775808 ≤ b - a ∧ b - a ≤ 9223372036854775807
  · obtain ⟨h1, h2⟩ := h
    by_cases ha : a < 0 <;> by_cases hb : b < 0 <;> by_cases hs : b - a < 0
    all_goals first
      | (exfalso; omega)
      | (go_enter Try.func37, Try.ntmps37
         go_wp2
         go_ret
         exact ⟨Hp.ret_bool (by rw [Bool.eq_iff_iff]; simp), rfl⟩)
      | (go_enter Try.func37, Try.ntmps37
         go_wp2
         go_ret
         exact ⟨rfl, rfl⟩)
  · by_cases ha : a < 0
    · have hb : ¬ b < 0 := by omega
      have hs : wrap64 (b - a) < 0 := by unfold wrap64; omega
      have E : Hid (decide (c < b - a) = true) := Lib.hid (decide_eq_true (by omega))
      go_enter Try.func37, Try.ntmps37
      go_wp2
      go_ret
      exact ⟨Hp.ret_bool (by rw [E.out]), rfl⟩
    · have hb : b < 0 := by omega
      have hs : ¬ wrap64 (b - a) < 0 := by unfold wrap64; omega
      have E : Hid (decide (c < b - a) = false) := Lib.hid (decide_eq_false (by omega))
      go_enter Try.func37, Try.ntmps37
      go_wp2
      go_ret
      exact ⟨Hp.ret_bool (by rw [E.out]; simp; omega), rfl⟩
end Go.Proofs.Ytieggiplbghecaa.BxW
