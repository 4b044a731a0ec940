/- The contract of Accept of package replay. -/
import Derived.Test.YthmkckdjddgmhaaPr
set_option linter.unusedVariables false
set_option linter.unusedSimpArgs false
namespace Go.Proofs.Ythmkckdjddgmhaa.PxW
open Go.RowKit

set_option maxHeartbeats 2000000 in
theorem accept_no {b : Nat} {size next : Int} {B : Nat} (n : Int) (w : World) (W : Win w b size next B) (s0 : 0 ≤ size) (s1 : size ≤ 256) (n0 : 0 ≤ next) (n1 : next ≤ 4611686018427387905) (e : Int) (he : Hid (Px.refuse size next B n = e)) (ne : (e != 0) = true) :
    Calls Try.prog 10 #[.pointer (some ⟨b, 0, none⟩), .int .i64 n] w fun e' w' => e' = .returned (.int .i64 e) ∧ w = w' := by
  go_enter Try.func10, Try.ntmps10
  go_wp2_with (go_at_call 23; refine (refusal_any _ _ W s0 s1 n0 n1).mono ?_; rw [he.out]; rintro e w' ⟨rfl, rfl⟩)
  go_ret
  exact ⟨rfl, rfl⟩
set_option maxHeartbeats 1000000 in
theorem accept_nil (n : Int) (w : World) :
    Calls Try.prog 10 #[.pointer none, .int .i64 n] w fun e' w' => e' = .returned (.int .i64 1) ∧ w = w' := by
  go_enter Try.func10, Try.ntmps10
  go_wp2_with (go_at_call 23; refine (refusal_nil _ _).mono ?_; rintro e w' ⟨rfl, rfl⟩)
  go_ret
  exact ⟨rfl, rfl⟩
theorem orB (B q r : Nat) (hr : r < 64) : bits .or .u64 (Px.wd B q : Int) (2 ^ r) = (Px.wd (Px.put B (64 * q + r)) q : Int) := by
  have e : ((2 : Int) ^ r) = ((2 ^ r : Nat) : Int) := by simp
  rw [e, u64_or_nat _ _ (Px.wd_lt _ _) (Nat.pow_lt_pow_right (n := 64) (by decide) hr), Px.put_same B q r hr]
theorem wrap2 (r : Nat) (hr : r < 64) : IntKind.u64.wrap ((2 : Int) ^ r) = 2 ^ r := by
  have e : ((2 : Int) ^ r) = ((2 ^ r : Nat) : Int) := by simp
  have h : (2 : Nat) ^ r < 18446744073709551616 := Nat.pow_lt_pow_right (n := 64) (by decide) hr
  rw [IntKind.wrap_u64, e]
  generalize (2 : Nat) ^ r = x at *
  omega
set_option maxHeartbeats 4000000 in
theorem accept_up {b : Nat} {size next : Int} {B : Nat} (n : Int) (w : World) (W : Win w b size next B) (s0 : 0 ≤ size) (s1 : size ≤ 256) (n0 : 0 ≤ next) (n1 : next ≤ 4611686018427387905) (he : Hid (Px.refuse size next B n = 0)) (hn : next ≤ n) (hm : n ≤ 4611686018427387904) :
    Calls Try.prog 10 #[.pointer (some ⟨b, 0, none⟩), .int .i64 n] w fun e' w' => e' = .returned (.int .i64 0) ∧ Win w' b size (Px.nextOf next n) (Px.bitsOf next B n) ∧ But b w w' := by
  obtain ⟨U, hU⟩ : ∃ U, Px.up B (n - (next - 1)).toNat = U := ⟨_, rfl⟩
  have e1 : Px.nextOf next n = n + 1 := by unfold Px.nextOf; rw [if_pos hn]
  have e2 : Px.bitsOf next B n = Px.put U 0 := by unfold Px.bitsOf; rw [if_pos hn, ← hU]; congr 3; omega
  have E1 := Lib.hid e1; have E2 := Lib.hid e2; have HU := Lib.hid hU
  have O := orB U 0 0 (by decide)
  simp at O
  clear e1 e2 hU
  go_enter Try.func10, Try.ntmps10
  go_wp2_with (first | (go_at_call 23; refine (refusal_any _ _ W s0 s1 n0 n1).mono ?_; rw [he.out]; rintro e w' ⟨rfl, rfl⟩) | ((with_reducible refine (top_any _ W n0 n1).mono ?_); rintro e w' ⟨rfl, rfl⟩) | ((with_reducible refine (top_any _ W3 (by omega) (by omega)).mono ?_); rintro e w' ⟨rfl, rfl⟩) | (go_at_call 24; refine (rise_any _ (by omega) _ W).mono ?_; rw [HU.out]; rintro e w2 ⟨rfl, W2, B2⟩; have c0 := W2.c0; have c1 := W2.c1; have c2 := W2.c2; have c3 := W2.c3; have c4 := W2.c4; have c5 := W2.c5; have f1 := W2.free 1; have f2 := W2.free 2; have W3 : Win (w2.setCell ⟨b, 1, none⟩ (.int .i64 (n + 1))) b size (n + 1) U := ⟨Hp.blk_set W2.blk⟩))
  go_region
  go_wp2
  go_ret
  refine ⟨rfl, ?_, ?_⟩
  · rw [E1.out, E2.out]
    have h := Hp.blk_set (o := 2) (v := .int .u64 (Px.wd (Px.put U 0) 0)) W3.blk
    have p1 := Px.put_other U 0 0 1 (by decide) (by decide)
    have p2 := Px.put_other U 0 0 2 (by decide) (by decide)
    have p3 := Px.put_other U 0 0 3 (by decide) (by decide)
    exact ⟨by rw [p1, p2, p3]; exact h⟩
  · repeat (first | exact B2 | refine But.setCell ?_ _ _ | refine But.drew ?_ | refine But.alloc ?_ _)
set_option maxHeartbeats 4000000 in
theorem accept_low0 {b : Nat} {size next : Int} {B : Nat} (n : Int) (r : Nat) (w : World) (W : Win w b size next B) (s0 : 0 ≤ size) (s1 : size ≤ 256) (n0 : 0 ≤ next) (n1 : next ≤ 4611686018427387905) (he : Hid (Px.refuse size next B n = 0)) (hn : ¬ next ≤ n) (hm : 0 ≤ n) (hq : (next - 1 - n) / 64 = 0) (hr : (next - 1 - n) % 64 = (r : Int)) :
    Calls Try.prog 10 #[.pointer (some ⟨b, 0, none⟩), .int .i64 n] w fun e' w' => e' = .returned (.int .i64 0) ∧ Win w' b size (Px.nextOf next n) (Px.bitsOf next B n) ∧ But b w w' := by
  have hr64 : r < 64 := by omega
  have hn' : ¬ next - 1 < n := by omega
  have e1 : Px.nextOf next n = next := by unfold Px.nextOf; rw [if_neg hn]
  have e2 : Px.bitsOf next B n = Px.put B r := by unfold Px.bitsOf; rw [if_neg hn]; congr 1; omega
  have E1 := Lib.hid e1; have E2 := Lib.hid e2
  have O := orB B 0 r hr64
  rw [show 64 * 0 + r = r by omega] at O
  have O2 := wrap2 r hr64
  have c2 := W.c2; have f2 := W.free 2
  have B2 := But.refl b w
  clear e1 e2
  go_enter Try.func10, Try.ntmps10
  go_wp2_with (first | (go_at_call 23; refine (refusal_any _ _ W s0 s1 n0 n1).mono ?_; rw [he.out]; rintro e w' ⟨rfl, rfl⟩) | ((with_reducible refine (top_any _ W n0 n1).mono ?_); rintro e w' ⟨rfl, rfl⟩))
  go_region
  go_wp2
  go_ret
  refine ⟨rfl, ?_, ?_⟩
  · rw [E1.out, E2.out]
    have h := Hp.blk_set (o := 2) (v := .int .u64 (Px.wd (Px.put B r) 0)) W.blk
    have p1 := Px.put_other B 0 r 1 hr64 (by decide)
    have p2 := Px.put_other B 0 r 2 hr64 (by decide)
    have p3 := Px.put_other B 0 r 3 hr64 (by decide)
    rw [show 64 * 0 + r = r by omega] at p1 p2 p3
    exact ⟨by rw [p1, p2, p3]; exact h⟩
  · repeat (first | exact B2 | refine But.setCell ?_ _ _ | refine But.drew ?_ | refine But.alloc ?_ _)
set_option maxHeartbeats 4000000 in
theorem accept_low1 {b : Nat} {size next : Int} {B : Nat} (n : Int) (r : Nat) (w : World) (W : Win w b size next B) (s0 : 0 ≤ size) (s1 : size ≤ 256) (n0 : 0 ≤ next) (n1 : next ≤ 4611686018427387905) (he : Hid (Px.refuse size next B n = 0)) (hn : ¬ next ≤ n) (hm : 0 ≤ n) (hq : (next - 1 - n) / 64 = 1) (hr : (next - 1 - n) % 64 = (r : Int)) :
    Calls Try.prog 10 #[.pointer (some ⟨b, 0, none⟩), .int .i64 n] w fun e' w' => e' = .returned (.int .i64 0) ∧ Win w' b size (Px.nextOf next n) (Px.bitsOf next B n) ∧ But b w w' := by
  have hr64 : r < 64 := by omega
  have hn' : ¬ next - 1 < n := by omega
  have e1 : Px.nextOf next n = next := by unfold Px.nextOf; rw [if_neg hn]
  have e2 : Px.bitsOf next B n = Px.put B (64 * 1 + r) := by unfold Px.bitsOf; rw [if_neg hn]; congr 1; omega
  have E1 := Lib.hid e1; have E2 := Lib.hid e2
  have O := orB B 1 r hr64
  have O2 := wrap2 r hr64
  have c3 := W.c3; have f3 := W.free 3
  have B2 := But.refl b w
  clear e1 e2
  go_enter Try.func10, Try.ntmps10
  go_wp2_with (first | (go_at_call 23; refine (refusal_any _ _ W s0 s1 n0 n1).mono ?_; rw [he.out]; rintro e w' ⟨rfl, rfl⟩) | ((with_reducible refine (top_any _ W n0 n1).mono ?_); rintro e w' ⟨rfl, rfl⟩))
  go_region
  go_wp2
  go_ret
  refine ⟨rfl, ?_, ?_⟩
  · rw [E1.out, E2.out]
    have h := Hp.blk_set (o := 3) (v := .int .u64 (Px.wd (Px.put B (64 * 1 + r)) 1)) W.blk
    have p0 := Px.put_other B 1 r 0 hr64 (by decide)
    have p2 := Px.put_other B 1 r 2 hr64 (by decide)
    have p3 := Px.put_other B 1 r 3 hr64 (by decide)
    exact ⟨by rw [p0, p2, p3]; exact h⟩
  · repeat (first | exact B2 | refine But.setCell ?_ _ _ | refine But.drew ?_ | refine But.alloc ?_ _)
set_option maxHeartbeats 4000000 in
theorem accept_low2 {b : Nat} {size next : Int} {B : Nat} (n : Int) (r : Nat) (w : World) (W : Win w b size next B) (s0 : 0 ≤ size) (s1 : size ≤ 256) (n0 : 0 ≤ next) (n1 : next ≤ 4611686018427387905) (he : Hid (Px.refuse size next B n = 0)) (hn : ¬ next ≤ n) (hm : 0 ≤ n) (hq : (next - 1 - n) / 64 = 2) (hr : (next - 1 - n) % 64 = (r : Int)) :
    Calls Try.prog 10 #[.pointer (some ⟨b, 0, none⟩), .int .i64 n] w fun e' w' => e' = .returned (.int .i64 0) ∧ Win w' b size (Px.nextOf next n) (Px.bitsOf next B n) ∧ But b w w' := by
  have hr64 : r < 64 := by omega
  have hn' : ¬ next - 1 < n := by omega
  have e1 : Px.nextOf next n = next := by unfold Px.nextOf; rw [if_neg hn]
  have e2 : Px.bitsOf next B n = Px.put B (64 * 2 + r) := by unfold Px.bitsOf; rw [if_neg hn]; congr 1; omega
  have E1 := Lib.hid e1; have E2 := Lib.hid e2
  have O := orB B 2 r hr64
  have O2 := wrap2 r hr64
  have c4 := W.c4; have f4 := W.free 4
  have B2 := But.refl b w
  clear e1 e2
  go_enter Try.func10, Try.ntmps10
  go_wp2_with (first | (go_at_call 23; refine (refusal_any _ _ W s0 s1 n0 n1).mono ?_; rw [he.out]; rintro e w' ⟨rfl, rfl⟩) | ((with_reducible refine (top_any _ W n0 n1).mono ?_); rintro e w' ⟨rfl, rfl⟩))
  go_region
  go_wp2
  go_ret
  refine ⟨rfl, ?_, ?_⟩
  · rw [E1.out, E2.out]
    have h := Hp.blk_set (o := 4) (v := .int .u64 (Px.wd (Px.put B (64 * 2 + r)) 2)) W.blk
    have p0 := Px.put_other B 2 r 0 hr64 (by decide)
    have p1 := Px.put_other B 2 r 1 hr64 (by decide)
    have p3 := Px.put_other B 2 r 3 hr64 (by decide)
    exact ⟨by rw [p0, p1, p3]; exact h⟩
  · repeat (first | exact B2 | refine But.setCell ?_ _ _ | refine But.drew ?_ | refine But.alloc ?_ _)
set_option maxHeartbeats 4000000 in
theorem accept_low3 {b : Nat} {size next : Int} {B : Nat} (n : Int) (r : Nat) (w : World) (W : Win w b size next B) (s0 : 0 ≤ size) (s1 : size ≤ 256) (n0 : 0 ≤ next) (n1 : next ≤ 4611686018427387905) (he : Hid (Px.refuse size next B n = 0)) (hn : ¬ next ≤ n) (hm : 0 ≤ n) (hq : (next - 1 - n) / 64 = 3) (hr : (next - 1 - n) % 64 = (r : Int)) :
    Calls Try.prog 10 #[.pointer (some ⟨b, 0, none⟩), .int .i64 n] w fun e' w' => e' = .returned (.int .i64 0) ∧ Win w' b size (Px.nextOf next n) (Px.bitsOf next B n) ∧ But b w w' := by
  have hr64 : r < 64 := by omega
  have hn' : ¬ next - 1 < n := by omega
  have e1 : Px.nextOf next n = next := by unfold Px.nextOf; rw [if_neg hn]
  have e2 : Px.bitsOf next B n = Px.put B (64 * 3 + r) := by unfold Px.bitsOf; rw [if_neg hn]; congr 1; omega
  have E1 := Lib.hid e1; have E2 := Lib.hid e2
  have O := orB B 3 r hr64
  have O2 := wrap2 r hr64
  have c5 := W.c5; have f5 := W.free 5
  have B2 := But.refl b w
  clear e1 e2
  go_enter Try.func10, Try.ntmps10
  go_wp2_with (first | (go_at_call 23; refine (refusal_any _ _ W s0 s1 n0 n1).mono ?_; rw [he.out]; rintro e w' ⟨rfl, rfl⟩) | ((with_reducible refine (top_any _ W n0 n1).mono ?_); rintro e w' ⟨rfl, rfl⟩))
  go_region
  go_wp2
  go_ret
  refine ⟨rfl, ?_, ?_⟩
  · rw [E1.out, E2.out]
    have h := Hp.blk_set (o := 5) (v := .int .u64 (Px.wd (Px.put B (64 * 3 + r)) 3)) W.blk
    have p0 := Px.put_other B 3 r 0 hr64 (by decide)
    have p1 := Px.put_other B 3 r 1 hr64 (by decide)
    have p2 := Px.put_other B 3 r 2 hr64 (by decide)
    exact ⟨by rw [p0, p1, p2]; exact h⟩
  · repeat (first | exact B2 | refine But.setCell ?_ _ _ | refine But.drew ?_ | refine But.alloc ?_ _)
theorem accept_yes {b : Nat} {size next : Int} {B : Nat} (n : Int) (w : World) (W : Win w b size next B) (s0 : 0 ≤ size) (s1 : size ≤ 256) (n0 : 0 ≤ next) (n1 : next ≤ 4611686018427387905) (he : Px.refuse size next B n = 0) :
    Calls Try.prog 10 #[.pointer (some ⟨b, 0, none⟩), .int .i64 n] w fun e' w' => e' = .returned (.int .i64 0) ∧ Win w' b size (Px.nextOf next n) (Px.bitsOf next B n) ∧ But b w w' := by
  have hr : ¬ (n < 0 ∨ 4611686018427387904 < n) := by intro h; unfold Px.refuse at he; rw [if_pos h] at he; omega
  have hs : ¬ size ≤ next - 1 - n := by intro h; unfold Px.refuse at he; rw [if_neg hr, if_pos h] at he; omega
  by_cases hn : next ≤ n
  · exact accept_up n w W s0 s1 n0 n1 he hn (by omega)
  · obtain ⟨r, hr⟩ : ∃ r : Nat, (next - 1 - n) % 64 = (r : Int) := ⟨((next - 1 - n) % 64).toNat, by omega⟩
    have : (next - 1 - n) / 64 = 0 ∨ (next - 1 - n) / 64 = 1 ∨ (next - 1 - n) / 64 = 2 ∨ (next - 1 - n) / 64 = 3 := by omega
    rcases this with hq | hq | hq | hq
    · exact accept_low0 n r w W s0 s1 n0 n1 he hn (by omega) hq hr
    · exact accept_low1 n r w W s0 s1 n0 n1 he hn (by omega) hq hr
    · exact accept_low2 n r w W s0 s1 n0 n1 he hn (by omega) hq hr
    · exact accept_low3 n r w W s0 s1 n0 n1 he hn (by omega) hq hr
end Go.Proofs.Ythmkckdjddgmhaa.PxW
