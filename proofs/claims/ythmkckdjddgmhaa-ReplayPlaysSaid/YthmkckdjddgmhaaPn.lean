/- awake of the statements about layer 45, and the law ReplayNobody. -/
import Derived.Test.YthmkckdjddgmhaaPm
set_option linter.unusedVariables false
set_option linter.unusedSimpArgs false
namespace Go.Proofs.Ythmkckdjddgmhaa.PxW
open Go.RowKit

theorem accept_at {b : Nat} {size next next' : Int} {B B' : Nat} (n : Int) (h1 : Hid (Px.refuse size next B n = 0)) (h2 : Hid (Px.nextOf next n = next')) (h3 : Hid (Px.bitsOf next B n = B')) (w : World) (W : Win w b size next B) (s0 : 0 ≤ size) (s1 : size ≤ 256) (n0 : 0 ≤ next) (n1 : next ≤ 4611686018427387905) :
    Calls Try.prog 10 #[.pointer (some ⟨b, 0, none⟩), .int .i64 n] w fun e' w' => e' = .returned (.int .i64 0) ∧ Win w' b size next' B' ∧ But b w w' := by
  have h := accept_yes n w W s0 s1 n0 n1 h1.out
  rw [h2.out, h3.out] at h; exact h
theorem missing_at {b : Nat} {size next : Int} {B : Nat} {m : Int} (h : Hid ((Px.miss B (min size next).toNat : Int) = m)) (w : World) (W : Win w b size next B) (s0 : 0 ≤ size) (s1 : size ≤ 256) (n0 : 0 ≤ next) :
    Calls Try.prog 11 #[.pointer (some ⟨b, 0, none⟩)] w fun e' w' => e' = .returned (.int .i64 m) ∧ ∃ n, w' = w.drewN n := by
  have := missing_any w W s0 s1 n0; rw [h.out] at this; exact this
theorem can_at {b : Nat} {size next : Int} {B : Nat} {n e : Int} {c : Bool} (h : Hid (Px.refuse size next B n = e)) (h2 : Hid ((e == 0) = c)) (w : World) (W : Win w b size next B) (s0 : 0 ≤ size) (s1 : size ≤ 256) (n0 : 0 ≤ next) (n1 : next ≤ 4611686018427387905) :
    Calls Try.prog 16 #[.pointer (some ⟨b, 0, none⟩), .int .i64 n] w fun e w' => e = .returned (.bool c) ∧ w = w' := by
  have := can_any n w W s0 s1 n0 n1; rw [h.out, h2.out] at this; exact this
set_option maxHeartbeats 4000000 in
set_option maxRecDepth 100000 in
theorem awake45_any (w : World) :
    Calls Try.prog 13 #[] w fun e w' => e = .returned (.bool true) ∧ Below w.heap.size w w' := by
  have a1 := Lib.hid (show Px.refuse 4 0 0 5 = 0 by decide +kernel)
  have a2 := Lib.hid (show Px.nextOf 0 5 = 6 by decide +kernel)
  have a3 := Lib.hid (show Px.bitsOf 0 0 5 = 1 by decide +kernel)
  have b1 := Lib.hid (show Px.refuse 4 6 1 3 = 0 by decide +kernel)
  have b2 := Lib.hid (show Px.nextOf 6 3 = 6 by decide +kernel)
  have b3 := Lib.hid (show Px.bitsOf 6 1 3 = 5 by decide +kernel)
  have c1 := Lib.hid (show Px.refuse 4 6 5 2 = 0 by decide +kernel)
  have c2 := Lib.hid (show Px.nextOf 6 2 = 6 by decide +kernel)
  have c3 := Lib.hid (show Px.bitsOf 6 5 2 = 13 by decide +kernel)
  have d1 := Lib.hid (show Px.refuse 4 6 13 3 = 10 by decide +kernel)
  have e1 := Lib.hid (show Px.refuse 4 6 13 1 = 17 by decide +kernel)
  have m1 := Lib.hid (show ((Px.miss 13 (min 4 6 : Int).toNat : Nat) : Int) = 1 by decide +kernel)
  have k1 := Lib.hid (show Px.refuse 4 6 13 4 = 0 by decide +kernel)
  have k2 := Lib.hid (show Px.refuse 4 6 13 5 = 10 by decide +kernel)
  have t1 := Lib.hid (show ((0 : Int) == 0) = true from rfl)
  have t2 := Lib.hid (show ((10 : Int) == 0) = false from rfl)
  go_enter Try.func13, Try.ntmps13
  go_wp2_with (fail)
  refine (new_yes 4 (by omega) (by omega) _).mono ?_
  rintro e w1 ⟨rfl, W1, B1⟩
  go_wp2_with (fail)
  refine (accept_at 5 a1 a2 a3 _ W1 (by omega) (by omega) (by omega) (by omega)).mono ?_
  rintro e w2 ⟨rfl, W2, B2⟩
  go_wp2_with (fail)
  refine (accept_at 3 b1 b2 b3 _ W2 (by omega) (by omega) (by omega) (by omega)).mono ?_
  rintro e w3 ⟨rfl, W3, B3⟩
  go_wp2_with (fail)
  refine (accept_at 2 c1 c2 c3 _ W3 (by omega) (by omega) (by omega) (by omega)).mono ?_
  rintro e w4 ⟨rfl, W4, B4⟩
  go_wp2_with (fail)
  refine (accept_no 3 _ W4 (by omega) (by omega) (by omega) (by omega) 10 d1 rfl).mono ?_
  rintro e w' ⟨rfl, rfl⟩
  go_wp2_with (fail)
  refine (accept_no 1 _ W4 (by omega) (by omega) (by omega) (by omega) 17 e1 rfl).mono ?_
  rintro e w' ⟨rfl, rfl⟩
  go_wp2_with (fail)
  refine (missing_at m1 _ W4 (by omega) (by omega) (by omega)).mono ?_
  rintro e w' ⟨rfl, nq, rfl⟩
  go_wp2_with (fail)
  refine (top_any _ W4.drewN (by omega) (by omega)).mono ?_
  rintro e w' ⟨rfl, rfl⟩
  go_wp2_with (fail)
  refine (can_at k1 t1 _ W4.drewN (by omega) (by omega) (by omega) (by omega)).mono ?_
  rintro e w' ⟨rfl, rfl⟩
  go_wp2_with (fail)
  refine (can_at k2 t2 _ W4.drewN (by omega) (by omega) (by omega) (by omega)).mono ?_
  rintro e w' ⟨rfl, rfl⟩
  go_wp2
  go_ret
  refine ⟨rfl, Hp.drewN ?_ _⟩
  have s1 := W1.lt; have s2 := W2.lt; have s3 := W3.lt
  exact B4.toBelow (Nat.le_refl _) (B3.toBelow (Nat.le_refl _) (B2.toBelow (Nat.le_refl _) B1 (by omega)) (by omega)) (by omega)
end Go.Proofs.Ythmkckdjddgmhaa.PxW
