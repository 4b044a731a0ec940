/- The law DiffconSolves of layer 51. -/
import Derived.Test.YtieggiplbghecaaBq
import Derived.Test.YtieggiplbghecaaBw
set_option linter.unusedVariables false
set_option linter.unusedSimpArgs false
namespace Go.Proofs.Ytieggiplbghecaa.BxW
open Go.RowKit Ls Orw Rv Rw
/-- a list that reads as f, and an error -/
def LPost (K : Nat) (f : Nat → Int) (E : Int) (w : World) (e : Ending) (w' : World) : Prop := ∃ a c, e = .returned (.tuple #[.slice a K c, .int .i64 E]) ∧ Is w' a K f ∧ Below w.heap.size w w'
theorem lp_err {E : Int} {w w' : World} {e : Ending} (h : ErrPost E w e w') : LPost 0 (fun _ => 0) E w e w' := ⟨none, 0, h.1, ⟨.inl rfl⟩, h.2⟩
theorem lp_own {n : Nat} {f : Nat → Int} {w w' : World} {e : Ending} (h : OwnPost n f w e w') : LPost n f 0 w e w' := by
  obtain ⟨g, he, o, _, b⟩ := h; exact ⟨_, _, he, o.is, b⟩
theorem lp_oc {n : Nat} {f : Nat → Int} {w w' : World} {e : Ending} (h : OcPost n f w e w') : LPost n f 0 w e w' := by
  obtain ⟨g, c, he, o, b⟩ := h; exact ⟨_, _, he, o.is, b⟩
theorem lp_ti {n : Nat} {f : Nat → Int} {w w' : World} {e : Ending} (h : TightPost n f w e w') : LPost n f 0 w e w' := by
  obtain ⟨g, he, o, _, b⟩ := h; exact ⟨_, _, he, o.is, b⟩
theorem solve_pair (n : Int) (m : Nat) (z : Nat → Nat → Int) : ∃ K f E, K ≤ 160 ∧ ∀ (a : Option Addr) (cap : Nat) (w : World), Ss 3 w a m z →
    Calls Try.prog 18 #[.int .i64 n, .slice a m cap] w (LPost K f E w) ∧ Calls Try.prog 19 #[.int .i64 n, .slice a m cap] w (LPost K f E w) := by
  by_cases hc : Bx.chk n m z = 0
  · obtain ⟨n1, n2, V⟩ := Bx.vs_of hc
    obtain ⟨k, rfl⟩ := Int.eq_ofNat_of_zero_le (show 0 ≤ n by omega)
    rw [Int.toNat_natCast] at V
    by_cases hs : Bx.St k z m (k - 1)
    · refine ⟨k, Bx.bf z m (k - 1), 0, V.n2, fun a cap w S => ⟨(solve_ok k a m cap z V hs w S).mono fun _ _ h => lp_own h, (rsolve_two k a m cap z V w S).mono fun _ _ h => ?_⟩⟩
      rcases h with ⟨_, h⟩ | ⟨h, _⟩
      · exact lp_oc h
      · exact absurd hs h
    · refine ⟨0, fun _ => 0, 20, by omega, fun a cap w S => ⟨(solve_cyc k a m cap z V hs w S).mono fun _ _ h => lp_err h, (rsolve_two k a m cap z V w S).mono fun _ _ h => ?_⟩⟩
      rcases h with ⟨h, _⟩ | ⟨_, h⟩
      · exact absurd h hs
      · exact lp_err h
  · have hr : (Bx.chk n m z != 0) = true := by simpa using hc
    exact ⟨0, fun _ => 0, Bx.chk n m z, by omega, fun a cap w S => ⟨(solve_bad n a m cap z (Lib.hid rfl) hr w S).mono fun _ _ h => lp_err h, (rsolve_bad n a m cap z (Lib.hid rfl) hr w S).mono fun _ _ h => lp_err h⟩⟩
theorem tight_pair (n : Int) (m : Nat) (z : Nat → Nat → Int) (i j : Int) : ∃ K f E, K ≤ 160 ∧ ∀ (a : Option Addr) (cap : Nat) (w : World), Ss 3 w a m z →
    Calls Try.prog 20 #[.int .i64 n, .slice a m cap, .int .i64 i, .int .i64 j] w (LPost K f E w) ∧ Calls Try.prog 21 #[.int .i64 n, .slice a m cap, .int .i64 i, .int .i64 j] w (LPost K f E w) := by
  by_cases hc : Bx.chk n m z = 0
  · obtain ⟨n1, n2, V⟩ := Bx.vs_of hc
    obtain ⟨k, rfl⟩ := Int.eq_ofNat_of_zero_le (show 0 ≤ n by omega)
    rw [Int.toNat_natCast] at V
    by_cases hij : 0 ≤ i ∧ i < (k : Int) ∧ 0 ≤ j ∧ j < (k : Int)
    · obtain ⟨h1, h2, h3, h4⟩ := hij
      obtain ⟨i, rfl⟩ := Int.eq_ofNat_of_zero_le h1
      obtain ⟨j, rfl⟩ := Int.eq_ofNat_of_zero_le h3
      have hi : i < k := by omega
      have hj : j < k := by omega
      by_cases hs : Bx.St k z m (k - 1)
      · by_cases hf : Bx.F z m k i j = 4611686018427387904
        · refine ⟨0, fun _ => 0, 11, by omega, fun a cap w S => ⟨(tight_none k a m cap z V hs i j hi hj hf w S).mono fun _ _ h => lp_err h, (rtight_any k a m cap z V i j hi hj w S).mono fun _ _ h => ?_⟩⟩
          rcases h with ⟨h, _⟩ | ⟨_, _, h⟩ | ⟨_, h, _⟩
          · exact absurd hs h
          · exact lp_err h
          · exact absurd hf h
        · refine ⟨k, _, 0, V.n2, fun a cap w S => ⟨(tight_ok k a m cap z V hs i j hi hj hf w S).mono fun _ _ h => lp_ti h, (rtight_any k a m cap z V i j hi hj w S).mono fun _ _ h => ?_⟩⟩
          rcases h with ⟨h, _⟩ | ⟨_, h, _⟩ | ⟨_, _, h⟩
          · exact absurd hs h
          · exact absurd h hf
          · exact lp_own h
      · refine ⟨0, fun _ => 0, 20, by omega, fun a cap w S => ⟨(tight_cyc k a m cap z V hs i j hi hj w S).mono fun _ _ h => lp_err h, (rtight_any k a m cap z V i j hi hj w S).mono fun _ _ h => ?_⟩⟩
        rcases h with ⟨_, h⟩ | ⟨h, _⟩ | ⟨h, _⟩
        · exact lp_err h
        · exact absurd h hs
        · exact absurd h hs
    · have h : i < 0 ∨ (0 ≤ i ∧ (k : Int) ≤ i) ∨ (0 ≤ i ∧ i < (k : Int) ∧ j < 0) ∨ (0 ≤ i ∧ i < (k : Int) ∧ 0 ≤ j ∧ (k : Int) ≤ j) := by omega
      exact ⟨0, fun _ => 0, 3, by omega, fun a cap w S => ⟨(tight_range k a m cap z V i j h w S).mono fun _ _ h => lp_err h, (rtight_range k a m cap z V i j h w S).mono fun _ _ h => lp_err h⟩⟩
  · have hr : (Bx.chk n m z != 0) = true := by simpa using hc
    exact ⟨0, fun _ => 0, Bx.chk n m z, by omega, fun a cap w S => ⟨(tight_bad n a m cap z (Lib.hid rfl) hr i j w S).mono fun _ _ h => lp_err h, (rtight_bad n a m cap z (Lib.hid rfl) hr i j w S).mono fun _ _ h => lp_err h⟩⟩
set_option maxHeartbeats 8000000 in
set_option maxRecDepth 4000 in
theorem law_DiffconSolves (n : Int) (a : Option Addr) (m cap : Nat) (z : Nat → Nat → Int) (i j : Int) (w : World) (S : In.IsStructs [.i64, .i64, .i64] w a m cap z) :
    Calls Try.prog 4 #[.int .i64 n, .slice a m cap, .int .i64 i, .int .i64 j] w fun e w' => e = .returned (.bool true) ∧ Below w.heap.size w w' := by
  have hS := Lib.hid (ss_of S)
  clear S
  by_cases h : 4100 < m
  · have d : decide (4100 < m) = true := decide_eq_true h
    have L := Lib.hid (fun w => d ▸ long_any a m cap w)
    clear d
    go_enter Try.func4, Try.ntmps4
    go_wp2_with (fail)
    refine (L.out _).mono ?_
    rintro en w1 ⟨rfl, rfl⟩
    go_wp2_with (fail)
    refine (awake51_any _).mono ?_
    rintro en w3 ⟨rfl, B3⟩
    have HB3 := Lib.hid B3
    clear B3
    go_wp2_with (fail)
    go_ret
    exact ⟨rfl, HB3.out⟩
  · have d : decide (4100 < m) = false := decide_eq_false h
    have L := Lib.hid (fun w => d ▸ long_any a m cap w)
    obtain ⟨K, f, E, hK, P1⟩ := solve_pair n m z
    obtain ⟨K2, f2, E2, hK2, P2⟩ := tight_pair n m z i j
    have Q1 := Lib.hid P1; have Q2 := Lib.hid P2
    clear d P1 P2
    go_enter Try.func4, Try.ntmps4
    go_wp2_with (fail)
    refine (L.out _).mono ?_
    rintro en w1 ⟨rfl, rfl⟩
    go_wp2_with (fail)
    refine (Q1.out a cap _ hS.out).1.mono ?_
    rintro en w1 ⟨a1, c1, rfl, I1, B1⟩
    have HB1 := Lib.hid B1; have S1 := Lib.hid (hS.out.later B1); have J1 := Lib.hid I1
    clear B1 I1
    go_wp2_with (fail)
    refine (Q1.out a cap _ S1.out).2.mono ?_
    rintro en w2 ⟨a2, c2, rfl, I2, B2⟩
    have HB2 := Lib.hid (bl_next HB1.out B2); have S2 := Lib.hid (S1.out.later B2); have J2 := Lib.hid (J1.out.later B2); have K2' := Lib.hid I2
    clear B2 I2
    go_wp2_with (fail)
    refine (Q2.out a cap _ S2.out).1.mono ?_
    rintro en w3 ⟨a3, c3, rfl, I3, B3⟩
    have HB3 := Lib.hid (bl_next HB2.out B3); have S3 := Lib.hid (S2.out.later B3); have J3 := Lib.hid (J2.out.later B3); have K3 := Lib.hid (K2'.out.later B3); have L3 := Lib.hid I3
    clear B3 I3
    go_wp2_with (fail)
    refine (Q2.out a cap _ S3.out).2.mono ?_
    rintro en w4 ⟨a4, c4, rfl, I4, B4⟩
    have HB4 := Lib.hid (bl_next HB3.out B4); have J4 := Lib.hid (J3.out.later B4); have K4 := Lib.hid (K3.out.later B4); have L4 := Lib.hid (L3.out.later B4); have M4 := Lib.hid I4
    clear B4 I4
    go_wp2_with (fail)
    refine (equal_same _ J4.out K4.out (by omega)).mono ?_
    rintro en w5 ⟨rfl, q, rfl⟩
    have HB5 := Lib.hid (Hp.drewN HB4.out q); have L5 := Lib.hid (L4.out.drewN q); have M5 := Lib.hid (M4.out.drewN q)
    go_wp2_with (fail)
    refine (equal_same _ L5.out M5.out (by omega)).mono ?_
    rintro en w6 ⟨rfl, q2, rfl⟩
    have HB6 := Lib.hid (Hp.drewN HB4.out (q + q2))
    go_wp2_with (fail)
    refine (awake51_any _).mono ?_
    rintro en w7 ⟨rfl, B7⟩
    have HB7 := Lib.hid (bl_next HB6.out B7)
    clear B7
    go_wp2_with (fail)
    go_ret
    exact ⟨rfl, HB7.out⟩
end Go.Proofs.Ytieggiplbghecaa.BxW
