/- The law ClusterPrunes of layer 25. -/
import Derived.Test.YtbbdeagllhmdiaaLo
set_option linter.unusedVariables false
set_option linter.unusedSimpArgs false
namespace Go.Proofs.Ytbbdeagllhmdiaa.CxW
open Go.RowKit
open Go.Proofs.Ytbbdeagllhmdiaa.Kx
set_option maxHeartbeats 8000000 in
theorem clusterprunes_long (l : List Cd) (a : Option Addr) (c : Nat) (i : Int) (w : World) (h : 30 < l.length) :
    Calls Try.prog 4 #[.slice a l.length c, .int .i64 i] w fun e w' => e = .returned (.bool true) ∧ Below w.heap.size w w' := by
  have F := Lib.hid (show decide (l.length ≤ 30) = false from decide_eq_false (by omega))
  clear h
  go_enter Try.func4, Try.ntmps4
  go_wp2_with (fail)
  refine (few_at F _).mono ?_
  rintro en w1 ⟨rfl, rfl⟩
  go_wp2_with (fail)
  refine (awake25_any _).mono ?_
  rintro en w2 ⟨rfl, B2⟩
  have HB := Lib.hid B2
  clear B2
  go_wp2_with (fail)
  go_ret
  exact ⟨rfl, HB.out⟩
set_option maxHeartbeats 8000000 in
theorem prunes_bad (l : List Cd) (a : Option Addr) (c : Nat) (keep : Int) (w : World) (hl : l.length ≤ 30) (S : Rl w (.slice a l.length c) l) (h0 : a = none → l.length = 0 ∧ c = 0) {r : Int} (hr : Hid (Cx.chk l.length (zof l) = r)) (hr2 : (r != 0) = true) :
    Calls Try.prog 4 #[.slice a l.length c, .int .i64 keep] w fun e w' => e = .returned (.bool true) ∧ Below w.heap.size w w' := by
  have F := Lib.hid (show decide (l.length ≤ 30) = true from decide_eq_true hl)
  have RD := Lib.hid (fun W (h : Rl W (.slice a l.length c) l) => show Cs W a l.length (zof l) from by
    obtain ⟨a', c', e, s⟩ := h.rd
    injection e with e1 _ _; subst e1; exact s)
  have S1 := Lib.hid S
  have PR := Lib.hid (fun W (S : Cs W a l.length (zof l)) => prune_bad l a c hr hr2 keep W S)
  have RP := Lib.hid (fun W (S : Rl W (.slice a l.length c) l) => rprune_bad l a c hr hr2 keep W (RD.out W S))
  clear S hl hr hr2 h0
  go_enter Try.func4, Try.ntmps4
  go_wp2_with (fail)
  refine (few_at F _).mono ?_
  rintro en w1 ⟨rfl, rfl⟩
  go_wp2_with (fail)
  refine (PR.out _ (RD.out _ S1.out)).mono ?_
  rintro en w2 ⟨rfl, B2⟩
  have HB2 := Lib.hid B2; have S2 := Lib.hid (S1.out.later B2)
  clear B2
  go_wp2_with (fail)
  refine (RP.out _ S2.out).mono ?_
  rintro en w3 ⟨rfl, B3⟩
  have HB3 := Lib.hid (bl_next HB2.out B3)
  clear B3
  go_wp2_with (fail)
  refine (same_nil _).mono ?_
  rintro en w4 ⟨rfl, B4⟩
  have HB4 := Lib.hid (bl_next HB3.out B4)
  clear B4
  go_wp2_with (fail)
  refine (awake25_any _).mono ?_
  rintro en wz ⟨rfl, Bz⟩
  have HBz := Lib.hid (bl_next HB4.out Bz)
  clear Bz
  go_wp2_with (fail)
  go_ret
  exact ⟨rfl, HBz.out⟩
set_option maxHeartbeats 8000000 in
theorem prunes_range (l : List Cd) (a : Option Addr) (c : Nat) (keep : Int) (w : World) (hl : l.length ≤ 30) (S : Rl w (.slice a l.length c) l) (h0 : a = none → l.length = 0 ∧ c = 0) (V : Val l) (hk : keep < 1) :
    Calls Try.prog 4 #[.slice a l.length c, .int .i64 keep] w fun e w' => e = .returned (.bool true) ∧ Below w.heap.size w w' := by
  have F := Lib.hid (show decide (l.length ≤ 30) = true from decide_eq_true hl)
  have RD := Lib.hid (fun W (h : Rl W (.slice a l.length c) l) => show Cs W a l.length (zof l) from by
    obtain ⟨a', c', e, s⟩ := h.rd
    injection e with e1 _ _; subst e1; exact s)
  have S1 := Lib.hid S
  have PR := Lib.hid (fun W (S : Cs W a l.length (zof l)) => prune_range l a c V keep hk W S)
  have RP := Lib.hid (fun W (S : Rl W (.slice a l.length c) l) => rprune_range l a c V keep hk W (RD.out W S))
  clear S hl V hk h0
  go_enter Try.func4, Try.ntmps4
  go_wp2_with (fail)
  refine (few_at F _).mono ?_
  rintro en w1 ⟨rfl, rfl⟩
  go_wp2_with (fail)
  refine (PR.out _ (RD.out _ S1.out)).mono ?_
  rintro en w2 ⟨rfl, B2⟩
  have HB2 := Lib.hid B2; have S2 := Lib.hid (S1.out.later B2)
  clear B2
  go_wp2_with (fail)
  refine (RP.out _ S2.out).mono ?_
  rintro en w3 ⟨rfl, B3⟩
  have HB3 := Lib.hid (bl_next HB2.out B3)
  clear B3
  go_wp2_with (fail)
  refine (same_nil _).mono ?_
  rintro en w4 ⟨rfl, B4⟩
  have HB4 := Lib.hid (bl_next HB3.out B4)
  clear B4
  go_wp2_with (fail)
  refine (awake25_any _).mono ?_
  rintro en wz ⟨rfl, Bz⟩
  have HBz := Lib.hid (bl_next HB4.out Bz)
  clear Bz
  go_wp2_with (fail)
  go_ret
  exact ⟨rfl, HBz.out⟩
set_option maxHeartbeats 8000000 in
theorem prunes_ok (l : List Cd) (a : Option Addr) (c : Nat) (keep : Int) (w : World) (hl : l.length ≤ 30) (S : Rl w (.slice a l.length c) l) (h0 : a = none → l.length = 0 ∧ c = 0) (V : Val l) (hk : 1 ≤ keep) :
    Calls Try.prog 4 #[.slice a l.length c, .int .i64 keep] w fun e w' => e = .returned (.bool true) ∧ Below w.heap.size w w' := by
  have F := Lib.hid (show decide (l.length ≤ 30) = true from decide_eq_true hl)
  have RD := Lib.hid (fun W (h : Rl W (.slice a l.length c) l) => show Cs W a l.length (zof l) from by
    obtain ⟨a', c', e, s⟩ := h.rd
    injection e with e1 _ _; subst e1; exact s)
  have S1 := Lib.hid S
  have PR := Lib.hid (fun W (S : Cs W a l.length (zof l)) => prune_ok l a c V keep hk W S h0)
  have RP := Lib.hid (fun W (S : Rl W (.slice a l.length c) l) => rprune_ok l V _ keep hk W S)
  have Q12 := (prune_val V keep).len
  obtain ⟨q, hq⟩ : ∃ q, prune keep l = q := ⟨_, rfl⟩
  rw [hq] at PR RP Q12
  clear S hl V hk h0 hq
  go_enter Try.func4, Try.ntmps4
  go_wp2_with (fail)
  refine (few_at F _).mono ?_
  rintro en w1 ⟨rfl, rfl⟩
  go_wp2_with (fail)
  refine (PR.out _ (RD.out _ S1.out)).mono ?_
  rintro en w2 ⟨v2, rfl, o2, B2⟩
  have HB2 := Lib.hid B2; have S2 := Lib.hid (S1.out.later B2)
  obtain ⟨a2, c2, rfl, s2⟩ := o2.rd
  have O2 := Lib.hid s2
  clear o2 s2
  clear B2
  go_wp2_with (fail)
  refine (RP.out _ S2.out).mono ?_
  rintro en w3 ⟨v3, rfl, o3, B3⟩
  have HB3 := Lib.hid (bl_next HB2.out B3); have O3 := Lib.hid (O2.out.later B3)
  obtain ⟨a3, c3, rfl, s3⟩ := o3.rd
  have R3 := Lib.hid s3
  clear o3 s3
  clear B3
  go_wp2_with (fail)
  refine (same_list q a2 a3 c2 c3 Q12 _ O3.out R3.out).mono ?_
  rintro en w4 ⟨rfl, B4⟩
  have HB4 := Lib.hid (bl_next HB3.out B4)
  clear B4
  go_wp2_with (fail)
  refine (awake25_any _).mono ?_
  rintro en wz ⟨rfl, Bz⟩
  have HBz := Lib.hid (bl_next HB4.out Bz)
  clear Bz
  go_wp2_with (fail)
  go_ret
  exact ⟨rfl, HBz.out⟩
theorem law_ClusterPrunes (a : Option Addr) (n c : Nat) (z : Nat → Nat → Int) (keep : Int) (w : World) (S : In.IsStructs [.i64, .i64, .i64, .i64, .i64] w a n c z) :
    Calls Try.prog 4 #[.slice a n c, .int .i64 keep] w fun e w' => e = .returned (.bool true) ∧ Below w.heap.size w w' := by
  obtain ⟨l, hl, s, h0⟩ := in_list S
  have R := in_rl S hl s
  subst hl
  by_cases h : 30 < l.length
  · exact clusterprunes_long l a c keep w h
  · by_cases hc : Cx.chk l.length (zof l) = 0
    · by_cases hk : keep < 1
      · exact prunes_range l a c keep w (by omega) R h0 ((val_iff l).1 hc) hk
      · exact prunes_ok l a c keep w (by omega) R h0 ((val_iff l).1 hc) (by omega)
    · exact prunes_bad l a c keep w (by omega) R h0 (Lib.hid rfl) (by simpa using hc)
end Go.Proofs.Ytbbdeagllhmdiaa.CxW
