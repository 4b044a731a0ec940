/- The law ClusterOrders of layer 25. -/
import Derived.Test.YtbbdeagllhmdiaaLr
set_option linter.unusedVariables false
set_option linter.unusedSimpArgs false
namespace Go.Proofs.Ytbbdeagllhmdiaa.CxW
open Go.RowKit
open Go.Proofs.Ytbbdeagllhmdiaa.Kx
theorem in_rl {w : World} {a : Option Addr} {n cap : Nat} {z : Nat → Nat → Int} (h : In.IsStructs [.i64, .i64, .i64, .i64, .i64] w a n cap z) {l : List Cd} (hl : l.length = n) (S : Cs w a l.length (zof l)) : Rl w (.slice a l.length cap) l := by
  by_cases h0 : 0 < l.length
  · have S2 := S
    rcases S2.cells with e | ⟨b, o, ha, _, _⟩
    · omega
    · subst ha
      exact .inr ⟨h0, b, o, cap, rfl, by rw [hl]; exact h.lens.1, S⟩
  · have e : l = [] := List.eq_nil_of_length_eq_zero (by omega)
    subst e
    exact .inl ⟨rfl, a, cap, rfl⟩
set_option maxHeartbeats 8000000 in
theorem clusterorders_long (l : List Cd) (a : Option Addr) (c : Nat) (i : Int) (w : World) (h : 30 < l.length) :
    Calls Try.prog 3 #[.slice a l.length c, .int .i64 i] w fun e w' => e = .returned (.bool true) ∧ Below w.heap.size w w' := by
  have F := Lib.hid (show decide (l.length ≤ 30) = false from decide_eq_false (by omega))
  clear h
  go_enter Try.func3, Try.ntmps3
  go_wp2_with (fail)
  refine (few_at F _).mono ?_
  rintro en w1 ⟨rfl, rfl⟩
  go_wp2_with (fail)
  refine (awake25_any _).mono ?_
  rintro en w2 ⟨rfl, B2⟩
  have HB := Lib.hid B2
  clear B2
  go_wp2_with (fail)
  go_ret
  exact ⟨rfl, HB.out⟩
set_option maxHeartbeats 8000000 in
theorem orders_bad (l : List Cd) (a : Option Addr) (c : Nat) (i : Int) (w : World) (hl : l.length ≤ 30) (S : Rl w (.slice a l.length c) l) (h0 : a = none → l.length = 0 ∧ c = 0) {r : Int} (hr : Hid (Cx.chk l.length (zof l) = r)) (hr2 : (r != 0) = true) :
    Calls Try.prog 3 #[.slice a l.length c, .int .i64 i] w fun e w' => e = .returned (.bool true) ∧ Below w.heap.size w w' := by
  have F := Lib.hid (show decide (l.length ≤ 30) = true from decide_eq_true hl)
  have RD := Lib.hid (fun W (h : Rl W (.slice a l.length c) l) => show Cs W a l.length (zof l) from by
    obtain ⟨a', c', e, s⟩ := h.rd
    injection e with e1 _ _; subst e1; exact s)
  have S1 := Lib.hid S
  have SY := Lib.hid (fun W (S : Cs W a l.length (zof l)) => system_any l a c W S h0)
  have RS := Lib.hid (fun W (S : Rl W (.slice a l.length c) l) => rsystem_any l _ W S)
  have OR := Lib.hid (fun W (S : Cs W a l.length (zof l)) => order_bad l a c hr hr2 W S)
  have RO := Lib.hid (fun W (S : Rl W (.slice a l.length c) l) => rorder_bad l a c hr hr2 W (RD.out W S))
  have SP := Lib.hid (fun W (S : Cs W a l.length (zof l)) => spread_any l a c i W S)
  have RP := Lib.hid (fun W (S : Cs W a l.length (zof l)) => rSpread_any l a c i W S)
  obtain ⟨sv, hsv⟩ : ∃ q, sysV l = q := ⟨_, rfl⟩
  obtain ⟨sb, hsb⟩ : ∃ q, sysB l = q := ⟨_, rfl⟩
  obtain ⟨ss, hss⟩ : ∃ q, sprd l i = q := ⟨_, rfl⟩
  rw [hsv, hsb] at SY RS
  rw [hss] at SP RP
  clear S hl hsv hsb hss h0 hr hr2
  go_enter Try.func3, Try.ntmps3
  go_wp2_with (fail)
  refine (few_at F _).mono ?_
  rintro en w1 ⟨rfl, rfl⟩
  go_wp2_with (fail)
  refine (SY.out _ (RD.out _ S1.out)).mono ?_
  rintro en w2 ⟨rfl, B2⟩
  have HB2 := Lib.hid B2; have S2 := Lib.hid (S1.out.later B2)
  clear B2
  go_wp2_with (fail)
  refine (RS.out _ S2.out).mono ?_
  rintro en w3 ⟨rfl, B3⟩
  have HB3 := Lib.hid (bl_next HB2.out B3); have S3 := Lib.hid (S2.out.later B3)
  clear B3
  go_wp2_with (fail)
  refine (OR.out _ (RD.out _ S3.out)).mono ?_
  rintro en w4 ⟨rfl, B4⟩
  have HB4 := Lib.hid (bl_next HB3.out B4); have S4 := Lib.hid (S3.out.later B4)
  clear B4
  go_wp2_with (fail)
  refine (RO.out _ S4.out).mono ?_
  rintro en w5 ⟨rfl, B5⟩
  have HB5 := Lib.hid (bl_next HB4.out B5); have S5 := Lib.hid (S4.out.later B5)
  clear B5
  go_wp2_with (fail)
  refine (same_nil _).mono ?_
  rintro en w6 ⟨rfl, B6⟩
  have HB6 := Lib.hid (bl_next HB5.out B6); have S6 := Lib.hid (S5.out.later B6)
  clear B6
  go_wp2_with (fail)
  refine (SP.out _ (RD.out _ S6.out)).mono ?_
  rintro en w7 ⟨rfl, B7⟩
  have HB7 := Lib.hid (bl_next HB6.out B7); have S7 := Lib.hid (S6.out.later B7)
  clear B7
  go_wp2_with (fail)
  refine (RP.out _ (RD.out _ S7.out)).mono ?_
  rintro en w8 ⟨rfl, B8⟩
  have HB8 := Lib.hid (bl_next HB7.out B8)
  clear B8
  go_wp2_with (fail)
  refine (awake25_any _).mono ?_
  rintro en wz ⟨rfl, Bz⟩
  have HBz := Lib.hid (bl_next HB8.out Bz)
  clear Bz
  go_wp2_with (fail)
  go_ret
  exact ⟨rfl, HBz.out⟩
set_option maxHeartbeats 8000000 in
theorem orders_ok (l : List Cd) (a : Option Addr) (c : Nat) (i : Int) (w : World) (hl : l.length ≤ 30) (S : Rl w (.slice a l.length c) l) (h0 : a = none → l.length = 0 ∧ c = 0) (V : Val l) :
    Calls Try.prog 3 #[.slice a l.length c, .int .i64 i] w fun e w' => e = .returned (.bool true) ∧ Below w.heap.size w w' := by
  have F := Lib.hid (show decide (l.length ≤ 30) = true from decide_eq_true hl)
  have RD := Lib.hid (fun W (h : Rl W (.slice a l.length c) l) => show Cs W a l.length (zof l) from by
    obtain ⟨a', c', e, s⟩ := h.rd
    injection e with e1 _ _; subst e1; exact s)
  have S1 := Lib.hid S
  have SY := Lib.hid (fun W (S : Cs W a l.length (zof l)) => system_any l a c W S h0)
  have RS := Lib.hid (fun W (S : Rl W (.slice a l.length c) l) => rsystem_any l _ W S)
  have OR := Lib.hid (fun W (S : Cs W a l.length (zof l)) => order_ok l a c V W S h0)
  have RO := Lib.hid (fun W (S : Rl W (.slice a l.length c) l) => rorder_ok l V _ W S)
  have Q12 := V.ord.len
  have SP := Lib.hid (fun W (S : Cs W a l.length (zof l)) => spread_any l a c i W S)
  have RP := Lib.hid (fun W (S : Cs W a l.length (zof l)) => rSpread_any l a c i W S)
  obtain ⟨sv, hsv⟩ : ∃ q, sysV l = q := ⟨_, rfl⟩
  obtain ⟨sb, hsb⟩ : ∃ q, sysB l = q := ⟨_, rfl⟩
  obtain ⟨ss, hss⟩ : ∃ q, sprd l i = q := ⟨_, rfl⟩
  rw [hsv, hsb] at SY RS
  rw [hss] at SP RP
  obtain ⟨q, hq⟩ : ∃ q, ord l = q := ⟨_, rfl⟩
  rw [hq] at OR RO Q12
  clear S hl hsv hsb hss h0 V hq
  go_enter Try.func3, Try.ntmps3
  go_wp2_with (fail)
  refine (few_at F _).mono ?_
  rintro en w1 ⟨rfl, rfl⟩
  go_wp2_with (fail)
  refine (SY.out _ (RD.out _ S1.out)).mono ?_
  rintro en w2 ⟨rfl, B2⟩
  have HB2 := Lib.hid B2; have S2 := Lib.hid (S1.out.later B2)
  clear B2
  go_wp2_with (fail)
  refine (RS.out _ S2.out).mono ?_
  rintro en w3 ⟨rfl, B3⟩
  have HB3 := Lib.hid (bl_next HB2.out B3); have S3 := Lib.hid (S2.out.later B3)
  clear B3
  go_wp2_with (fail)
  refine (OR.out _ (RD.out _ S3.out)).mono ?_
  rintro en w4 ⟨v4, rfl, o4, B4⟩
  have HB4 := Lib.hid (bl_next HB3.out B4); have S4 := Lib.hid (S3.out.later B4)
  obtain ⟨a4, c4, rfl, s4⟩ := o4.rd
  have O4 := Lib.hid s4
  clear o4 s4
  clear B4
  go_wp2_with (fail)
  refine (RO.out _ S4.out).mono ?_
  rintro en w5 ⟨v5, rfl, o5, B5⟩
  have HB5 := Lib.hid (bl_next HB4.out B5); have S5 := Lib.hid (S4.out.later B5); have O5 := Lib.hid (O4.out.later B5)
  obtain ⟨a5, c5, rfl, s5, -⟩ := o5.rd
  have R5 := Lib.hid s5
  clear o5 s5
  clear B5
  go_wp2_with (fail)
  refine (same_list q a4 a5 c4 c5 Q12 _ O5.out R5.out).mono ?_
  rintro en w6 ⟨rfl, B6⟩
  have HB6 := Lib.hid (bl_next HB5.out B6); have S6 := Lib.hid (S5.out.later B6)
  clear B6
  go_wp2_with (fail)
  refine (SP.out _ (RD.out _ S6.out)).mono ?_
  rintro en w7 ⟨rfl, B7⟩
  have HB7 := Lib.hid (bl_next HB6.out B7); have S7 := Lib.hid (S6.out.later B7)
  clear B7
  go_wp2_with (fail)
  refine (RP.out _ (RD.out _ S7.out)).mono ?_
  rintro en w8 ⟨rfl, B8⟩
  have HB8 := Lib.hid (bl_next HB7.out B8)
  clear B8
  go_wp2_with (fail)
  refine (awake25_any _).mono ?_
  rintro en wz ⟨rfl, Bz⟩
  have HBz := Lib.hid (bl_next HB8.out Bz)
  clear Bz
  go_wp2_with (fail)
  go_ret
  exact ⟨rfl, HBz.out⟩
theorem law_ClusterOrders (a : Option Addr) (n c : Nat) (z : Nat → Nat → Int) (i : Int) (w : World) (S : In.IsStructs [.i64, .i64, .i64, .i64, .i64] w a n c z) :
    Calls Try.prog 3 #[.slice a n c, .int .i64 i] w fun e w' => e = .returned (.bool true) ∧ Below w.heap.size w w' := by
  obtain ⟨l, hl, s, h0⟩ := in_list S
  have R := in_rl S hl s
  subst hl
  by_cases h : 30 < l.length
  · exact clusterorders_long l a c i w h
  · by_cases hc : Cx.chk l.length (zof l) = 0
    · exact orders_ok l a c i w (by omega) R h0 ((val_iff l).1 hc)
    · exact orders_bad l a c i w (by omega) R h0 (Lib.hid rfl) (by simpa using hc)
end Go.Proofs.Ytbbdeagllhmdiaa.CxW
