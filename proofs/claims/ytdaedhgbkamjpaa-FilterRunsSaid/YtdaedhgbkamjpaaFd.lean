/- The contract of math/bits.Div64 at a quotient that fits. -/
import Derived.Test.YtdaedhgbkamjpaaFw
import Derived.Test.YtdaedhgbkamjpaaShelf
import Derived.Test.YtdaedhgbkamjpaaDv
import Derived.LoopTactic
import Derived.Deep.CutBlock
import Derived.Deep.DeepCutAuto
set_option linter.unusedVariables false
set_option linter.unusedSimpArgs false
namespace Go.Proofs.Ytdaedhgbkamjpaa.FxW
open Go.RowKit

set_option maxHeartbeats 1000000 in
theorem div64_small (lo y : Int) (l0 : 0 ≤ lo) (l1 : lo ≤ 18446744073709551615) (y0 : 0 < y) (y1 : y ≤ 18446744073709551615) (w : World) :
    Calls Try.prog 59 #[.int .u64 0, .int .u64 lo, .int .u64 y] w fun e w' => e = .returned (.tuple #[.int .u64 (lo / y), .int .u64 (lo % y)]) ∧ ∃ n, w' = w.drewN n := by
  have hz : (y == 0) = false := by simp; omega
  have h0 : y ≠ 0 := by omega
  go_enter Try.func59, Try.ntmps59
  go_wp2
  go_quiet (fail)
  go_wp2
  go_ret2
  exact ⟨rfl, nq, rfl⟩

theorem wrapu (a : Nat) : IntKind.u64.wrap (a : Int) = ((a % 18446744073709551616 : Nat) : Int) := by rw [IntKind.wrap_u64]; omega
theorem wrapu_in {a : Nat} (h : a < 18446744073709551616) : IntKind.u64.wrap (a : Int) = (a : Int) := by rw [IntKind.wrap_u64]; omega
theorem wrapu_mul {a b : Nat} (h : a * b < 18446744073709551616) : IntKind.u64.wrap ((a : Int) * (b : Int)) = ((a * b : Nat) : Int) := by
  rw [← Int.natCast_mul]; exact wrapu_in h
theorem maskB (a : Nat) (ha : a < 18446744073709551616) : bits .and .u64 (a : Int) 4294967295 = ((a % 4294967296 : Nat) : Int) := M64.maskN a ha
/-- a digit's rest, as the walk has it -/
theorem digit_rest {U d Y q : Nat} (hq : q = Dv.dig U d Y) (hY0 : 0 < Y) (hY : Y < 18446744073709551616) :
    IntKind.u64.wrap (IntKind.u64.wrap (IntKind.u64.wrap ((U : Int) * 4294967296) + (d : Int)) - IntKind.u64.wrap ((q : Int) * (Y : Int))) = (((U * 4294967296 + d) % Y : Nat) : Int) := by
  have l := Dv.dig_mul_le U d Y
  have m := Dv.dig_mod U d Y
  have b := Nat.mod_lt (U * 4294967296 + d) hY0
  rw [← hq] at l m
  rw [← Int.natCast_mul, IntKind.wrap_u64, IntKind.wrap_u64, IntKind.wrap_u64, IntKind.wrap_u64]
  generalize q * Y = t at *
  omega

set_option maxRecDepth 100000 in
set_option maxHeartbeats 2000000 in
theorem div64_norm (hi lo y s Y Y1 Y0 U V V1 V0 : Nat) (h0 : 0 < hi) (h1 : hi < y) (l1 : lo ≤ 18446744073709551615) (y1 : y ≤ 18446744073709551615) (hs1 : s < 64) (w : World)
    (L : Hid (∀ w, Calls Try.prog 74 #[.int .u64 (y : Int)] w fun e w' => e = .returned (.int .i64 (s : Int)) ∧ w = w'))
    (r1 : IntKind.u64.wrap ((y : Int) * 2 ^ s) = (Y : Int)) (r2 : (Y : Int) / 4294967296 = (Y1 : Int)) (r3 : bits .and .u64 (Y : Int) 4294967295 = (Y0 : Int))
    (r4 : bits .or .u64 (IntKind.u64.wrap ((hi : Int) * 2 ^ s)) ((lo : Int) / 2 ^ (64 - s)) = (U : Int))
    (r5 : IntKind.u64.wrap ((lo : Int) * 2 ^ s) = (V : Int)) (r6 : (V : Int) / 4294967296 = (V1 : Int)) (r7 : bits .and .u64 (V : Int) 4294967295 = (V0 : Int))
    (hY : Hid (Y = Y1 * 4294967296 + Y0)) (b0 : Y0 < 4294967296) (b1 : 2147483648 ≤ Y1) (b2 : Y1 < 4294967296) (bU : U < Y) (bV0 : V0 < 4294967296) (bV1 : V1 < 4294967296) (bY : Y < 18446744073709551616) :
    Calls Try.prog 59 #[.int .u64 hi, .int .u64 lo, .int .u64 y] w fun e w' => e = .returned (.tuple #[.int .u64 (((((U * 4294967296 + V1) * 4294967296 + V0) / Y : Nat)) : Int), .int .u64 (((((U * 4294967296 + V1) * 4294967296 + V0) % Y / 2 ^ s : Nat)) : Int)]) ∧ w = w' := by
  have hz : ((y : Int) == 0) = false := by simp; omega
  have hz2 : ((hi : Int) == 0) = false := by simp; omega
  have e1 : IntKind.u64.wrap ((U : Int) / (Y1 : Int)) = ((U / Y1 : Nat) : Int) := by
    rw [← Int.natCast_ediv]; exact wrapu_in (by have := Nat.div_le_self U Y1; omega)
  have e2 : IntKind.u64.wrap ((U : Int) - IntKind.u64.wrap (((U / Y1 : Nat) : Int) * (Y1 : Int))) = ((U % Y1 : Nat) : Int) := by
    have := Nat.div_add_mod U Y1
    have l := Nat.mod_lt U (y := Y1) (by omega)
    rw [← Int.natCast_mul, wrapu, IntKind.wrap_u64]
    rw [Nat.mul_comm] at this
    generalize U / Y1 * Y1 = t at *
    omega
  have H1 := Dv.head_start hY.out b0 b1 b2 bU bV1
  have h1' : ¬ y ≤ hi := by omega
  generalize hq0 : U / Y1 = q0 at *
  generalize hr0 : U % Y1 = r0 at *
  clear h0 h1 hq0 hr0
  have b0' : (Y0 : Int) < 4294967296 := by omega
  have b1' : 2147483648 ≤ (Y1 : Int) := by omega
  have b2' : (Y1 : Int) < 4294967296 := by omega
  have bd' : (V1 : Int) < 4294967296 := by omega
  have be' : (V0 : Int) < 4294967296 := by omega
  have T1 := Dv.dig_lt bU bV1
  have m1 := Nat.mod_lt (U * 4294967296 + V1) (y := Y) (by omega)
  have f1 := digit_rest (U := U) (d := V1) (Y := Y) rfl (by omega) bY
  have H2 := fun R h => Dv.head_start (U := R) (d := V0) hY.out b0 b1 b2 h bV0
  have two := Dv.dig_two (U := U) (V1 := V1) (V0 := V0) (Y := Y) (by omega)
  obtain ⟨R, hR⟩ : ∃ R, R = (U * 4294967296 + V1) % Y := ⟨_, rfl⟩
  rw [← hR] at f1 m1 two
  have F1 := Lib.hid f1; have HH2 := Lib.hid H2; have TW := Lib.hid two; have HR := Lib.hid hR; have HT1 := Lib.hid T1; have HM1 := Lib.hid m1; have HH1 := Lib.hid H1
  clear f1 H2 two hR T1 m1 H1
  have bU' : (U : Int) < (Y : Int) := by omega
  have bY' : (Y : Int) < 18446744073709551616 := by omega
  have UY := Lib.hid bU; have dV1 := Lib.hid bV1; have dV0 := Lib.hid bV0
  clear b2 bU bV0 bV1 bY
  replace b1 := Lib.hid (show 0 < Y1 by omega)
  replace b0 := Lib.hid b0
  go_enter Try.func59, Try.ntmps59
  go_upto_block 0 with (go_at_call 74; refine (L.out _).mono ?_; rintro e w' ⟨rfl, rfl⟩)
  go_cut [15, 16] (fun a b w' => a = .int .u64 ((Dv.dig U V1 Y : Nat) : Int) ∧ w = w')
  case first =>
    go_wp2_with (fail)
    go_loop [15, 16] (fun a b => ∃ q r : Nat, a = .int .u64 (q : Int) ∧ b = .int .u64 (r : Int) ∧ Dv.Head U V1 Y Y1 q r) (fun a _ => (intOf a).toNat)
    case atStart => exact ⟨q0, r0, rfl, rfl, HH1.out⟩
    case round =>
      obtain ⟨q, r, rfl, rfl, H⟩ := hrel
      have H' := Lib.hid H
      have sm' : (r : Int) < 4294967296 := by have := H.small; omega
      have nr' : (q : Int) ≤ 4294967297 := by have := H.near; omega
      clear H HH1 e1 e2 r1 r2 r3 r4 r5 r6 r7 hz hz2 L h1' l1 y1 hs1
      by_cases hq : 4294967296 ≤ (q : Int)
      · by_cases hb : 4294967296 ≤ (r : Int) + (Y1 : Int)
        · have X := Lib.hid (Dv.out_break hY.out b0.out b1.out UY.out dV1.out H'.out (.inl (by omega)) hb)
          go_wp2
          go_meet
          exact ⟨by rw [X.out], rfl⟩
        · have X := Lib.hid (Dv.again hY.out UY.out dV1.out H'.out (.inl (by omega)) hb)
          go_wp2
          go_round
          case rel => obtain ⟨q', r', x1, x2, x3⟩ := X.out; exact ⟨q', r', by rw [x1], by rw [x2], x3⟩
          case measure => simp [intOf]; omega
      · have ht : IntKind.u64.wrap ((q : Int) * (Y0 : Int)) = ((q * Y0 : Nat) : Int) :=
          wrapu_mul (by have : q * Y0 ≤ 4294967295 * 4294967295 := Nat.mul_le_mul (by omega) (by omega); omega)
        have hX := Lib.hid (fun c hb => Dv.out_break hY.out b0.out b1.out UY.out dV1.out H'.out (.inr c) hb)
        have hA := Lib.hid (fun c hb => Dv.again hY.out UY.out dV1.out H'.out (.inr c) hb)
        have hT := Lib.hid (fun c => Dv.out_test hY.out b0.out b1.out H'.out c)
        have hS := Lib.hid (fun c => (Dv.head_step hY.out UY.out dV1.out H'.out (.inr c)).1)
        generalize q * Y0 = t at ht hX hA hT hS
        by_cases hc : 4294967296 * (r : Int) + (V1 : Int) < (t : Int)
        · have q1' : 1 ≤ (q : Int) := by have := hS.out (by omega); omega
          by_cases hb : 4294967296 ≤ (r : Int) + (Y1 : Int)
          · have X := Lib.hid (hX.out (by omega) hb)
            clear hX hA hT hS
            go_wp2
            go_meet
            exact ⟨by rw [X.out], rfl⟩
          · have X := Lib.hid (hA.out (by omega) hb)
            clear hX hA hT hS
            go_wp2
            go_round
            case rel => obtain ⟨q', r', x1, x2, x3⟩ := X.out; exact ⟨q', r', by rw [x1], by rw [x2], x3⟩
            case measure => simp [intOf]; omega
        · have X := Lib.hid (hT.out (by omega))
          clear hX hA hT hS
          go_wp2
          go_meet
          exact ⟨by rw [X.out], rfl⟩
  case rest =>
    obtain ⟨rfl, rfl⟩ := hcut
    have e3 : IntKind.u64.wrap ((R : Int) / (Y1 : Int)) = ((R / Y1 : Nat) : Int) := by
      have := HM1.out
      rw [← Int.natCast_ediv]; exact wrapu_in (by have := Nat.div_le_self R Y1; omega)
    have e4 : IntKind.u64.wrap ((R : Int) - IntKind.u64.wrap (((R / Y1 : Nat) : Int) * (Y1 : Int))) = ((R % Y1 : Nat) : Int) := by
      have := HM1.out
      have := Nat.div_add_mod R Y1
      have l := Nat.mod_lt R (y := Y1) b1.out
      rw [← Int.natCast_mul, wrapu, IntKind.wrap_u64]
      rw [Nat.mul_comm] at this
      generalize R / Y1 * Y1 = t at *
      omega
    have HS := HH2.out R HM1.out
    have RY := HM1
    have f2 := Lib.hid (digit_rest (U := R) (d := V0) (Y := Y) rfl (by have := b1.out; have := hY.out; omega) (by omega))
    have b3 := Lib.hid (Dv.dig_lt HM1.out dV0.out)
    generalize R / Y1 = q1 at *
    generalize R % Y1 = r1' at *
    have HS' := Lib.hid HS
    have f1' := F1.out
    clear HS e1 e2 r1 r2 r3 r4 r5 r6 r7 hz hz2 L h1' l1 y1
    go_upto_block 2 with (fail)
    go_cut [15, 16, 18] (fun a b c w' => a = .int .u64 ((Dv.dig U V1 Y : Nat) : Int) ∧ c = .int .u64 ((Dv.dig R V0 Y : Nat) : Int) ∧ w = w')
    case first =>
      go_wp2_with (fail)
      go_loop [18, 16] (fun a b => ∃ q r : Nat, a = .int .u64 (q : Int) ∧ b = .int .u64 (r : Int) ∧ Dv.Head R V0 Y Y1 q r) (fun a _ => (intOf a).toNat)
      case atStart => exact ⟨q1, r1', rfl, rfl, HS'.out⟩
      case round =>
        obtain ⟨q, r, rfl, rfl, H⟩ := hrel
        have H' := Lib.hid H
        have sm' : (r : Int) < 4294967296 := by have := H.small; omega
        have nr' : (q : Int) ≤ 4294967297 := by have := H.near; omega
        clear H HS' f1' e3 e4
        by_cases hq : 4294967296 ≤ (q : Int)
        · by_cases hb : 4294967296 ≤ (r : Int) + (Y1 : Int)
          · have X := Lib.hid (Dv.out_break hY.out b0.out b1.out HM1.out dV0.out H'.out (.inl (by omega)) hb)
            go_wp2
            go_meet
            exact ⟨rfl, by rw [X.out], rfl⟩
          · have X := Lib.hid (Dv.again hY.out HM1.out dV0.out H'.out (.inl (by omega)) hb)
            go_wp2
            go_round
            case rel => obtain ⟨q', r', x1, x2, x3⟩ := X.out; exact ⟨q', r', by rw [x1], by rw [x2], x3⟩
            case measure => simp [intOf]; omega
        · have ht : IntKind.u64.wrap ((q : Int) * (Y0 : Int)) = ((q * Y0 : Nat) : Int) :=
            wrapu_mul (by have : q * Y0 ≤ 4294967295 * 4294967295 := Nat.mul_le_mul (by omega) (by omega); omega)
          have hX := Lib.hid (fun c hb => Dv.out_break hY.out b0.out b1.out HM1.out dV0.out H'.out (.inr c) hb)
          have hA := Lib.hid (fun c hb => Dv.again hY.out HM1.out dV0.out H'.out (.inr c) hb)
          have hT := Lib.hid (fun c => Dv.out_test hY.out b0.out b1.out H'.out c)
          have hS := Lib.hid (fun c => (Dv.head_step hY.out HM1.out dV0.out H'.out (.inr c)).1)
          generalize q * Y0 = t at ht hX hA hT hS
          by_cases hc : 4294967296 * (r : Int) + (V0 : Int) < (t : Int)
          · have q1' : 1 ≤ (q : Int) := by have := hS.out (by omega); omega
            by_cases hb : 4294967296 ≤ (r : Int) + (Y1 : Int)
            · have X := Lib.hid (hX.out (by omega) hb)
              clear hX hA hT hS
              go_wp2
              go_meet
              exact ⟨rfl, by rw [X.out], rfl⟩
            · have X := Lib.hid (hA.out (by omega) hb)
              clear hX hA hT hS
              go_wp2
              go_round
              case rel => obtain ⟨q', r', x1, x2, x3⟩ := X.out; exact ⟨q', r', by rw [x1], by rw [x2], x3⟩
              case measure => simp [intOf]; omega
          · have X := Lib.hid (hT.out (by omega))
            clear hX hA hT hS
            go_wp2
            go_meet
            exact ⟨rfl, by rw [X.out], rfl⟩
    case rest =>
      obtain ⟨rfl, rfl, rfl⟩ := hcut
      have f2' := f2.out
      clear e3 e4 f1' HS'
      have e5 : IntKind.u64.wrap (IntKind.u64.wrap (((Dv.dig U V1 Y : Nat) : Int) * 4294967296) + ((Dv.dig R V0 Y : Nat) : Int)) = ((((U * 4294967296 + V1) * 4294967296 + V0) / Y : Nat) : Int) := by
        have := HT1.out; have := b3.out
        rw [← TW.out.1, IntKind.wrap_u64, IntKind.wrap_u64]; omega
      have FF := Lib.hid TW.out.2
      go_wp2
      go_ret2
      refine ⟨ret_uu ?_ ?_, rfl⟩
      · rw [Int.natCast_ediv]; simp
      · rw [← FF.out]; simp
/-- the quotient and the rest of two words by one that is greater than the high word -/
theorem div64_pos (hi lo y : Nat) (h0 : 0 < hi) (h1 : hi < y) (l1 : lo ≤ 18446744073709551615) (y1 : y ≤ 18446744073709551615) (w : World) :
    Calls Try.prog 59 #[.int .u64 hi, .int .u64 lo, .int .u64 y] w fun e w' => e = .returned (.tuple #[.int .u64 (((hi * 18446744073709551616 + lo) / y : Nat) : Int), .int .u64 (((hi * 18446744073709551616 + lo) % y : Nat) : Int)]) ∧ w = w' := by
  obtain ⟨s, hs, hs1, p1, p2⟩ := Dv.bitLen_facts y (by omega) (by omega)
  have hs' : (64 - (Lib.bitLen ((y : Int)).toNat : Int)) = (s : Int) := by rw [Int.toNat_natCast]; omega
  have L : ∀ w, Calls Try.prog 74 #[.int .u64 (y : Int)] w fun e w' => e = .returned (.int .i64 (s : Int)) ∧ w = w' := fun w => by
    have := Try.bits_LeadingZeros64 (y : Int) w (by omega) (by omega)
    rw [hs'] at this
    exact this.mono fun e w' h => ⟨h.1, h.2.symm⟩
  have hp : 0 < 2 ^ s := Nat.two_pow_pos s
  have hh : hi * 2 ^ s + 2 ^ s ≤ y * 2 ^ s := by rw [← Nat.succ_mul]; exact Nat.mul_le_mul_right _ h1
  have hl : lo / 2 ^ (64 - s) < 2 ^ s := by
    rw [Nat.div_lt_iff_lt_mul (Nat.two_pow_pos _), ← Nat.pow_add, Nat.add_sub_cancel' (by omega)]; omega
  have hV : lo * 2 ^ s = lo / 2 ^ (64 - s) * 18446744073709551616 + lo * 2 ^ s % 18446744073709551616 := by
    have e : (18446744073709551616 : Nat) = 2 ^ (64 - s) * 2 ^ s := by rw [← Nat.pow_add, Nat.sub_add_cancel (by omega)]
    have d : lo * 2 ^ s / 18446744073709551616 = lo / 2 ^ (64 - s) := by rw [e, Nat.mul_div_mul_right _ _ hp]
    rw [← d]; omega
  have N : (((hi * 2 ^ s + lo / 2 ^ (64 - s)) * 4294967296 + lo * 2 ^ s % 18446744073709551616 / 4294967296) * 4294967296 + lo * 2 ^ s % 18446744073709551616 % 4294967296) = (hi * 18446744073709551616 + lo) * 2 ^ s := by
    rw [Nat.add_mul (hi * 18446744073709551616), Nat.mul_right_comm hi]
    generalize lo * 2 ^ s = t at hV ⊢
    generalize lo / 2 ^ (64 - s) = a at hV ⊢
    generalize hi * 2 ^ s = c
    omega
  have q := div64_norm hi lo y s (y * 2 ^ s) (y * 2 ^ s / 4294967296) (y * 2 ^ s % 4294967296) (hi * 2 ^ s + lo / 2 ^ (64 - s)) (lo * 2 ^ s % 18446744073709551616)
    (lo * 2 ^ s % 18446744073709551616 / 4294967296) (lo * 2 ^ s % 18446744073709551616 % 4294967296) h0 h1 l1 y1 hs1 w (Lib.hid L)
    (by rw [show ((2 : Int) ^ s) = ((2 ^ s : Nat) : Int) from by simp]; exact wrapu_mul p1) (by omega) (maskB _ p1)
    (by
      rw [show ((2 : Int) ^ s) = ((2 ^ s : Nat) : Int) from by simp, show ((2 : Int) ^ (64 - s)) = ((2 ^ (64 - s) : Nat) : Int) from by simp, wrapu_mul (by omega), ← Int.natCast_ediv]
      rw [bits_or_u64_nat _ _ (by omega) (by omega), Dv.join _ _ hl])
    (by rw [show ((2 : Int) ^ s) = ((2 ^ s : Nat) : Int) from by simp, ← Int.natCast_mul]; exact wrapu _)
    (by omega) (maskB _ (by omega)) (Lib.hid (by omega)) (by omega) (by omega) (by omega) (by omega) (by omega) (by omega) p1
  rw [N] at q
  obtain ⟨n1, n2⟩ := Dv.norm (hi * 18446744073709551616 + lo) y s
  rw [n1, n2] at q
  exact q
theorem div64_any (hi lo y : Int) (h0 : 0 ≤ hi) (h1 : hi < y) (l0 : 0 ≤ lo) (l1 : lo ≤ 18446744073709551615) (y1 : y ≤ 18446744073709551615) (w : World) :
    Calls Try.prog 59 #[.int .u64 hi, .int .u64 lo, .int .u64 y] w fun e w' => e = .returned (.tuple #[.int .u64 ((hi * 18446744073709551616 + lo) / y), .int .u64 ((hi * 18446744073709551616 + lo) % y)]) ∧ ∃ n, w' = w.drewN n := by
  by_cases h : hi = 0
  · subst h
    rw [Int.zero_mul, Int.zero_add]
    exact div64_small lo y l0 l1 (by omega) y1 w
  · obtain ⟨a, rfl⟩ := Int.eq_ofNat_of_zero_le h0
    obtain ⟨b, rfl⟩ := Int.eq_ofNat_of_zero_le l0
    obtain ⟨c, rfl⟩ := Int.eq_ofNat_of_zero_le (show 0 ≤ y by omega)
    have q := div64_pos a b c (by omega) (by omega) (by omega) (by omega) w
    rw [Int.natCast_ediv, Int.natCast_emod, Int.natCast_add, Int.natCast_mul] at q
    exact q.mono fun e w' h => ⟨h.1, 0, h.2.symm⟩
end Go.Proofs.Ytdaedhgbkamjpaa.FxW
