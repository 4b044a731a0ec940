/- The law StabilityOne of layer 48. -/
import Derived.Test.YtbidogefodfakaaYld
set_option linter.unusedVariables false
set_option linter.unusedSimpArgs false
namespace Go.Proofs.Ytbidogefodfakaa.YxW
open Go.RowKit Ls Orw Rw
def flatB (f : Nat → Int) (k : Nat) : Bool := decide (∀ i, i < k → f i = 0)
theorem flat_succ (f : Nat → Int) (k : Nat) : flatB f (k + 1) = (flatB f k && decide (f k = 0)) := by
  rw [Bool.eq_iff_iff]; unfold flatB
  simp only [Bool.and_eq_true, decide_eq_true_eq]
  constructor
  · intro h; exact ⟨fun i hi => h i (by omega), h k (by omega)⟩
  · rintro ⟨h1, h2⟩ i hi
    by_cases e : i = k
    · rw [e]; exact h2
    · exact h1 i (by omega)
/-- what is known of Allan at distance one of a short list -/
structure OneF (K : Nat) (y : Nat → Int) (N D E : Int) : Prop where
  big : E = 0 → 0 ≤ N ∧ 1 ≤ D ∧ N ≤ 9223372036854775807 ∧ D ≤ 2000 ∧ Int.gcd N D = 1 ∧ ((N = 0 ∧ D = 1) ↔ flatB (Yx.sd y 1) (K - 2) = true)
  over : E ≠ 0 → E = 4 ∧ N = 0 ∧ D = 0 ∧ flatB (Yx.sd y 1) (K - 2) = false
theorem one_facts {K : Nat} {y : Nat → Int} (hK : 3 ≤ K) (hK2 : K ≤ 1000) (hc : Yx.chk K y = 0) : OneF K y (Yx.alN K y 1) (Yx.alD K y 1) (Yx.alE K y 1) := by
  have n1 : (1 : Int).toNat = 1 := rfl
  have e2 : K - 2 * 1 = K - 2 := by omega
  have fl : Yx.sqs (Yx.sd y 1) (K - 2) = 0 ↔ flatB (Yx.sd y 1) (K - 2) = true := by
    rw [Yx.sqs_zero]; unfold flatB; simp
  have s0 := Yx.sqs_nonneg (Yx.sd y 1) (K - 2)
  by_cases g : Yx.sqs (Yx.sd y 1) (K - 2) ≤ 9223372036854775807
  · have ok : Yx.alOk K y 1 := ⟨hc, by omega, by omega, by rw [n1, e2]; exact g⟩
    have eE : Yx.alE K y 1 = 0 := by unfold Yx.alE; rw [if_pos hc, if_pos ⟨by omega, by omega⟩, n1, e2]; exact (sqV_yes g).2
    refine ⟨fun _ => ?_, fun h => absurd eE h⟩
    unfold Yx.alN Yx.alD
    rw [if_pos ok, if_pos ok, n1, e2]
    obtain ⟨a, b, c, d, e, f⟩ := Yx.low_terms (s := Yx.sqs (Yx.sd y 1) (K - 2)) (c := 2 * ((K : Int) - 2 * 1)) s0 (by omega)
    exact ⟨a, b, by omega, by omega, e, f.trans fl⟩
  · have no : ¬ Yx.alOk K y 1 := fun ⟨_, _, _, h⟩ => by rw [n1, e2] at h; exact g h
    have eE : Yx.alE K y 1 = 4 := by unfold Yx.alE; rw [if_pos hc, if_pos ⟨by omega, by omega⟩, n1, e2]; exact (sqV_no g).2
    refine ⟨fun h => by rw [eE] at h; omega, fun _ => ⟨eE, by unfold Yx.alN; rw [if_neg no], by unfold Yx.alD; rw [if_neg no], ?_⟩⟩
    cases hf : flatB (Yx.sd y 1) (K - 2)
    · rfl
    · have := fl.2 hf; omega
theorem one_short {K : Nat} {y : Nat → Int} (hK : K < 3) (hc : Yx.chk K y = 0) : Yx.alN K y 1 = 0 ∧ Yx.alD K y 1 = 0 ∧ Yx.alE K y 1 = 3 := by
  have no : ¬ Yx.alOk K y 1 := fun ⟨_, _, h, _⟩ => by omega
  refine ⟨by unfold Yx.alN; rw [if_neg no], by unfold Yx.alD; rw [if_neg no], ?_⟩
  unfold Yx.alE; rw [if_pos hc, if_neg (by omega)]
set_option maxHeartbeats 8000000 in
theorem law_StabilityOne (a : Option Addr) (n cap : Nat) (zs : List Int) (w : World) (S : In.IsInts .i32 w a n cap zs) :
    Calls Try.prog 7 #[.slice a n cap] w fun e w' => e = .returned (.bool true) ∧ Below w.heap.size w w' := by
  obtain ⟨l1, l2⟩ := S.lens
  have h0 : a = none → n = 0 ∧ cap = 0 := fun h => by
    rcases S with ⟨_, p, q, _⟩ | ⟨x, hx, _⟩
    · exact ⟨p, q⟩
    · rw [h] at hx; cases hx
  have hx := xs_bd S
  have HI := Lib.hid (I32.of S); have H0 := Lib.hid h0; have HX := Lib.hid hx
  obtain ⟨K, hK⟩ : ∃ K, min n 1000 = K := ⟨_, rfl⟩
  have hKm : K ≤ 1000 := by omega
  have hx2 : ∀ i, i < K → -2147483648 ≤ xs zs i ∧ xs zs i ≤ 2147483647 := fun i hi => hx i (by omega)
  have ch1 := Yx.lin_chk (a := 0) (b := 0) hKm hx2 (by omega) (by omega) (by omega) (by omega)
  have bd := Yx.lin_bd (a := 0) (b := 0) hKm hx2 (by omega) (by omega) (by omega) (by omega)
  obtain ⟨y, hy⟩ : ∃ y, Yx.lin (xs zs) 0 0 = y := ⟨_, rfl⟩
  rw [hy] at ch1 bd
  have EO := Lib.hid (Yx.one_eq K y)
  have HK := Lib.hid hK; have HY := Lib.hid hy; have BD := Lib.hid bd; have CH := Lib.hid ch1
  have HF := Lib.hid (fun h : 3 ≤ K => one_facts h hKm ch1)
  have HS := Lib.hid (fun h : K < 3 => one_short h ch1)
  obtain ⟨N, hN⟩ : ∃ r, Yx.alN K y 1 = r := ⟨_, rfl⟩
  obtain ⟨D, hD⟩ : ∃ r, Yx.alD K y 1 = r := ⟨_, rfl⟩
  obtain ⟨E, hE⟩ : ∃ r, Yx.alE K y 1 = r := ⟨_, rfl⟩
  have HN := Lib.hid hN; have HD := Lib.hid hD; have HE := Lib.hid hE
  clear S h0 hx hx2 ch1 bd hK hy hN hD hE
  go_enter Try.func7, Try.ntmps7
  go_wp2_with (fail)
  refine (line_any a n cap (xs zs) 0 0 _ HI.out l1 l2 H0.out HX.out (by omega) (by omega) (by omega) (by omega)).mono ?_
  rw [HK.out, HY.out]
  rintro en w1 ⟨v1, c1, rfl, hcp, I1, hv1, B1⟩
  have HB1 := Lib.hid B1; have HL1 := Lib.hid I1
  have hc1 : (K : Int) ≤ (c1 : Int) := by omega
  have hc2 : (c1 : Int) ≤ 9223372036854775807 := by omega
  clear I1 B1 hv1 hcp
  go_wp2_with (fail)
  refine (allan_any v1 K c1 _ 1 _ HL1.out (by omega)).mono ?_
  rw [HN.out, HD.out, HE.out]
  rintro en w2 ⟨rfl, B2⟩
  have HB2 := Lib.hid (bl_next HB1.out B2); have HL2 := Lib.hid (is_alloc (HL1.out.later B2) (RO N D)); have G2 := Lib.hid (RB.new w2 N D)
  clear B2 HB1 HL1
  go_wp2_with (fail)
  refine (modified_any v1 K c1 _ 1 _ HL2.out (by omega)).mono ?_
  rw [EO.out.1, EO.out.2.1, EO.out.2.2, HN.out, HD.out, HE.out]
  rintro en w3 ⟨rfl, B3⟩
  have HB3 := Lib.hid ((bl_alloc HB2.out B3).alloc (bl_alloc HB2.out B3).size (RO N D)); have HL3 := Lib.hid (is_alloc (HL2.out.later B3) (RO N D)); have G2b := Lib.hid ((G2.out.later B3).alloc (RO N D)); have G3 := Lib.hid (RB.new w3 N D)
  have lt2 : w2.heap.size < w3.heap.size := Hp.blk_lt (G2.out.later B3).h
  clear B3 HB2 HL2 G2
  have p0 := (G2b.out).c0; have p1 := (G2b.out).c1
  by_cases hK3 : K < 3
  · obtain ⟨e1, e2, e3⟩ := HS.out hK3
    have s1 : N = 0 := HN.out.symm.trans e1
    have s2 : D = 0 := HD.out.symm.trans e2
    have s3 : E = 3 := HE.out.symm.trans e3
    subst s1 s2 s3
    have k3 : (K : Int) < 3 := by omega
    clear e1 e2 e3 HF HS
    go_wp2_with (fail)
    refine (awake48_any _).mono ?_
    rintro en w4 ⟨rfl, B4⟩
    have HB4 := Lib.hid (bl_next HB3.out B4)
    clear B4
    go_wp2_with (fail)
    go_ret
    exact ⟨rfl, HB4.out⟩
  · have F := Lib.hid (HF.out (by omega))
    obtain ⟨M, rfl⟩ : ∃ M, K = M + 2 := ⟨K - 2, by omega⟩
    have F2 : Hid (OneF (M + 2) y N D E) := Lib.hid (by have := F.out; rw [HN.out, HD.out, HE.out] at this; exact this)
    have k3 : ¬ (M : Int) + 2 < 3 := by omega
    have hm1 : (M : Int) ≤ 998 := by omega
    obtain ⟨b, o, rfl, hb, hcell⟩ := HL3.out.addr (by omega)
    have HCell := Lib.hid hcell
    have q0 := G3.out.c0; have q1 := G3.out.c1
    clear F HF HS hcell HN HD HE EO
    go_wp2_with (fail)
    clear q0 q1
    go_loopw [55, 8] (fun c f wr => ∃ k : Nat, k ≤ M ∧ c = .int .i64 k ∧ f = .bool (flatB (Yx.sd y 1) k) ∧ ∃ q, wr = (w3.alloc (RO N D)).drewN q) (fun c _ _ => M - (intOf c).toNat)
    case atStart => exact ⟨0, by omega, rfl, by simp [flatB], 0, rfl⟩
    case round =>
      obtain ⟨k, hk, rfl, rfl, q, rfl⟩ := hrel
      by_cases hlt : k < M
      · have HFl := Lib.hid (flat_succ (Yx.sd y 1) k)
        obtain ⟨fb, hfb⟩ : ∃ fb, flatB (Yx.sd y 1) k = fb := ⟨_, rfl⟩
        have HFb := Lib.hid hfb
        rw [hfb]
        clear hfb
        cases fb
        · go_wp2_with (fail)
          go_quiet (fail)
          go_wp2_with (fail)
          go_roundw
          case rel => exact ⟨k + 1, by omega, by go_num, by rw [HFl.out, HFb.out]; rfl, _, rfl⟩
          case measure => simp [intOf]; omega
        · have x0 := HCell.out k (by omega); have x1 := HCell.out (k + 1) (by omega); have x2 := HCell.out (k + 2) (by omega)
          have y0 := BD.out k (by omega); have y1 := BD.out (k + 1) (by omega); have y2 := BD.out (k + 2) (by omega)
          have ESd : Hid (Yx.sd y 1 k = y (k + 2) - 2 * y (k + 1) + y k) := Lib.hid rfl
          obtain ⟨p, hp⟩ : ∃ p, y k = p := ⟨_, rfl⟩
          obtain ⟨u, hu⟩ : ∃ p, y (k + 1) = p := ⟨_, rfl⟩
          obtain ⟨r, hr⟩ : ∃ p, y (k + 2) = p := ⟨_, rfl⟩
          rw [hp] at x0 y0; rw [hu] at x1 y1; rw [hr] at x2 y2
          have E2 : Hid (Yx.sd y 1 k = r - 2 * u + p) := Lib.hid (by rw [ESd.out, hp, hu, hr])
          have y00 := y0.1; have y01 := y0.2; have y10 := y1.1; have y11 := y1.2; have y20 := y2.1; have y21 := y2.2
          have W1 : IntKind.i64.wrap ((k : Int) + 2) = (k : Int) + 2 := IntWalk.i64_in _ (by omega)
          have W2 : IntKind.i64.wrap ((k : Int) + 1) = (k : Int) + 1 := IntWalk.i64_in _ (by omega)
          have W4 : IntKind.i64.wrap (2 * u) = 2 * u := IntWalk.i64_in _ (by omega)
          have W5 : IntKind.i64.wrap (r - 2 * u) = r - 2 * u := IntWalk.i64_in _ (by omega)
          have W6 : IntKind.i64.wrap (r - 2 * u + p) = r - 2 * u + p := IntWalk.i64_in _ (by omega)
          have T2 : ((k : Int) + 2).toNat = k + 2 := by omega
          have T3 : ((k : Int) + 1).toNat = k + 1 := by omega
          have m1 : k < M + 2 := by omega
          have m2 : k + 1 < M + 2 := by omega
          have m3 : k + 2 < M + 2 := by omega
          have m4 : (k : Int) < (M : Int) + 2 := by omega
          have m5 : (k : Int) + 1 < (M : Int) + 2 := by omega
          have m6 : (k : Int) + 2 < (M : Int) + 2 := by omega
          clear hp hu hr y0 y1 y2 ESd
          go_wp2_with (fail)
          go_quiet (fail)
          clear W1 W2 W4 W5 W6 T2 T3
          go_wp2_with (fail)
          go_roundw
          case rel => exact ⟨k + 1, by omega, by go_num, by rw [HFl.out, HFb.out, E2.out]; first | rfl | simp, _, rfl⟩
          case measure => simp [intOf]; omega
      · obtain rfl : k = M := by omega
        obtain ⟨fb, hfb⟩ : ∃ fb, flatB (Yx.sd y 1) k = fb := ⟨_, rfl⟩
        have HFb := Lib.hid hfb
        rw [hfb]
        clear hfb
        have g2 := G2b.out
        have p0 := g2.c0; have p1 := g2.c1
        by_cases he : E = 0
        · have big := F2.out.big he
          subst he
          rw [Nat.add_sub_cancel, HFb.out] at big
          obtain ⟨n0, d1, n1, d2, hg, hfl⟩ := big
          have HG := Lib.hid hg; have HFl := Lib.hid hfl
          clear hg hfl g2 F2
          go_wp2_with (fail)
          go_quiet (fail)
          go_wp2_with (fail)
          go_loopw [10, 11] (fun a b wr => ∃ p q : Int, 0 ≤ p ∧ 0 ≤ q ∧ p ≤ 9223372036854775807 ∧ q ≤ 9223372036854775807 ∧ a = .int .i64 p ∧ b = .int .i64 q ∧ Int.gcd p q = 1 ∧ ∃ j, wr = (w3.alloc (RO N D)).drewN j) (fun _ b _ => (intOf b).toNat)
          case atStart => exact ⟨N, D, by omega, by omega, by omega, by omega, rfl, rfl, HG.out, q + nq, by rw [World.drewN_drewN]⟩
          case round =>
            obtain ⟨u, v, u0, v0, u1, v1, rfl, rfl, hg, j, rfl⟩ := hrel
            have HG2 := Lib.hid hg
            clear hg
            by_cases hv : v = 0
            · subst hv
              have hu1 : u = 1 := by have := HG2.out; rw [Int.gcd_zero_right] at this; omega
              subst hu1
              have hcase : (fb = true ∧ N = 0 ∧ D = 1) ∨ (fb = false ∧ (N == 0) = false) ∨ (fb = false ∧ N = 0 ∧ (D == 1) = false) := by
                have h := HFl.out
                by_cases g : N = 0 ∧ D = 1
                · exact .inl ⟨h.1 g, g⟩
                · have hf : fb = false := by
                    cases fb
                    · rfl
                    · exact absurd (h.2 rfl) g
                  by_cases g2 : N = 0
                  · exact .inr (.inr ⟨hf, g2, by simp; exact fun e => g ⟨g2, e⟩⟩)
                  · exact .inr (.inl ⟨hf, by simpa using g2⟩)
              have HBq := Lib.hid (Hp.drewN HB3.out j)
              rcases hcase with ⟨rfl, rfl, rfl⟩ | ⟨rfl, hq⟩ | ⟨rfl, rfl, hq⟩
              all_goals
                go_wp2_with (fail)
                refine (awake48_any _).mono ?_
                rintro en w4 ⟨rfl, B4⟩
                have HB4 := Lib.hid (bl_next HBq.out B4)
                clear B4
                go_wp2_with (fail)
                go_ret
                exact ⟨rfl, HB4.out⟩
            · have hvp : 0 < v := by omega
              have e1 := Lib.hid (gcd_step u0 hvp)
              have b1 := Int.emod_nonneg u hv; have b2 := Int.emod_lt_of_pos u hvp
              have e2 : u.tmod v = u % v := Int.tmod_eq_emod_of_nonneg u0
              go_wp2_with (fail)
              go_quiet (fail)
              go_wp2_with (fail)
              go_roundw
              case rel => exact ⟨v, u % v, by omega, by omega, by omega, by omega, rfl, rfl, by rw [e1.out, HG2.out], j + nq, by rw [World.drewN_drewN]⟩
              case measure => simp only [intOf]; omega
        · obtain ⟨s1, s2, s3, s4⟩ := F2.out.over he
          rw [Nat.add_sub_cancel, HFb.out] at s4
          subst s1 s2 s3 s4
          clear g2 F2 he
          go_wp2_with (fail)
          refine (awake48_any _).mono ?_
          rintro en w4 ⟨rfl, B4⟩
          have HB4 := Lib.hid (bl_next (Hp.drewN HB3.out q) B4)
          clear B4
          go_wp2_with (fail)
          go_ret
          exact ⟨rfl, HB4.out⟩
end Go.Proofs.Ytbidogefodfakaa.YxW
