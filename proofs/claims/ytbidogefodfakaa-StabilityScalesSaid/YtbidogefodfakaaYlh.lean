/- The law StabilityScales of layer 48. -/
import Derived.Test.YtbidogefodfakaaYlg
set_option linter.unusedVariables false
set_option linter.unusedSimpArgs false
namespace Go.Proofs.Ytbidogefodfakaa.YxW
open Go.RowKit Ls Orw Rw
/-- all that the law asks of a list and its multiple -/
structure ScF (K : Nat) (x : Nat → Int) (m k A r e rm : Int) (c d c' d' f p q p' q' g : Int) : Prop where
  r1 : Yx.rng K x m = r
  r2 : Yx.rng K (Yx.mul x k) m = rm
  e1 : Yx.rngE K x m = e
  e2 : Yx.rngE K (Yx.mul x k) m = e
  a1 : Yx.alN K x m = c
  a2 : Yx.alD K x m = d
  a3 : Yx.alE K x m = f
  a4 : Yx.alN K (Yx.mul x k) m = c'
  a5 : Yx.alD K (Yx.mul x k) m = d'
  a6 : Yx.alE K (Yx.mul x k) m = f
  m1 : Yx.moN K x m = p
  m2 : Yx.moD K x m = q
  m3 : Yx.moE K x m = g
  m4 : Yx.moN K (Yx.mul x k) m = p'
  m5 : Yx.moD K (Yx.mul x k) m = q'
  m6 : Yx.moE K (Yx.mul x k) m = g
  s1 : r * A = rm
  s2 : Yx.eqK c' d' c d (A * A) = true
  s3 : Yx.eqK p' q' p q (A * A) = true
  i1 : 0 ≤ c' ∧ c' ≤ 9223372036854775807
  i2 : 0 ≤ d ∧ d ≤ 9223372036854775807
  i3 : 0 ≤ p' ∧ p' ≤ 9223372036854775807
  i4 : 0 ≤ q ∧ q ≤ 9223372036854775807
  i5 : 0 ≤ rm ∧ rm ≤ 2199023255552
theorem scf {K : Nat} {x : Nat → Int} {k : Int} (hx : ∀ i, i < K → -32768 ≤ x i ∧ x i ≤ 32767) (k1 : -128 ≤ k) (k2 : k ≤ 127) (hl : K ≤ 60) (m : Int) : ∃ r e rm c d c' d' f p q p' q' g, ScF K x m k (max k (-k)) r e rm c d c' d' f p q p' q' g := by
  have hy := Yx.mul_bd (x := x) hx k1 (by omega)
  have hx' : ∀ i, i < K → -4194304 ≤ x i ∧ x i ≤ 4194304 := fun i hi => by have := hx i hi; omega
  have R := Yx.rng_scale hx' hy hl m
  have A := Yx.al_scale hx' hy hl m
  have M := Yx.mo_scale hx' hy hl m
  have a := Yx.al_in (x := x) hl m; have a' := Yx.al_in (x := Yx.mul x k) hl m
  have b := Yx.mo_in (x := x) hl m; have b' := Yx.mo_in (x := Yx.mul x k) hl m
  exact ⟨_, _, _, _, _, _, _, _, _, _, _, _, _, rfl, rfl, rfl, R.1, rfl, rfl, rfl, rfl, rfl, A.1, rfl, rfl, rfl, rfl, rfl, M.1, R.2.symm, A.2, M.2, ⟨a'.1, a'.2.1⟩, ⟨a.2.2.1, a.2.2.2⟩, ⟨b'.1, b'.2.1⟩, ⟨b.2.2.1, b.2.2.2⟩, Yx.rng_in m⟩
set_option maxHeartbeats 8000000 in
theorem law_StabilityScales (a : Option Addr) (n cap : Nat) (zs : List Int) (m k : Int) (k1 : -128 ≤ k) (k2 : k ≤ 127) (w : World) (S : In.IsInts .i16 w a n cap zs) :
    Calls Try.prog 8 #[.slice a n cap, .int .i64 m, .int .i8 k] w fun e w' => e = .returned (.bool true) ∧ Below w.heap.size w w' := by
  obtain ⟨l1, l2⟩ := S.lens
  have h0 : a = none → n = 0 ∧ cap = 0 := fun h => by
    rcases S with ⟨_, p, q, _⟩ | ⟨x, hx, _⟩
    · exact ⟨p, q⟩
    · rw [h] at hx; cases hx
  have hx := x16_bd S
  obtain ⟨K, hK⟩ : ∃ K, min n 60 = K := ⟨_, rfl⟩
  have hKm : K ≤ 60 := by omega
  have hKn : K ≤ n := by omega
  have hmin : min (n : Int) 60 = (K : Int) := by omega
  obtain ⟨r, e, rm, c, d, c', d', f, p, q, p', q', g, F⟩ := scf (K := K) (fun i hi => hx i (by omega)) k1 k2 hKm m
  obtain ⟨A, hA⟩ : ∃ A, max k (-k) = A := ⟨_, rfl⟩
  rw [hA] at F
  have A0 : 0 ≤ A := by omega
  have A1 : A ≤ 128 := by omega
  have Q1 := Int.mul_nonneg A0 A0
  have Q2 := Int.mul_le_mul A1 A1 A0 (by omega)
  obtain ⟨Q, hQ⟩ : ∃ Q, A * A = Q := ⟨_, rfl⟩
  rw [hQ] at Q1 Q2
  have HF := Lib.hid F
  have s1 := F.s1; have i5 := F.i5
  clear F
  have hS := Lib.hid (I16.of S); have HX := Lib.hid hx; have H0 := Lib.hid h0
  have c1 : (K : Int) ≤ (cap : Int) := by omega
  have c2 : (cap : Int) ≤ 9223372036854775807 := by omega
  have c3 : (K : Int) ≤ 60 := by omega
  clear S h0 hx hK
  go_enter Try.func8, Try.ntmps8
  rcases a with _ | ad
  · obtain ⟨rfl, rfl⟩ := H0.out rfl
    obtain rfl : K = 0 := by omega
    have hm0 : min (0 : Int) 60 = 0 := by decide
    clear hmin
    go_wp2_with (fail)
    go_loopw [28, 7, 8] (fun c d e wr => c = .int .i64 0 ∧ d = .slice none 0 0 ∧ e = .slice none 0 0 ∧ wr = w) (fun _ _ _ _ => 0)
    case atStart => exact ⟨rfl, rfl, rfl, rfl⟩
    case round =>
      obtain ⟨rfl, rfl, rfl, rfl⟩ := hrel
      have HL0 : Hid (Is wr none 0 (xs zs)) := Lib.hid ⟨.inl rfl⟩
      have HM0 : Hid (Is wr none 0 (Yx.mul (xs zs) k)) := Lib.hid ⟨.inl rfl⟩
      have HB0 : Hid (Below wr.heap.size wr wr) := Lib.hid (Below.refl _ _)
      go_wp2_with (fail)
      refine (range_any none 0 0 (xs zs) m _ HL0.out (by omega) (by omega)).mono ?_
      rw [HF.out.r1, HF.out.e1]
      rintro en w1 ⟨rfl, n1, rfl⟩
      go_wp2_with (fail)
      refine (range_any none 0 0 (Yx.mul (xs zs) k) m _ (HM0.out.drewN _) (by omega) (by omega)).mono ?_
      rw [HF.out.r2, HF.out.e2]
      rintro en w2 ⟨rfl, n2, rfl⟩
      have HB2 := Lib.hid (Hp.drewN HB0.out (n1 + n2)); have HL2 := Lib.hid (HL0.out.drewN (n1 + n2)); have HM2 := Lib.hid (HM0.out.drewN (n1 + n2))
      go_wp2_with (fail)
      refine (allan_any none 0 0 _ m _ HL2.out (by omega)).mono ?_
      rw [HF.out.a1, HF.out.a2, HF.out.a3]
      rintro en w3 ⟨rfl, B3⟩
      have HB3 := Lib.hid (bl_next HB2.out B3); have HL3 := Lib.hid (is_alloc (HL2.out.later B3) (RO c d)); have HM3 := Lib.hid (is_alloc (HM2.out.later B3) (RO c d)); have G3 := Lib.hid (RB.new w3 c d)
      clear B3 HB2 HL2 HM2
      go_wp2_with (fail)
      refine (allan_any none 0 0 _ m _ HM3.out (by omega)).mono ?_
      rw [HF.out.a4, HF.out.a5, HF.out.a6]
      rintro en w4 ⟨rfl, B4⟩
      have HB4 := Lib.hid (bl_alloc HB3.out B4); have HL4 := Lib.hid (is_alloc (HL3.out.later B4) (RO c' d')); have HM4 := Lib.hid (is_alloc (HM3.out.later B4) (RO c' d')); have G3b := Lib.hid ((G3.out.later B4).alloc (RO c' d')); have G4 := Lib.hid (RB.new w4 c' d')
      clear B4 HB3 HL3 HM3 G3
      go_wp2_with (fail)
      refine (modified_any none 0 0 _ m _ HL4.out (by omega)).mono ?_
      rw [HF.out.m1, HF.out.m2, HF.out.m3]
      rintro en w5 ⟨rfl, B5⟩
      have HB5 := Lib.hid (bl_alloc HB4.out B5); have HM5 := Lib.hid (is_alloc (HM4.out.later B5) (RO p q)); have G3c := Lib.hid ((G3b.out.later B5).alloc (RO p q)); have G4b := Lib.hid ((G4.out.later B5).alloc (RO p q)); have G5 := Lib.hid (RB.new w5 p q)
      clear B5 HB4 HL4 HM4 G3b G4
      go_wp2_with (fail)
      refine (modified_any none 0 0 _ m _ HM5.out (by omega)).mono ?_
      rw [HF.out.m4, HF.out.m5, HF.out.m6]
      rintro en w6 ⟨rfl, B6⟩
      have HB6 := Lib.hid (bl_alloc HB5.out B6); have G3d := Lib.hid ((G3c.out.later B6).alloc (RO p' q')); have G4c := Lib.hid ((G4b.out.later B6).alloc (RO p' q')); have G5b := Lib.hid ((G5.out.later B6).alloc (RO p' q')); have G6 := Lib.hid (RB.new w6 p' q')
      clear B6 HB5 HM5 G3c G4b G5
      have t0 := G3d.out.c0; have t1 := G3d.out.c1; have t2 := G4c.out.c0; have t3 := G4c.out.c1
      go_wp2_with (fail)
      refine (equal_any c' d' c d Q HF.out.i1.1 HF.out.i1.2 HF.out.i2.1 HF.out.i2.2 (by omega) (by omega) (by rw [← hQ]; exact HF.out.s2) _).mono ?_
      rintro en w7 ⟨rfl, B7⟩
      have HB7 := Lib.hid (bl_alloc HB6.out B7); have G5c := G5b.out.later B7; have G6b := G6.out.later B7
      have t4 := G5c.c0; have t5 := G5c.c1; have t6 := G6b.c0; have t7 := G6b.c1
      clear B7 t0 t1 t2 t3
      go_wp2_with (fail)
      refine (equal_any p' q' p q Q HF.out.i3.1 HF.out.i3.2 HF.out.i4.1 HF.out.i4.2 (by omega) (by omega) (by rw [← hQ]; exact HF.out.s3) _).mono ?_
      rintro en w8 ⟨rfl, B8⟩
      have HB8 := Lib.hid (bl_next HB7.out B8)
      clear B8 t4 t5 t6 t7
      go_wp2_with (fail)
      refine (awake48_any _).mono ?_
      rintro en w10 ⟨rfl, B10⟩
      have HB10 := Lib.hid (bl_next HB8.out B10)
      clear B10
      go_wp2_with (fail)
      go_ret
      exact ⟨rfl, HB10.out⟩
  · go_wp2_with (fail)
    go_loopw [28, 7, 8] (fun c d e wr => ∃ j : Nat, j ≤ K ∧ c = .int .i64 j ∧ Row wr w.heap.size d ((List.range j).map (xs zs)) ∧ Row wr w.heap.size e ((List.range j).map (Yx.mul (xs zs) k)) ∧ Apart d e ∧ Below w.heap.size w wr) (fun c _ _ _ => K - (intOf c).toNat)
    case atStart => exact ⟨0, by omega, rfl, Row.nil _ _, Row.nil _ _, .inl rfl, Below.refl _ _⟩
    case round =>
      obtain ⟨j, hj, rfl, hR1, hR2, hA, hb⟩ := hrel
      have R1 := Lib.hid hR1; have R2 := Lib.hid hR2; have HA := Lib.hid hA; have HB := Lib.hid hb
      have hz := hb.size
      clear hR1 hR2 hA hb
      by_cases hlt : j < K
      · obtain ⟨b, o, hab, _, c0⟩ := (hS.out.later HB.out).cells j (by omega)
        obtain rfl : ad = ⟨b, o, none⟩ := by simpa using hab
        have hb := HX.out j (by omega)
        have hm := Yx.mul_abs (a := xs zs j) (B := 32768) (k := k) (by omega) (by omega) k1 (by omega) (by omega)
        have HL := Lib.hid (show Yx.mul (xs zs) k j = xs zs j * k from rfl)
        obtain ⟨v, hv⟩ : ∃ v, xs zs j = v := ⟨_, rfl⟩
        have HV := Lib.hid hv
        rw [hv] at c0 hb hm
        have v1 := hb.1; have v2 := hb.2; have m1 := hm.1; have m2 := hm.2
        clear hv hb hm hab
        obtain ⟨z, hz2⟩ : ∃ z, v * k = z := ⟨_, rfl⟩
        rw [hz2] at m1 m2
        have AP := Lib.hid (Ap.mk' R1.out hz v)
        have sm := Lib.hid (show ((List.range j).map (xs zs)).length ≤ 1000000 by simp; omega)
        have sm2 := Lib.hid (show ((List.range j).map (Yx.mul (xs zs) k)).length ≤ 1000000 by simp; omega)
        have BX := Lib.hid (Below.alloc HB.out hz (.cells #[.int .i64 v] 3))
        go_wp2_with (first
          | (at_builtin; refine append_int2 rfl (.tmp 32) (.tmp 35) rfl rfl rfl AP.out.row ⟨wr.heap.size, 0, none⟩ rfl AP.out.cell sm.out AP.out.base ?_; intro p1 w1 T1 G1 W1; have HT1 := Lib.hid T1; have HP1 := Lib.hid (apart1 (Row.alloc R2.out _) HA.out G1 W1); have hz1 := Nat.le_trans AP.out.base G1.size; have AQ := Lib.hid (Ap.mk' HP1.out.1 hz1 z); have BY := Lib.hid (Below.alloc (Row.below AP.out.row (Nat.le_refl _) G1 BX.out AP.out.base) hz1 (.cells #[.int .i64 z] 3)); clear T1 G1 W1)
          | (at_builtin; refine append_int2 rfl (.tmp 37) (.tmp 43) rfl rfl rfl AQ.out.row ⟨w1.heap.size, 0, none⟩ rfl AQ.out.cell sm2.out AQ.out.base ?_; intro p2 w2 T2 G2 W2; have HT2 := Lib.hid T2; have HP2 := Lib.hid (apart2 (Row.alloc HT1.out _) HP1.out.2 G2 W2); have BZ := Lib.hid (Row.below AQ.out.row (Nat.le_refl _) G2 BY.out AQ.out.base); clear T2 G2 W2))
        go_roundw
        case rel => exact ⟨j + 1, by omega, by go_num, by rw [range_succ, HV.out]; exact HP2.out.1, by rw [range_succ, HL.out, HV.out, hz2]; exact HT2.out, HP2.out.2, BZ.out⟩
        case measure => simp [intOf]; omega
      · obtain rfl : j = K := by omega
        obtain ⟨a1, p1, rfl, I1⟩ := is_of_row R1.out
        obtain ⟨a2, p2, rfl, I2⟩ := is_of_row R2.out
        have h1 := row_cap R1.out rfl; have h2 := row_cap R2.out rfl
        have HL0 := Lib.hid I1; have HM0 := Lib.hid I2; have HB0 := HB
        clear I1 I2 R1 R2 HA
        go_wp2_with (fail)
        refine (range_any a1 j p1 (xs zs) m _ HL0.out h1.1 h1.2).mono ?_
        rw [HF.out.r1, HF.out.e1]
        rintro en w1 ⟨rfl, n1, rfl⟩
        go_wp2_with (fail)
        refine (range_any a2 j p2 (Yx.mul (xs zs) k) m _ (HM0.out.drewN _) h2.1 h2.2).mono ?_
        rw [HF.out.r2, HF.out.e2]
        rintro en w2 ⟨rfl, n2, rfl⟩
        have HB2 := Lib.hid (Hp.drewN HB0.out (n1 + n2)); have HL2 := Lib.hid (HL0.out.drewN (n1 + n2)); have HM2 := Lib.hid (HM0.out.drewN (n1 + n2))
        go_wp2_with (fail)
        refine (allan_any a1 j p1 _ m _ HL2.out (by omega)).mono ?_
        rw [HF.out.a1, HF.out.a2, HF.out.a3]
        rintro en w3 ⟨rfl, B3⟩
        have HB3 := Lib.hid (bl_next HB2.out B3); have HL3 := Lib.hid (is_alloc (HL2.out.later B3) (RO c d)); have HM3 := Lib.hid (is_alloc (HM2.out.later B3) (RO c d)); have G3 := Lib.hid (RB.new w3 c d)
        clear B3 HB2 HL2 HM2
        go_wp2_with (fail)
        refine (allan_any a2 j p2 _ m _ HM3.out (by omega)).mono ?_
        rw [HF.out.a4, HF.out.a5, HF.out.a6]
        rintro en w4 ⟨rfl, B4⟩
        have HB4 := Lib.hid (bl_alloc HB3.out B4); have HL4 := Lib.hid (is_alloc (HL3.out.later B4) (RO c' d')); have HM4 := Lib.hid (is_alloc (HM3.out.later B4) (RO c' d')); have G3b := Lib.hid ((G3.out.later B4).alloc (RO c' d')); have G4 := Lib.hid (RB.new w4 c' d')
        clear B4 HB3 HL3 HM3 G3
        go_wp2_with (fail)
        refine (modified_any a1 j p1 _ m _ HL4.out (by omega)).mono ?_
        rw [HF.out.m1, HF.out.m2, HF.out.m3]
        rintro en w5 ⟨rfl, B5⟩
        have HB5 := Lib.hid (bl_alloc HB4.out B5); have HM5 := Lib.hid (is_alloc (HM4.out.later B5) (RO p q)); have G3c := Lib.hid ((G3b.out.later B5).alloc (RO p q)); have G4b := Lib.hid ((G4.out.later B5).alloc (RO p q)); have G5 := Lib.hid (RB.new w5 p q)
        clear B5 HB4 HL4 HM4 G3b G4
        go_wp2_with (fail)
        refine (modified_any a2 j p2 _ m _ HM5.out (by omega)).mono ?_
        rw [HF.out.m4, HF.out.m5, HF.out.m6]
        rintro en w6 ⟨rfl, B6⟩
        have HB6 := Lib.hid (bl_alloc HB5.out B6); have G3d := Lib.hid ((G3c.out.later B6).alloc (RO p' q')); have G4c := Lib.hid ((G4b.out.later B6).alloc (RO p' q')); have G5b := Lib.hid ((G5.out.later B6).alloc (RO p' q')); have G6 := Lib.hid (RB.new w6 p' q')
        clear B6 HB5 HM5 G3c G4b G5
        have t0 := G3d.out.c0; have t1 := G3d.out.c1; have t2 := G4c.out.c0; have t3 := G4c.out.c1
        go_wp2_with (fail)
        refine (equal_any c' d' c d Q HF.out.i1.1 HF.out.i1.2 HF.out.i2.1 HF.out.i2.2 (by omega) (by omega) (by rw [← hQ]; exact HF.out.s2) _).mono ?_
        rintro en w7 ⟨rfl, B7⟩
        have HB7 := Lib.hid (bl_alloc HB6.out B7); have G5c := G5b.out.later B7; have G6b := G6.out.later B7
        have t4 := G5c.c0; have t5 := G5c.c1; have t6 := G6b.c0; have t7 := G6b.c1
        clear B7 t0 t1 t2 t3
        go_wp2_with (fail)
        refine (equal_any p' q' p q Q HF.out.i3.1 HF.out.i3.2 HF.out.i4.1 HF.out.i4.2 (by omega) (by omega) (by rw [← hQ]; exact HF.out.s3) _).mono ?_
        rintro en w8 ⟨rfl, B8⟩
        have HB8 := Lib.hid (bl_next HB7.out B8)
        clear B8 t4 t5 t6 t7
        go_wp2_with (fail)
        refine (awake48_any _).mono ?_
        rintro en w10 ⟨rfl, B10⟩
        have HB10 := Lib.hid (bl_next HB8.out B10)
        clear B10
        go_wp2_with (fail)
        go_ret
        exact ⟨rfl, HB10.out⟩
end Go.Proofs.Ytbidogefodfakaa.YxW
