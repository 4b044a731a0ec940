import Derived.Test.YtbbdeagllhmdiaaKz
import Derived.Laws.AppendOwnNone
set_option linter.unusedVariables false
set_option linter.unusedSimpArgs false
namespace Go.Proofs.Ytbbdeagllhmdiaa.CxW
open Go.RowKit
open Go.Proofs.Ytbbdeagllhmdiaa.Kx
theorem ol_rd1 {w : World} {B : Nat} {v : Value} {l : List Cd} (o : Ol w B v l) (h : 0 < l.length) : ∃ a c, v = .slice a l.length c ∧ Cs w a l.length (zof l) ∧ a ≠ none := by
  rcases o with ⟨rfl, a, c, hv⟩ | ⟨h0, g, c, hv, hg, hz, hc⟩
  · exact absurd h (by simp)
  · exact ⟨_, c, hv, hz.cs, by simp⟩
set_option maxHeartbeats 16000000 in
set_option maxRecDepth 4000 in
theorem independent_any (l : List Cd) (a : Option Addr) (c : Nat) (t : Nat) (keep : Int) (w : World) (S : Cs w a l.length (zof l)) (h : l.length ≤ 30) (h1 : 0 < l.length) (t1 : t ≤ 100) (h0 : a = none → l.length = 0 ∧ c = 0) :
    Calls Try.prog 7 #[.slice a l.length c, .int .i64 t, .int .i64 keep] w fun e w' => e = .returned (.bool true) ∧ Below w.heap.size w w' := by
  have F := Lib.hid (show decide (l.length ≤ 30) = true from decide_eq_true h)
  obtain ⟨n, hn⟩ : ∃ n, l.length = n := ⟨_, rfl⟩
  have HN := Lib.hid hn
  obtain ⟨r, hr⟩ : ∃ r, Cx.chk l.length (zof l) = r := ⟨_, rfl⟩
  have HR := Lib.hid hr
  have CK := Lib.hid (fun W (S : Cs W a l.length (zof l)) => check_at (cap := c) (Lib.hid hr) S)
  rw [hn] at CK
  clear hr
  rw [hn] at S F h h1
  rw [hn]
  have i1 : ¬ (t : Int) < 0 := by omega
  have i2 : ¬ (100 : Int) < (t : Int) := by omega
  have i3 : ((n : Int) == 0) = false := by simp; omega
  have hS := Lib.hid S
  have H0 := Lib.hid h0; have LP := Lib.hid h1
  clear S hn h0
  go_enter Try.func7, Try.ntmps7
  go_wp2_with (fail)
  refine (few_at F _).mono ?_
  rintro en w1 ⟨rfl, rfl⟩
  go_wp2_with (fail)
  go_loopw [8, 7] (fun c v wr => ∃ k : Nat, k ≤ n ∧ c = .int .i64 k ∧ Rk wr w.heap.size v (trn l t k) ∧ Below w.heap.size w wr) (fun c _ _ => n - (intOf c).toNat)
  case atStart => exact ⟨0, by omega, rfl, Rk.nil _ _, Below.refl _ _⟩
  case round =>
    rename World => wb
    obtain ⟨k, hk, rfl, rk, hb⟩ := hrel
    have HB := Lib.hid hb; have RK := Lib.hid rk; have Sb := Lib.hid (hS.out.later hb)
    have szb := hb.size
    by_cases hlt : k < n
    · have jl : (k + t) % n < n := Nat.mod_lt _ h1
      obtain ⟨j, hj⟩ : ∃ j, (k + t) % n = j := ⟨_, rfl⟩
      have tm : Int.tmod ((k : Int) + (t : Int)) (n : Int) = (j : Int) := by rw [← hj]; rw [Int.tmod_eq_emod_of_nonneg (by omega)]; push_cast; rfl
      rw [hj] at jl
      have TS := Lib.hid (show trn l t (k + 1) = nth l j :: trn l t k by simp only [trn, HN.out, hj])
      have TL := Lib.hid (trn_len l t k)
      obtain ⟨b, o, rfl, lb, x0, x1, x2, x3, x4⟩ := Sb.out.elem (i := j) jl
      change wb.cell? _ = some (.int .i64 (nth l j).a) at x0
      change wb.cell? _ = some (.int .i64 (nth l j).b) at x1
      change wb.cell? _ = some (.int .i64 (nth l j).c) at x2
      change wb.cell? _ = some (.int .i64 (nth l j).d) at x3
      change wb.cell? _ = some (.int .i64 (nth l j).e) at x4
      obtain ⟨x, ex⟩ : ∃ x, nth l j = x := ⟨_, rfl⟩
      rw [ex] at x0 x1 x2 x3 x4 TS
      obtain ⟨xa, xb, xc, xd, xe⟩ := x
      simp only at x0 x1 x2 x3 x4
      obtain ⟨mk, hmk⟩ : ∃ mk, trn l t k = mk := ⟨_, rfl⟩
      rw [hmk] at RK TS TL
      have R1 := Lib.hid (Rk.one (w := wb) ⟨xa, xb, xc, xd, xe⟩ szb)
      have BX := Lib.hid (Below.alloc HB.out szb (.cells #[.int .i64 xa, .int .i64 xb, .int .i64 xc, .int .i64 xd, .int .i64 xe] 36))
      have bs := Lib.hid (show w.heap.size ≤ (wb.alloc (.cells #[.int .i64 xa, .int .i64 xb, .int .i64 xc, .int .i64 xd, .int .i64 xe] 36)).heap.size by simp; omega)
      have kc : k = 0 ∨ 0 < k := by omega
      clear hb rk ex hj
      rcases kc with kc | kc
      · have mn : mk = [] := List.length_eq_zero_iff.1 (TL.out.trans kc)
        subst mn
        clear kc
        obtain ⟨_, hv⟩ := RK.out.own
        rcases hv with ⟨rfl, -⟩ | hv
        · obtain ⟨i0, hi0, -, -, -⟩ := info_parts info_cand
          have HI := Lib.hid hi0
          clear hi0 hmk
          go_wp2_with (at_builtin; refine wpList_append_own_none (w := wb.alloc (.cells #[.int .i64 xa, .int .i64 xb, .int .i64 xc, .int .i64 xd, .int .i64 xe] 36)) rfl (.tmp 47) (.tmp 48) 22 rfl w.heap.size 36 i0 5 Try.underlying22 HI.out (.slice (some ⟨wb.heap.size, 0, none⟩) 1 1) 1 _ (by rfl) R1.out.own (by rfl) ?_)
          go_roundw
          case rel =>
            have ts := TS.out
            refine ⟨k + 1, by omega, by go_num, ?_, ?_⟩
            · rw [ts]; exact R1.out
            · exact BX.out
          case measure => (simp [intOf] <;> omega)
        · obtain ⟨g, cap, cur, rfl, -, hh, -, -, -, -⟩ := hv
          have CC := Lib.hid ((⟨.inl rfl⟩ : Cs wb (some ⟨g, 0, none⟩) ([] : List Cd).length (zof [])).later (Below.alloc (Below.refl _ _) (Nat.le_refl _) (.cells #[.int .i64 xa, .int .i64 xb, .int .i64 xc, .int .i64 xd, .int .i64 xe] 36)))
          have sm := Lib.hid (show [(⟨xa, xb, xc, xd, xe⟩ : Cd)].length + ([] : List Cd).length ≤ 1000000 by simp)
          clear hmk hh
          go_wp2_with (at_builtin; refine append_cands (m := []) rfl (.tmp 47) (.tmp 48) rfl (by rfl) R1.out (by rfl) CC.out sm.out bs.out ?_; intro v2 w2 R2 G2; have HR2 := Lib.hid R2; have HG2 := Lib.hid G2; clear R2 G2)
          go_roundw
          case rel =>
            have ts := TS.out
            refine ⟨k + 1, by omega, by go_num, ?_, ?_⟩
            · rw [ts]; exact HR2.out
            · exact Rk.below R1.out (Nat.le_refl _) HG2.out BX.out bs.out
          case measure => (simp [intOf] <;> omega)
      · obtain ⟨g, cv, rfl, cc⟩ := Rk.rd0 RK.out (by rw [TL.out]; exact kc)
        have CC := Lib.hid (cc.later (Below.alloc (Below.refl _ _) (Nat.le_refl _) (.cells #[.int .i64 xa, .int .i64 xb, .int .i64 xc, .int .i64 xd, .int .i64 xe] 36)))
        have sm := Lib.hid (show [(⟨xa, xb, xc, xd, xe⟩ : Cd)].length + mk.length ≤ 1000000 by rw [TL.out]; simp; omega)
        clear cc hmk
        go_wp2_with (at_builtin; refine append_cands (m := mk) rfl (.tmp 47) (.tmp 48) rfl (by rfl) R1.out (by rfl) CC.out sm.out bs.out ?_; intro v2 w2 R2 G2; have HR2 := Lib.hid R2; have HG2 := Lib.hid G2; clear R2 G2)
        go_roundw
        case rel =>
          have ts := TS.out
          refine ⟨k + 1, by omega, by go_num, ?_, ?_⟩
          · rw [ts]; exact HR2.out
          · exact Rk.below R1.out (Nat.le_refl _) HG2.out BX.out bs.out
        case measure => (simp [intOf] <;> omega)
    · obtain rfl : n = k := by omega
      have tl := trn_len l t n
      obtain ⟨m, hm⟩ : ∃ m, trn l t n = m := ⟨_, rfl⟩
      rw [hm] at RK tl
      obtain ⟨am, cm, rfl, cc, h0m⟩ := RK.out.rd
      have CM := Lib.hid cc; have HM := Lib.hid hm; have H0M := Lib.hid h0m
      rw [tl] at CM
      rw [tl]
      have TL := Lib.hid tl
      clear hb rk hlt hk hm cc h0m tl RK
      by_cases r0 : r = 0
      · subst r0
        have V := (val_iff l).1 HR.out
        have lp : 0 < l.length := by rw [HN.out]; exact LP.out
        have e : trn l t l.length = m := by rw [HN.out]; exact HM.out
        have MV : Val m := e ▸ trn_val V t lp
        have eo : ord m = ord l := e ▸ trn_ord V t lp
        have CKM := Lib.hid (fun W (S : Cs W am m.length (zof m)) => check_at (cap := cm) (Lib.hid ((val_iff m).2 MV)) S)
        have OL := Lib.hid (fun W (S : Cs W a l.length (zof l)) => order_ok l a c V W S H0.out)
        have OM := Lib.hid (fun W (S : Cs W am m.length (zof m)) => order_ok m am cm MV W S H0M.out)
        rw [HN.out] at OL
        rw [TL.out] at CKM OM
        rw [eo] at OM
        obtain ⟨q, hq⟩ : ∃ q, ord l = q := ⟨_, rfl⟩
        have Q12 := V.ord.len
        rw [hq] at OL OM Q12
        have HV := Lib.hid V; have HMV := Lib.hid MV
        by_cases kp : keep < 1
        · have PL := Lib.hid (fun W (S : Cs W a l.length (zof l)) => prune_range l a c V keep kp W S)
          have PM := Lib.hid (fun W (S : Cs W am m.length (zof m)) => prune_range m am cm MV keep kp W S)
          rw [HN.out] at PL
          rw [TL.out] at PM
          clear V MV e eo hq lp
          go_wp2_with (fail)
          refine (CK.out _ Sb.out).mono ?_
          rintro en w2 ⟨rfl, B2⟩
          have HB2 := Lib.hid (bl_next HB.out B2); have S2 := Lib.hid (Sb.out.later B2); have M2 := Lib.hid (CM.out.later B2)
          clear B2
          go_wp2_with (fail)
          refine (CKM.out _ M2.out).mono ?_
          rintro en w3 ⟨rfl, B3⟩
          have HB3 := Lib.hid (bl_next HB2.out B3); have S3 := Lib.hid (S2.out.later B3); have M3 := Lib.hid (M2.out.later B3)
          clear B3
          go_wp2_with (fail)
          refine (PL.out _ S3.out).mono ?_
          rintro en w4 ⟨rfl, B4⟩
          have HB4 := Lib.hid (bl_next HB3.out B4); have S4 := Lib.hid (S3.out.later B4); have M4 := Lib.hid (M3.out.later B4)
          clear B4
          go_wp2_with (fail)
          refine (PM.out _ M4.out).mono ?_
          rintro en w5 ⟨rfl, B5⟩
          have HB5 := Lib.hid (bl_next HB4.out B5); have S5 := Lib.hid (S4.out.later B5); have M5 := Lib.hid (M4.out.later B5)
          clear B5
          go_wp2_with (fail)
          refine (same_nil _).mono ?_
          rintro en w6 ⟨rfl, B6⟩
          have HB6 := Lib.hid (bl_next HB5.out B6); have S6 := Lib.hid (S5.out.later B6); have M6 := Lib.hid (M5.out.later B6)
          clear B6
          go_wp2_with (fail)
          refine (OL.out _ S6.out).mono ?_
          rintro en w7 ⟨v7, rfl, o7, B7⟩
          have HB7 := Lib.hid (bl_next HB6.out B7); have M7 := Lib.hid (M6.out.later B7)
          obtain ⟨a7, c7, rfl, s7⟩ := o7.rd
          have O7 := Lib.hid s7
          clear B7 o7 s7
          go_wp2_with (fail)
          refine (OM.out _ M7.out).mono ?_
          rintro en w8 ⟨v8, rfl, o8, B8⟩
          have HB8 := Lib.hid (bl_next HB7.out B8); have O7' := Lib.hid (O7.out.later B8)
          obtain ⟨a8, c8, rfl, s8⟩ := o8.rd
          have O8 := Lib.hid s8
          clear B8 o8 s8
          go_wp2_with (fail)
          refine (same_list q a7 a8 c7 c8 Q12 _ O7'.out O8.out).mono ?_
          rintro en w9 ⟨rfl, B9⟩
          have HB9 := Lib.hid (bl_next HB8.out B9)
          clear B9
          go_wp2_with (fail)
          refine (awake25_any _).mono ?_
          rintro en wz ⟨rfl, Bz⟩
          have HBz := Lib.hid (bl_next HB9.out Bz)
          clear Bz
          go_wp2_with (fail)
          go_ret
          exact ⟨rfl, HBz.out⟩
        · have hk : 1 ≤ keep := by omega
          have ep : prune keep m = prune keep l := e ▸ trn_prune V t lp keep
          have PL := Lib.hid (fun W (S : Cs W a l.length (zof l)) => prune_ok l a c V keep hk W S H0.out)
          have PM := Lib.hid (fun W (S : Cs W am m.length (zof m)) => prune_ok m am cm MV keep hk W S H0M.out)
          rw [HN.out] at PL
          rw [TL.out, ep] at PM
          have lo := @prune_min l keep
          have PV := prune_val V keep
          have ag := prune_again V hk
          have P12 := PV.len
          rw [HN.out] at lo
          obtain ⟨p, hp⟩ : ∃ p, prune keep l = p := ⟨_, rfl⟩
          rw [hp] at PL PM lo PV ag P12
          have p1 : 0 < p.length := by omega
          have PA := Lib.hid (fun a4 c4 W (S : Cs W a4 p.length (zof p)) (h : a4 ≠ none) => prune_ok p a4 c4 PV keep hk W S (fun e => absurd e h))
          rw [ag] at PA
          have P1 := Lib.hid p1
          clear V MV e eo hq lp ep lo PV ag hp p1 kp hk
          go_wp2_with (fail)
          refine (CK.out _ Sb.out).mono ?_
          rintro en w2 ⟨rfl, B2⟩
          have HB2 := Lib.hid (bl_next HB.out B2); have S2 := Lib.hid (Sb.out.later B2); have M2 := Lib.hid (CM.out.later B2)
          clear B2
          go_wp2_with (fail)
          refine (CKM.out _ M2.out).mono ?_
          rintro en w3 ⟨rfl, B3⟩
          have HB3 := Lib.hid (bl_next HB2.out B3); have S3 := Lib.hid (S2.out.later B3); have M3 := Lib.hid (M2.out.later B3)
          clear B3
          go_wp2_with (fail)
          refine (PL.out _ S3.out).mono ?_
          rintro en w4 ⟨v4, rfl, o4, B4⟩
          have HB4 := Lib.hid (bl_next HB3.out B4); have S4 := Lib.hid (S3.out.later B4); have M4 := Lib.hid (M3.out.later B4)
          obtain ⟨a4, c4, rfl, s4, nn⟩ := ol_rd1 o4 P1.out
          have P4 := Lib.hid s4; have NN := Lib.hid nn
          clear B4 o4 s4 nn
          go_wp2_with (fail)
          refine (PM.out _ M4.out).mono ?_
          rintro en w5 ⟨v5, rfl, o5, B5⟩
          have HB5 := Lib.hid (bl_next HB4.out B5); have S5 := Lib.hid (S4.out.later B5); have M5 := Lib.hid (M4.out.later B5); have P5 := Lib.hid (P4.out.later B5)
          obtain ⟨a5, c5, rfl, s5⟩ := o5.rd
          have R5 := Lib.hid s5
          clear B5 o5 s5
          go_wp2_with (fail)
          refine (same_list p a4 a5 c4 c5 P12 _ P5.out R5.out).mono ?_
          rintro en w6 ⟨rfl, B6⟩
          have HB6 := Lib.hid (bl_next HB5.out B6); have S6 := Lib.hid (S5.out.later B6); have M6 := Lib.hid (M5.out.later B6); have P6 := Lib.hid (P5.out.later B6)
          clear B6
          go_wp2_with (fail)
          refine (OL.out _ S6.out).mono ?_
          rintro en w7 ⟨v7, rfl, o7, B7⟩
          have HB7 := Lib.hid (bl_next HB6.out B7); have M7 := Lib.hid (M6.out.later B7); have P7 := Lib.hid (P6.out.later B7)
          obtain ⟨a7, c7, rfl, s7⟩ := o7.rd
          have O7 := Lib.hid s7
          clear B7 o7 s7
          go_wp2_with (fail)
          refine (OM.out _ M7.out).mono ?_
          rintro en w8 ⟨v8, rfl, o8, B8⟩
          have HB8 := Lib.hid (bl_next HB7.out B8); have O7' := Lib.hid (O7.out.later B8); have P8 := Lib.hid (P7.out.later B8)
          obtain ⟨a8, c8, rfl, s8⟩ := o8.rd
          have O8 := Lib.hid s8
          clear B8 o8 s8
          go_wp2_with (fail)
          refine (same_list q a7 a8 c7 c8 Q12 _ O7'.out O8.out).mono ?_
          rintro en w9 ⟨rfl, B9⟩
          have HB9 := Lib.hid (bl_next HB8.out B9); have P9 := Lib.hid (P8.out.later B9)
          clear B9
          go_wp2_with (fail)
          refine (PA.out _ _ _ P9.out NN.out).mono ?_
          rintro en w10 ⟨v10, rfl, o10, B10⟩
          have HB10 := Lib.hid (bl_next HB9.out B10); have P10 := Lib.hid (P9.out.later B10)
          obtain ⟨a10, c10, rfl, s10⟩ := o10.rd
          have R10 := Lib.hid s10
          clear B10 o10 s10
          go_wp2_with (fail)
          refine (same_list p a4 a10 c4 c10 P12 _ P10.out R10.out).mono ?_
          rintro en w11 ⟨rfl, B11⟩
          have HB11 := Lib.hid (bl_next HB10.out B11)
          clear B11
          go_wp2_with (fail)
          refine (awake25_any _).mono ?_
          rintro en wz ⟨rfl, Bz⟩
          have HBz := Lib.hid (bl_next HB11.out Bz)
          clear Bz
          go_wp2_with (fail)
          go_ret
          exact ⟨rfl, HBz.out⟩
      · have r1 : (r != 0) = true := by simpa using r0
        clear r0
        go_wp2_with (fail)
        refine (CK.out _ Sb.out).mono ?_
        rintro en w2 ⟨rfl, B2⟩
        have HB2 := Lib.hid (bl_next HB.out B2)
        clear B2
        go_wp2_with (fail)
        refine (awake25_any _).mono ?_
        rintro en w5 ⟨rfl, B5⟩
        have HB5 := Lib.hid (bl_next HB2.out B5)
        clear B5
        go_wp2_with (fail)
        go_ret
        exact ⟨rfl, HB5.out⟩
set_option maxHeartbeats 8000000 in
theorem independent_no (l : List Cd) (a : Option Addr) (c : Nat) (t keep : Int) (w : World) (h : 30 < l.length ∨ (l.length ≤ 30 ∧ l.length = 0) ∨ (l.length ≤ 30 ∧ 0 < l.length ∧ t < 0) ∨ (l.length ≤ 30 ∧ 0 < l.length ∧ 0 ≤ t ∧ 100 < t)) :
    Calls Try.prog 7 #[.slice a l.length c, .int .i64 t, .int .i64 keep] w fun e w' => e = .returned (.bool true) ∧ Below w.heap.size w w' := by
  obtain ⟨n, hn⟩ : ∃ n, l.length = n := ⟨_, rfl⟩
  rw [hn] at h ⊢
  clear hn
  rcases h with h | ⟨h, rfl⟩ | ⟨h, h1, h2⟩ | ⟨h, h1, h2, h3⟩
  · have F := Lib.hid (show decide (n ≤ 30) = false from decide_eq_false (by omega))
    clear h
    go_enter Try.func7, Try.ntmps7
    go_wp2_with (fail)
    refine (few_at F _).mono ?_
    rintro en w1 ⟨rfl, rfl⟩
    go_wp2_with (fail)
    refine (awake25_any _).mono ?_
    rintro en w2 ⟨rfl, B2⟩
    have HB := Lib.hid B2
    clear B2
    go_wp2_with (fail)
    go_ret
    exact ⟨rfl, HB.out⟩
  · have F := Lib.hid (show decide (0 ≤ 30) = true from decide_eq_true h)
    clear h
    go_enter Try.func7, Try.ntmps7
    go_wp2_with (fail)
    refine (few_at F _).mono ?_
    rintro en w1 ⟨rfl, rfl⟩
    go_wp2_with (fail)
    refine (awake25_any _).mono ?_
    rintro en w2 ⟨rfl, B2⟩
    have HB := Lib.hid B2
    clear B2
    go_wp2_with (fail)
    go_ret
    exact ⟨rfl, HB.out⟩
  all_goals
    have F := Lib.hid (show decide (n ≤ 30) = true from decide_eq_true h)
    have i3 : ((n : Int) == 0) = false := by simp; omega
    clear h h1
    go_enter Try.func7, Try.ntmps7
    go_wp2_with (fail)
    refine (few_at F _).mono ?_
    rintro en w1 ⟨rfl, rfl⟩
    go_wp2_with (fail)
    refine (awake25_any _).mono ?_
    rintro en w2 ⟨rfl, B2⟩
    have HB := Lib.hid B2
    clear B2
    go_wp2_with (fail)
    go_ret
    exact ⟨rfl, HB.out⟩
theorem law_ClusterIndependent (a : Option Addr) (n c : Nat) (z : Nat → Nat → Int) (t keep : Int) (w : World) (S : In.IsStructs [.i64, .i64, .i64, .i64, .i64] w a n c z) :
    Calls Try.prog 7 #[.slice a n c, .int .i64 t, .int .i64 keep] w fun e w' => e = .returned (.bool true) ∧ Below w.heap.size w w' := by
  obtain ⟨l, rfl, s, h0⟩ := in_list S
  by_cases h : 30 < l.length
  · exact independent_no l a c t keep w (.inl h)
  · by_cases h1 : l.length = 0
    · exact independent_no l a c t keep w (.inr (.inl ⟨by omega, h1⟩))
    · by_cases t0 : t < 0
      · exact independent_no l a c t keep w (.inr (.inr (.inl ⟨by omega, by omega, t0⟩)))
      · by_cases t1 : 100 < t
        · exact independent_no l a c t keep w (.inr (.inr (.inr ⟨by omega, by omega, by omega, t1⟩)))
        · obtain ⟨t', rfl⟩ : ∃ u : Nat, t = u := ⟨t.toNat, by omega⟩
          exact independent_any l a c t' keep w s (by omega) (by omega) (by omega) h0
end Go.Proofs.Ytbbdeagllhmdiaa.CxW
