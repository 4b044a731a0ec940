/- The reference's spread, Spread and Prune of layer 25. -/
import Derived.Test.YtbbdeagllhmdiaaLn
set_option linter.unusedVariables false
set_option linter.unusedSimpArgs false
namespace Go.Proofs.Ytbbdeagllhmdiaa.CxW
open Go.RowKit
open Go.Proofs.Ytbbdeagllhmdiaa.Kx
set_option maxHeartbeats 8000000 in
theorem rspread_ok (l : List Cd) (a : Option Addr) (c : Nat) (V : Val l) (i : Nat) (hi : i < l.length) (h2 : 2 ≤ l.length) (w : World) (S : Cs w a l.length (zof l)) :
    Calls Try.prog 31 #[.slice a l.length c, .int .i64 i] w fun e w' => e = .returned (.int .i64 (spr l (nth l i))) ∧ Below w.heap.size w w' := by
  have hS := Lib.hid S; have HV := Lib.hid V
  have n12 := V.len
  obtain ⟨n, hn⟩ : ∃ n, l.length = n := ⟨_, rfl⟩
  have HN := Lib.hid hn
  have i1 : ¬ (n : Int) ≤ (i : Int) := by omega
  have i3 : ¬ (i : Int) < 0 := by omega
  have bi := V.bd (nth_mem hi)
  rw [hn] at hS hi h2 n12 ⊢
  have md := mean_bd (l := l) (i := i) (by omega) (by omega) (G := 1073741824) (fun k _ => (dq_bd _ _).2)
  rw [hn] at md
  clear S V hn
  go_enter Try.func31, Try.ntmps31
  go_wp2_with (fail)
  go_loopw [6, 5] (fun c s wr => ∃ k : Nat, k ≤ n ∧ c = .int .i64 k ∧ s = .int .u64 (sqN l (nth l i) k) ∧ Below w.heap.size w wr) (fun c _ _ => n - (intOf c).toNat)
  case atStart => exact ⟨0, by omega, rfl, rfl, Below.refl _ _⟩
  case round =>
    obtain ⟨k, hk, rfl, rfl, hB⟩ := hrel
    have HBr := Lib.hid hB
    have S2 := Lib.hid (hS.out.later hB)
    have sz := hB.size
    clear hB
    by_cases hlt : k < n
    · have S3 : Hid (Cs wr a l.length (zof l)) := Lib.hid (by rw [HN.out]; exact S2.out)
      obtain ⟨b, o, rfl, hb, c0, c1, c2, c3, c4⟩ := cell_of S3.out (show k < l.length by rw [HN.out]; exact hlt)
      obtain ⟨b', o', e', _, _, d1, _⟩ := cell_of S3.out (show i < l.length by rw [HN.out]; exact hi)
      obtain ⟨rfl, rfl⟩ : b = b' ∧ o = o' := by injection e' with e'; injection e' with e1 e2; exact ⟨e1, e2⟩
      have bk := HV.out.bd (nth_mem (show k < l.length by rw [HN.out]; exact hlt))
      have NS := Lib.hid (show sqN l (nth l i) (k + 1) = sqN l (nth l i) k + dq (nth l i) (nth l k) * dq (nth l i) (nth l k) from rfl)
      have q0 := sqN_nn l (nth l i) k; have q1 := sqN_top l (nth l i) k
      have dd := dq_bd (nth l i) (nth l k)
      have d2 := sq_bd dd.1 dd.2
      obtain ⟨X, eX⟩ : ∃ X, (nth l i).b = X := ⟨_, rfl⟩
      have bi1 := bi.1; have bi2 := bi.2.1
      rw [eX] at d1 bi1 bi2
      have hD : min (max (X - (nth l k).b) (-(X - (nth l k).b))) 1073741824 = dq (nth l i) (nth l k) := by rw [max_abs, ← eX]; rfl
      obtain ⟨D, eD⟩ : ∃ D, dq (nth l i) (nth l k) = D := ⟨_, rfl⟩
      rw [eD] at hD NS dd d2
      obtain ⟨Q, eQ⟩ : ∃ Q, sqN l (nth l i) k = Q := ⟨_, rfl⟩
      rw [eQ] at NS q0 q1
      rw [eQ]
      obtain ⟨P, eP⟩ : ∃ P, D * D = P := ⟨_, rfl⟩
      rw [eP] at NS d2
      obtain ⟨x, ex⟩ : ∃ x, nth l k = x := ⟨_, rfl⟩
      rw [ex] at c0 c1 c2 c3 c4 bk hD
      obtain ⟨xa, xb, xc, xd, xe⟩ := x
      simp only at c0 c1 c2 c3 c4 bk hD
      have bk1 := bk.1; have bk2 := bk.2.1
      obtain ⟨y, ey⟩ : ∃ y, X - xb = y := ⟨_, rfl⟩
      have y1 : -9007199254740992 ≤ y := by omega
      have y2 : y ≤ 9007199254740992 := by omega
      rw [ey] at hD
      have ew : IntKind.i64.wrap (X - xb) = y := by rw [ey]; exact IntWalk.i64_in _ (by omega)
      have p0 := d2.1; have p1 := d2.2
      have k12 : (k : Int) ≤ 12 := by omega
      have d20 := dd.1; have d21 := dd.2
      clear e' eD eQ ex eX bi bk d2 dd md c0 c2 c3 c4
      go_wp2_with (fail)
      go_quiet (fail)
      go_wp2_with (fail)
      go_roundw
      case rel => exact ⟨k + 1, by omega, by go_num, by rw [NS.out], by have := HBr.out; (repeat (first | exact Below.refl _ _ | refine Below.drew ?_ | refine Hp.drewN ?_ _ | refine Below.setCell ?_ (by first | (simp; done) | (simp; omega) | omega) _ | refine Below.alloc ?_ (by first | (simp; done) | (simp; omega) | omega) _ | (refine Hp.step ?_ (by assumption))))⟩
      case measure => (simp [intOf] <;> omega)
    · obtain rfl : n = k := by omega
      have q0 := sqN_nn l (nth l i) n; have q1 := sqN_top l (nth l i) n
      have F : Hid (spr l (nth l i) = Fx.isq (sqN l (nth l i) n / ((n : Int) - 1))) := Lib.hid (by unfold spr; rw [HN.out])
      obtain ⟨Q, eQ⟩ : ∃ Q, sqN l (nth l i) n = Q := ⟨_, rfl⟩
      rw [eQ] at F q0 q1 md
      rw [eQ]
      have m0 := md.1; have m1 := md.2
      have tq : Q.tdiv ((n : Int) - 1) = Q / ((n : Int) - 1) := Int.tdiv_eq_ediv_of_nonneg q0
      obtain ⟨M, eM⟩ : ∃ M, Q / ((n : Int) - 1) = M := ⟨_, rfl⟩
      rw [eM] at F m0 m1 tq
      have SQ := Lib.hid (fun w => root_at (n := M) (by omega) (by omega) (Lib.hid F.out.symm) w)
      clear eQ eM md
      go_wp2_with (fail)
      refine (SQ.out _).mono ?_
      rintro en w2 ⟨rfl, rfl⟩
      go_wp2_with (fail)
      go_ret
      exact ⟨rfl, HBr.out⟩
set_option maxHeartbeats 4000000 in
theorem rSpread_ok (l : List Cd) (a : Option Addr) (c : Nat) (V : Val l) (i : Nat) (hi : i < l.length) (h2 : 2 ≤ l.length) (w : World) (S : Cs w a l.length (zof l)) :
    Calls Try.prog 17 #[.slice a l.length c, .int .i64 i] w fun e w' => e = .returned (.int .i64 (sprd l i)) ∧ Below w.heap.size w w' := by
  have hS := Lib.hid S
  have CK := Lib.hid (fun (W : World) (S : Cs W a l.length (zof l)) => rcheck_at (cap := c) (Lib.hid ((val_iff l).2 V)) S)
  have SP := Lib.hid (fun (W : World) S => rspread_ok l a c V i hi h2 W S)
  have E := Lib.hid (sprd_val V hi h2)
  obtain ⟨n, hn⟩ : ∃ n, l.length = n := ⟨_, rfl⟩
  rw [hn] at hS hi h2 CK SP ⊢
  have i1 : ¬ (n : Int) ≤ (i : Int) := by omega
  have i2 : ¬ (n : Int) < 2 := by omega
  have i3 : ¬ (i : Int) < 0 := by omega
  clear S V hn
  go_enter Try.func17, Try.ntmps17
  go_wp2_with (fail)
  refine (CK.out _ hS.out).mono ?_
  rintro en w1 ⟨rfl, B1⟩
  have HB := Lib.hid B1; have S1 := Lib.hid (hS.out.later B1)
  clear B1
  go_wp2_with (fail)
  refine (SP.out _ S1.out).mono ?_
  rintro en w2 ⟨rfl, B2⟩
  have HB2 := Lib.hid (bl_next HB.out B2)
  clear B2
  go_wp2_with (fail)
  go_ret
  exact ⟨by rw [E.out] <;> rfl, HB2.out⟩
set_option maxHeartbeats 4000000 in
theorem rSpread_bad (l : List Cd) (a : Option Addr) (c : Nat) {r : Int} (h : Hid (Cx.chk l.length (zof l) = r)) (hr : (r != 0) = true) (i : Int) (w : World) (S : Cs w a l.length (zof l)) :
    Calls Try.prog 17 #[.slice a l.length c, .int .i64 i] w fun e w' => e = .returned (.int .i64 (sprd l i)) ∧ Below w.heap.size w w' := by
  have hS := Lib.hid S; have E := Lib.hid (sprd_bad (i := i) h hr)
  clear S
  go_enter Try.func17, Try.ntmps17
  go_wp2_with (fail)
  refine (rcheck_at h hS.out).mono ?_
  rintro en w1 ⟨rfl, B1⟩
  have HB := Lib.hid B1
  clear B1
  go_wp2_with (fail)
  go_ret
  exact ⟨by rw [E.out] <;> rfl, HB.out⟩
set_option maxHeartbeats 4000000 in
theorem rSpread_out (l : List Cd) (a : Option Addr) (c : Nat) (V : Val l) (i : Int) (h : i < 0 ∨ (0 ≤ i ∧ (l.length : Int) ≤ i) ∨ (0 ≤ i ∧ i < (l.length : Int) ∧ (l.length : Int) < 2)) (w : World) (S : Cs w a l.length (zof l)) :
    Calls Try.prog 17 #[.slice a l.length c, .int .i64 i] w fun e w' => e = .returned (.int .i64 (sprd l i)) ∧ Below w.heap.size w w' := by
  have hS := Lib.hid S; have E := Lib.hid (sprd_out (l := l) (i := i) (by omega))
  have HC : Hid (Cx.chk l.length (zof l) = 0) := Lib.hid ((val_iff l).2 V)
  clear S
  rcases h with h | ⟨h, h1⟩ | ⟨h, h1, h2⟩
  all_goals
    go_enter Try.func17, Try.ntmps17
    go_wp2_with (fail)
    refine (rcheck_at HC hS.out).mono ?_
    rintro en w1 ⟨rfl, B1⟩
    have HB := Lib.hid B1
    clear B1
    go_wp2_with (fail)
    go_ret
    exact ⟨by rw [E.out] <;> rfl, HB.out⟩
theorem rSpread_any (l : List Cd) (a : Option Addr) (c : Nat) (i : Int) (w : World) (S : Cs w a l.length (zof l)) :
    Calls Try.prog 17 #[.slice a l.length c, .int .i64 i] w fun e w' => e = .returned (.int .i64 (sprd l i)) ∧ Below w.heap.size w w' := by
  by_cases hc : Cx.chk l.length (zof l) = 0
  · have V := (val_iff l).1 hc
    by_cases h : 0 ≤ i ∧ i < (l.length : Int) ∧ 2 ≤ l.length
    · obtain ⟨k, rfl⟩ := Int.eq_ofNat_of_zero_le h.1
      exact rSpread_ok l a c V k (by omega) h.2.2 w S
    · exact rSpread_out l a c V i (by omega) w S
  · exact rSpread_bad l a c (Lib.hid rfl) (by simpa using hc) i w S
set_option maxHeartbeats 4000000 in
theorem rprune_bad (l : List Cd) (a : Option Addr) (c : Nat) {r : Int} (h : Hid (Cx.chk l.length (zof l) = r)) (hr : (r != 0) = true) (keep : Int) (w : World) (S : Cs w a l.length (zof l)) :
    Calls Try.prog 19 #[.slice a l.length c, .int .i64 keep] w fun e w' => e = .returned (.tuple #[.slice none 0 0, .int .i64 r]) ∧ Below w.heap.size w w' := by
  have hS := Lib.hid S
  clear S
  go_enter Try.func19, Try.ntmps19
  go_wp2_with (fail)
  refine (rcheck_at h hS.out).mono ?_
  rintro en w1 ⟨rfl, B1⟩
  have HB := Lib.hid B1
  clear B1
  go_wp2_with (fail)
  go_ret2
  exact ⟨rfl, HB.out⟩
set_option maxHeartbeats 4000000 in
theorem rprune_range (l : List Cd) (a : Option Addr) (c : Nat) (V : Val l) (keep : Int) (hk : keep < 1) (w : World) (S : Cs w a l.length (zof l)) :
    Calls Try.prog 19 #[.slice a l.length c, .int .i64 keep] w fun e w' => e = .returned (.tuple #[.slice none 0 0, .int .i64 3]) ∧ Below w.heap.size w w' := by
  have hS := Lib.hid S
  have HC : Hid (Cx.chk l.length (zof l) = 0) := Lib.hid ((val_iff l).2 V)
  clear S
  go_enter Try.func19, Try.ntmps19
  go_wp2_with (fail)
  refine (rcheck_at HC hS.out).mono ?_
  rintro en w1 ⟨rfl, B1⟩
  have HB := Lib.hid B1
  clear B1
  go_wp2_with (fail)
  go_ret2
  exact ⟨rfl, HB.out⟩
set_option maxHeartbeats 16000000 in
set_option maxRecDepth 4000 in
theorem rprune_ok (l : List Cd) (V : Val l) (v0 : Value) (keep : Int) (hk : 1 ≤ keep) (w : World) (R : Rl w v0 l) :
    Calls Try.prog 19 #[v0, .int .i64 keep] w fun e w' => ∃ v, e = .returned (.tuple #[v, .int .i64 0]) ∧ Rl w' v (prune keep l) ∧ Below w.heap.size w w' := by
  obtain ⟨a, c, rfl, S⟩ := R.rd
  have hS := Lib.hid S; have HV := Lib.hid V; have HR0 := Lib.hid R
  have HC : Hid (Cx.chk l.length (zof l) = 0) := Lib.hid ((val_iff l).2 V)
  have hk' : ¬ keep < 1 := by omega
  clear S V R
  go_enter Try.func19, Try.ntmps19
  go_wp2_with (fail)
  refine (rcheck_at HC hS.out).mono ?_
  rintro en w1 ⟨rfl, B1⟩
  have HB := Lib.hid B1; have HR1 := Lib.hid (HR0.out.later B1)
  clear B1
  go_wp2_with (fail)
  refine (rorder_ok l HV.out _ _ HR1.out).mono ?_
  rintro en w2 ⟨v1, rfl, o0, B2⟩
  have HB2 := Lib.hid (bl_next HB.out B2); have O0 := Lib.hid o0.rl
  clear B2 o0
  go_wp2_with (fail)
  go_loopw [7] (fun v wr => ∃ m : List Cd, Rl wr v m ∧ Val m ∧ prn keep m.length m = prune keep l ∧ Below w.heap.size w wr) (fun v _ => lenW v)
  case atStart => exact ⟨ord l, O0.out, HV.out.ord, by unfold prune; rw [ord_len], HB2.out⟩
  case round =>
    rename World => wr
    obtain ⟨m, rl, vm, hp, hb⟩ := hrel
    have VM := Lib.hid vm; have HP := Lib.hid hp; have HBr := Lib.hid hb
    have szr := hb.size
    clear vm hp hb
    by_cases hg : keep < (m.length : Int)
    · rcases rl with ⟨rfl, _⟩ | ⟨hn, b, o, c', rfl, hc', sm⟩
      · simp at hg; omega
      have SM := Lib.hid sm
      have h2 : 2 ≤ m.length := by omega
      have n12 := VM.out.len
      have SP := Lib.hid (fun (i : Nat) (hi : i < m.length) W S => rspread_ok m (some ⟨b, o, none⟩) c' VM.out i hi h2 W S)
      have WI := Lib.hid (fun (i : Nat) (hi : i < m.length) (W : World) S => without_any m b o c' i hi hc' n12 W S)
      have fa := far_at m m.length (by omega)
      have wf := wst_far m m.length (by omega)
      have WL := Lib.hid (wst_lt m)
      have ST := Lib.hid (@prn_step keep m hg)
      have SY : Hid (¬ jt m m.length < (far m m.length).2 → m = prune keep l) := Lib.hid (fun h => by
        rw [← HP.out]; exact (prn_stay (fun x => h x.2)).symm)
      have EL := Lib.hid (fun (i : Nat) (hi : i < m.length) => show (m.eraseIdx i).length = m.length - 1 from List.length_eraseIdx_of_lt hi)
      have VE := Lib.hid (fun i => VM.out.sub (List.eraseIdx_sublist m i))
      have fa1 := fa.1
      have fa2 := fa.2
      rw [← wf] at fa1 fa2 ST
      rw [fa2] at ST SY
      have J1 := Lib.hid (jt_one m)
      obtain ⟨n, hnn⟩ : ∃ n, m.length = n := ⟨_, rfl⟩
      have HN := Lib.hid hnn
      rw [hnn] at hg hn SM SP WI EL h2 fa1 ST SY hc' n12
      rw [hnn]
      have hng : ¬ (n : Int) ≤ keep := by omega
      have n12' : (n : Int) ≤ 12 := by omega
      obtain ⟨b', o', e', _, _, _, _, z3, _⟩ := SM.out.elem (i := 0) hn
      obtain ⟨rfl, rfl⟩ : b = b' ∧ o = o' := by injection e' with e'; injection e' with e1 e2; exact ⟨e1, e2⟩
      rw [Nat.zero_mul, Nat.add_zero] at z3
      change wr.cell? _ = some (.int .i64 (nth m 0).d) at z3
      obtain ⟨X, eX⟩ : ∃ X, (nth m 0).d = X := ⟨_, rfl⟩
      rw [eX] at z3 J1
      have FA1 := Lib.hid fa1
      clear fa fa1 fa2 wf sm hnn e' eX
      go_wp2_with (fail)
      go_loopw [10, 8, 9] (fun vi vk vj wi => ∃ i : Nat, 1 ≤ i ∧ i ≤ n ∧ vi = .int .i64 i ∧ vk = .int .i64 (wst m i : Nat) ∧ vj = .int .i64 (jt m i) ∧ Below wr.heap.size wr wi) (fun vi _ _ _ => n - (intOf vi).toNat)
      case atStart => exact ⟨1, by omega, hn, rfl, rfl, by rw [J1.out], Below.refl _ _⟩
      case round =>
        rename World => wi
        obtain ⟨i, hi1, hi, rfl, rfl, rfl, hbi⟩ := hrel
        have HBi := Lib.hid hbi
        have SI := Lib.hid (SM.out.later hbi)
        clear hbi z3
        by_cases hlt : i < n
        · have kl := WL.out i (by omega)
          have MY := Lib.hid (@wst_yes m i (by omega)); have MO := Lib.hid (@wst_no m i (by omega))
          have JS := Lib.hid (show jt m (i + 1) = min (jt m i) (nth m i).d from rfl)
          have C1 := Lib.hid (SP.out i hlt)
          have C2 := Lib.hid (SP.out (wst m i) (by omega))
          obtain ⟨P, eP⟩ : ∃ P, spr m (nth m i) = P := ⟨_, rfl⟩
          rw [eP] at MY MO C1
          obtain ⟨k, hk⟩ : ∃ k, wst m i = k := ⟨_, rfl⟩
          rw [hk] at kl MY MO C2
          rw [hk]
          obtain ⟨Q, eQ⟩ : ∃ Q, spr m (nth m k) = Q := ⟨_, rfl⟩
          rw [eQ] at MY MO C2
          obtain ⟨J, eJ⟩ : ∃ J, jt m i = J := ⟨_, rfl⟩
          rw [eJ] at JS
          rw [eJ]
          obtain ⟨D, eD⟩ : ∃ D, (nth m i).d = D := ⟨_, rfl⟩
          have CD := Lib.hid (fun (W : World) (S : Cs W (some ⟨b, o, none⟩) n (zof m)) => show W.cell? ⟨b, o + i * 5 + 3, none⟩ = some (.int .i64 D) from by
            obtain ⟨b', o', e', _, _, _, _, y3, _⟩ := S.elem (i := i) hlt
            obtain ⟨rfl, rfl⟩ : b = b' ∧ o = o' := by injection e' with e'; injection e' with e1 e2; exact ⟨e1, e2⟩
            change W.cell? _ = some (.int .i64 (nth m i).d) at y3
            rw [y3, eD])
          rw [eD] at JS
          have IW := Lib.hid hi1
          clear eP eQ eJ eD hk hi1 kl
          by_cases g : Q ≤ P
          · have M2 := Lib.hid (MY.out g)
            clear MY MO
            go_wp2_with (fail)
            refine (C1.out _ SI.out).mono ?_
            rintro en w3 ⟨rfl, B3⟩
            have HB3 := Lib.hid (bl_next HBi.out B3); have S3 := Lib.hid (SI.out.later B3)
            clear B3
            go_wp2_with (fail)
            refine (C2.out _ S3.out).mono ?_
            rintro en w4 ⟨rfl, B4⟩
            have HB4 := Lib.hid (bl_next HB3.out B4)
            have cd := CD.out _ (S3.out.later B4)
            clear B4
            go_wp2_with (fail)
            go_roundw
            case rel => exact ⟨i + 1, by omega, by omega, by go_num, by rw [M2.out], by rw [JS.out], HB4.out⟩
            case measure => (simp [intOf] <;> omega)
          · have M2 := Lib.hid (MO.out g)
            clear MY MO
            go_wp2_with (fail)
            refine (C1.out _ SI.out).mono ?_
            rintro en w3 ⟨rfl, B3⟩
            have HB3 := Lib.hid (bl_next HBi.out B3); have S3 := Lib.hid (SI.out.later B3)
            clear B3
            go_wp2_with (fail)
            refine (C2.out _ S3.out).mono ?_
            rintro en w4 ⟨rfl, B4⟩
            have HB4 := Lib.hid (bl_next HB3.out B4)
            have cd := CD.out _ (S3.out.later B4)
            clear B4
            go_wp2_with (fail)
            go_roundw
            case rel => exact ⟨i + 1, by omega, by omega, by go_num, by rw [M2.out], by rw [JS.out], HB4.out⟩
            case measure => (simp [intOf] <;> omega)
        · obtain rfl : n = i := by omega
          have C1 := Lib.hid (SP.out (wst m n) FA1.out)
          obtain ⟨k, hk⟩ : ∃ k, wst m n = k := ⟨_, rfl⟩
          rw [hk] at FA1 C1 ST SY
          rw [hk]
          obtain ⟨P, eP⟩ : ∃ P, spr m (nth m k) = P := ⟨_, rfl⟩
          rw [eP] at C1 ST SY
          obtain ⟨J, eJ⟩ : ∃ J, jt m n = J := ⟨_, rfl⟩
          rw [eJ] at ST SY
          rw [eJ]
          have NP := Lib.hid hn; have HCC := Lib.hid hc'
          clear eP eJ hk
          by_cases hj : P ≤ J
          · have SE := Lib.hid (SY.out (by omega))
            clear SY ST
            go_wp2_with (fail)
            refine (C1.out _ SI.out).mono ?_
            rintro en w3 ⟨rfl, B3⟩
            have HB3 := Lib.hid (HBr.out.trans ((bl_next HBi.out B3).mono szr)); have S3 := Lib.hid (SI.out.later B3)
            clear B3
            go_wp2_with (fail)
            go_ret2
            exact ⟨_, rfl, by rw [← SE.out]; exact .inr ⟨by rw [HN.out]; exact NP.out, b, o, c', by rw [HN.out] <;> rfl, by rw [HN.out]; exact HCC.out, by rw [HN.out]; exact S3.out⟩, HB3.out⟩
          · have ST2 := Lib.hid (ST.out (by omega))
            clear SY ST
            go_wp2_with (fail)
            refine (C1.out _ SI.out).mono ?_
            rintro en w3 ⟨rfl, B3⟩
            have HB3 := Lib.hid (HBr.out.trans ((bl_next HBi.out B3).mono szr)); have S3 := Lib.hid (SI.out.later B3)
            clear B3
            go_wp2_with (fail)
            refine (WI.out k FA1.out _ S3.out).mono ?_
            rintro en w4 ⟨v4, rfl, R4, B4⟩
            have HB4 := Lib.hid (bl_next HB3.out B4); have HR4 := Lib.hid R4
            clear B4 R4
            go_wp2_with (fail)
            go_roundw
            case rel => exact ⟨m.eraseIdx k, HR4.out.rl, VE.out k, by rw [← ST2.out]; have := HP.out; rw [HN.out] at this; exact this, HB4.out⟩
            case measure =>
              obtain ⟨a9, c9, e9, _⟩ := HR4.out.rd
              rw [e9, EL.out k FA1.out]
              have := NP.out
              simp [lenW] <;> omega
    · obtain ⟨a9, c9, rfl, S9⟩ := rl.rd
      have S9' := Lib.hid rl
      have DN := Lib.hid (show m = prune keep l by rw [← HP.out]; exact (prn_stay (fun x => hg x.1)).symm)
      have hg' : (m.length : Int) ≤ keep := by omega
      clear S9 rl hg
      go_wp2_with (fail)
      go_ret2
      exact ⟨_, rfl, by rw [← DN.out]; exact S9'.out, HBr.out⟩
end Go.Proofs.Ytbbdeagllhmdiaa.CxW
