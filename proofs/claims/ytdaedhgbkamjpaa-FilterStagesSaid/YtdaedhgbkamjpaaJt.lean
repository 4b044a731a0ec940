/- The law FilterStages of layer 22. -/
import Derived.Test.YtdaedhgbkamjpaaJy
set_option linter.unusedVariables false
set_option linter.unusedSimpArgs false
namespace Go.Proofs.Ytdaedhgbkamjpaa.Jx
/-- the samples that were taken among the first k -/
def kp (l : List Sm) : Nat → List Sm
  | 0 => []
  | k + 1 => if addE (run l k) (nth l k) = 0 then kp l k ++ [nth l k] else kp l k
theorem drop_push {q : List Sm} {x : Sm} : push (q.drop (q.length - 8)) x = (q ++ [x]).drop ((q ++ [x]).length - 8) := by
  unfold push
  by_cases h : 8 ≤ q.length
  · rw [if_pos (by rw [List.length_drop]; omega), List.drop_drop, List.drop_append_of_le_length (by (rw [List.length_append]; simp <;> omega))]
    congr 2
    rw [List.length_append]; simp; omega
  · rw [if_neg (by rw [List.length_drop]; omega), show q.length - 8 = 0 by omega, show (q ++ [x]).length - 8 = 0 by (rw [List.length_append]; simp <;> omega)]
    rfl
theorem run_kp (l : List Sm) : ∀ k, run l k = (kp l k).drop ((kp l k).length - 8)
  | 0 => rfl
  | k + 1 => by
    simp only [run, kp]
    by_cases h : addE (run l k) (nth l k) = 0
    · rw [if_pos h, addL_yes h, ← drop_push, ← run_kp l k]
    · rw [if_neg h, addL_no h, run_kp l k]
theorem kp_len (l : List Sm) : ∀ k, (kp l k).length ≤ k
  | 0 => by simp [kp]
  | k + 1 => by
    have := kp_len l k
    simp only [kp]; split
    · rw [List.length_append]; simp; exact this
    · omega
theorem drop_last {q : List Sm} (h : 0 < q.length) : lastT (q.drop (q.length - 8)) = lastT q := by
  unfold lastT
  rw [nth_drop, List.length_drop]
  congr 2; omega
theorem drop_nil {q : List Sm} : q.drop (q.length - 8) = [] ↔ q = [] := by
  rw [List.drop_eq_nil_iff]
  constructor
  · intro h; exact List.eq_nil_of_length_eq_zero (by omega)
  · intro h; rw [h]; simp
theorem good_iff (l : List Sm) (k : Nat) : addE (run l k) (nth l k) = 0 ↔ okb (nth l k) = true ∧ (kp l k = [] ∨ lastT (kp l k) < (nth l k).t) := by
  have r := run_kp l k
  constructor
  · intro h
    unfold addE at h
    split at h
    · rename_i h1
      split at h
      · cases h
      · rename_i h2
        refine ⟨h1, ?_⟩
        by_cases e : kp l k = []
        · exact .inl e
        · right
          have lp : 0 < (kp l k).length := List.length_pos_iff.2 e
          apply Int.not_le.1
          intro g
          apply h2
          rw [r, drop_last lp]
          exact ⟨fun e2 => e (drop_nil.1 e2), g⟩
    · cases h
  · rintro ⟨h1, h2⟩
    refine addE_yes h1 ?_
    rcases h2 with h2 | h2
    · left; rw [r]; exact drop_nil.2 h2
    · by_cases e : kp l k = []
      · left; rw [r]; exact drop_nil.2 e
      · right; rw [r, drop_last (List.length_pos_iff.2 e)]; exact h2
theorem kp_yes {l : List Sm} {k : Nat} (h : addE (run l k) (nth l k) = 0) : kp l (k + 1) = kp l k ++ [nth l k] := by simp only [kp]; rw [if_pos h]
theorem kp_no {l : List Sm} {k : Nat} (h : addE (run l k) (nth l k) ≠ 0) : kp l (k + 1) = kp l k := by simp only [kp]; rw [if_neg h]
end Go.Proofs.Ytdaedhgbkamjpaa.Jx
namespace Go.Proofs.Ytdaedhgbkamjpaa.JxW
open Go.RowKit FxW
open Go.Proofs.Ytdaedhgbkamjpaa.Jx
set_option maxHeartbeats 4000000 in
theorem lstages_tol (tol : Int) (l : List Sm) (a : Option Addr) (c : Nat) (h : tol < 0 ∨ (0 ≤ tol ∧ 500000 < tol)) (w : World) :
    Calls Try.prog 5 #[.int .i64 tol, .slice a l.length c] w fun e w' => e = .returned (.bool true) ∧ Below w.heap.size w w' := by
  have HB1 := Lib.hid (Below.refl w.heap.size w)
  rcases h with h | ⟨h, h1⟩
  · have NW := Lib.hid (new_no tol (.inl h))
    go_enter Try.func5, Try.ntmps5
    go_wp2_with (fail)
    refine (NW.out _).mono ?_
    rintro en w1 ⟨rfl, rfl⟩
    go_wp2_with (fail)
    refine (awake22_any _).mono ?_
    rintro en wz ⟨rfl, Bz⟩
    have HBz := Lib.hid (HB1.out.trans (Bz.mono HB1.out.size))
    clear Bz
    go_wp2_with (fail)
    go_ret
    exact ⟨rfl, HBz.out⟩
  · have NW := Lib.hid (new_no tol (.inr ⟨h, h1⟩))
    have hd : decide (tol ≤ 500000) = false := decide_eq_false (by omega)
    go_enter Try.func5, Try.ntmps5
    go_wp2_with (fail)
    refine (NW.out _).mono ?_
    rintro en w1 ⟨rfl, rfl⟩
    go_wp2_with (fail)
    refine (awake22_any _).mono ?_
    rintro en wz ⟨rfl, Bz⟩
    have HBz := Lib.hid (HB1.out.trans (Bz.mono HB1.out.size))
    clear Bz
    go_wp2_with (fail)
    go_ret
    exact ⟨rfl, HBz.out⟩
set_option maxHeartbeats 4000000 in
theorem lstages_long (tol : Int) (l : List Sm) (a : Option Addr) (c : Nat) (h0 : 0 ≤ tol) (h1 : tol ≤ 500000) (h : 40 < l.length) (w : World) :
    Calls Try.prog 5 #[.int .i64 tol, .slice a l.length c] w fun e w' => e = .returned (.bool true) ∧ Below w.heap.size w w' := by
  obtain ⟨n, hn⟩ : ∃ n, l.length = n := ⟨_, rfl⟩
  rw [hn] at h ⊢
  have h' : (40 : Int) < (n : Int) := by omega
  clear hn h
  go_enter Try.func5, Try.ntmps5
  go_wp2_with (fail)
  refine (new_ok tol h0 h1 _).mono ?_
  rintro en w1 ⟨g, hg, rfl, f1, B1⟩
  have HB1 := Lib.hid B1
  clear hg f1 B1
  go_wp2_with (fail)
  refine (awake22_any _).mono ?_
  rintro en wz ⟨rfl, Bz⟩
  have HBz := Lib.hid (HB1.out.trans (Bz.mono HB1.out.size))
  clear Bz
  go_wp2_with (fail)
  go_ret
  exact ⟨rfl, HBz.out⟩
set_option maxHeartbeats 32000000 in
set_option maxRecDepth 100000 in
theorem lstages_main (tol : Int) (l : List Sm) (a : Option Addr) (c : Nat) (h0 : 0 ≤ tol) (h1 : tol ≤ 500000) (h : l.length ≤ 40) (w : World) (S : Cs w a l.length (zof l)) :
    Calls Try.prog 5 #[.int .i64 tol, .slice a l.length c] w fun e w' => e = .returned (.bool true) ∧ Below w.heap.size w w' := by
  obtain ⟨n, hn⟩ : ∃ n, l.length = n := ⟨_, rfl⟩
  rw [hn] at h S ⊢
  have h' : ¬ (40 : Int) < (n : Int) := by omega
  have hS := Lib.hid S
  clear hn S
  go_enter Try.func5, Try.ntmps5
  go_wp2_with (fail)
  refine (new_ok tol h0 h1 _).mono ?_
  rintro en w1 ⟨g, hg, rfl, f1, B1⟩
  have HG := Lib.hid hg; have F1 := Lib.hid f1; have HB1 := Lib.hid B1; have GL := Lib.hid f1.lt
  clear hg f1 B1
  go_wp2_with (fail)
  go_loopw [7, 6] (fun vi vk wr => ∃ i : Nat, i ≤ n ∧ vi = .int .i64 i ∧ Fi wr g tol (run l i) false 0 ∧ Rk wr w1.heap.size vk (kp l i) ∧ Below w.heap.size w wr ∧ w1.heap.size ≤ wr.heap.size) (fun vi _ _ => n - (intOf vi).toNat)
  case atStart => exact ⟨0, by omega, rfl, F1.out, Rk.nil _ _, HB1.out, Nat.le_refl _⟩
  case round =>
    rename World => wr
    obtain ⟨i, hi, rfl, f, rk, hb, sz⟩ := hrel
    have FR := Lib.hid f; have HR := Lib.hid hb; have KR := Lib.hid rk; have SZ := Lib.hid sz
    by_cases hlt : i < n
    · have Sr := Lib.hid (hS.out.later hb)
      obtain ⟨b, o, rfl, lb, x0, x1, x2, x3⟩ := Sr.out.elem (i := i) hlt
      have Sb := Lib.hid Sr.out
      change wr.cell? _ = some (.int .i64 (nth l i).o) at x0
      change wr.cell? _ = some (.int .i64 (nth l i).d) at x1
      change wr.cell? _ = some (.int .i64 (nth l i).p) at x2
      change wr.cell? _ = some (.int .i64 (nth l i).t) at x3
      have RN := Lib.hid (show run l (i + 1) = addL (run l i) (nth l i) from rfl)
      have GI := good_iff l i
      have KY := Lib.hid (@kp_yes l i); have KN := Lib.hid (@kp_no l i)
      have RK2 := Lib.hid (run_kp l (i + 1))
      have V := Lib.hid (run_val l i); have V2 := Lib.hid (run_val l (i + 1))
      have kl := kp_len l i
      have kl2 := kp_len l (i + 1)
      have QE := Lib.hid (show kp l i = [] ∨ kp l i ≠ [] from by by_cases h : kp l i = []; exact .inl h; exact .inr h)
      have AE : addE (run l i) (nth l i) = 0 ∨ addE (run l i) (nth l i) ≠ 0 := by omega
      obtain ⟨x, ex⟩ : ∃ x, nth l i = x := ⟨_, rfl⟩
      rw [ex] at x0 x1 x2 x3 RN GI KY KN AE
      have EX0 := Lib.hid ex
      obtain ⟨xo, xd, xp, xt⟩ := x
      simp only at x0 x1 x2 x3
      have EX : Hid (nth l i = ⟨xo, xd, xp, xt⟩) := EX0
      have BG := Lib.hid (show b ≠ g from by
        rcases hS.out.cells with e | ⟨b2, o2, e2, lb2, _⟩
        · omega
        · injection e2 with e2; injection e2 with e3 _; subst e3; have := HG.out; omega)
      obtain ⟨q, hq⟩ : ∃ q, kp l i = q := ⟨_, rfl⟩
      rw [hq] at GI KR KY KN QE kl
      obtain ⟨q2, hq2⟩ : ∃ q2, kp l (i + 1) = q2 := ⟨_, rfl⟩
      rw [hq2] at KY KN RK2 kl2
      have HQ2 := Lib.hid hq2
      obtain ⟨m, hm⟩ : ∃ m, run l i = m := ⟨_, rfl⟩
      rw [hm] at FR RN GI KY KN V AE
      obtain ⟨m2, hm2⟩ : ∃ m2, run l (i + 1) = m2 := ⟨_, rfl⟩
      rw [hm2] at RN RK2 V2
      have HM2 := Lib.hid hm2
      have n40 : i < 40 := by omega
      have okc : Sx.okS xo xd xp xt = true ∨ Sx.okS xo xd xp xt = false := by cases Sx.okS xo xd xp xt <;> simp
      have GI2 := Lib.hid GI
      have KL := Lib.hid kl; have KL2 := Lib.hid kl2
      clear f rk hb sz ex hq hq2 hm hm2 GI kl kl2
      rcases okc with hok | hok
      · have CKX := Lib.hid (Sx.chk_ok hok)
        rcases QE.out with hq0 | hq0
        · have AEQ : Hid (addE m ⟨xo, xd, xp, xt⟩ = 0) := Lib.hid (GI2.out.2 ⟨hok, .inl hq0⟩)
          have AR := AEQ
          obtain ⟨a7, c7, rv, _, _⟩ := KR.out.rd
          have HQ0 := Lib.hid hq0
          rw [hq0, show ([] : List Sm).length = 0 from rfl] at rv
          subst rv
          clear hok AE hq0
          go_wp2_with (fail)
          refine Qb.region (by kernel_rfl) (by kernel_rfl) ?_
          have k0 := Qb.cell x0 lb; have k1 := Qb.cell x1 lb; have k2 := Qb.cell x2 lb; have k3 := Qb.cell x3 lb
          repeat (go_big_quiet_step (first | (go_at_call 28; exact scheck_callq CKX)))
          refine wpQuiet_nil ?_
          rintro w9 ⟨⟨wy, hb9⟩, rfl⟩
          have HB9 := Lib.hid (HR.out.trans (hb9.mono HR.out.size)); have F9 := Lib.hid (FR.out.later hb9); have K9 := Lib.hid (KR.out.later hb9); have S9 := Lib.hid (Sb.out.later hb9); have Z9 := Lib.hid (Nat.le_trans SZ.out hb9.size)
          obtain ⟨b', o', e', lb9, x0', x1', x2', x3'⟩ := S9.out.elem (i := i) hlt
          obtain ⟨rfl, rfl⟩ : b = b' ∧ o = o' := by injection e' with e'; injection e' with e1 e2; exact ⟨e1, e2⟩
          change w9.cell? _ = some (.int .i64 (nth l i).o) at x0'
          change w9.cell? _ = some (.int .i64 (nth l i).d) at x1'
          change w9.cell? _ = some (.int .i64 (nth l i).p) at x2'
          change w9.cell? _ = some (.int .i64 (nth l i).t) at x3'
          rw [EX.out] at x0' x1' x2' x3'
          simp only at x0' x1' x2' x3'
          clear hb9 k0 k1 k2 k3 x0 x1 x2 x3 e'
          go_wp2_with (fail)
          refine (addf_at V.out AR.out rfl _ F9.out).mono ?_
          rintro en wa ⟨rfl, ad⟩
          have HBa := Lib.hid (ad.but.toBelow HG.out HB9.out HB9.out.size); have Fa := Lib.hid ad.fi; have Ka := Lib.hid (K9.out.but ad.but GL.out); have Za := Lib.hid (Nat.le_trans Z9.out ad.but.size)
          have Sa := Lib.hid (show Cs wa (some ⟨b, o, none⟩) n (zof l) from Cs.but S9.out ad.but (by have := BG.out; omega))
          clear ad x0' x1' x2' x3'
          rw [← RN.out] at Fa
          obtain ⟨b', o', e', lba, x0, x1, x2, x3⟩ := Sa.out.elem (i := i) hlt
          obtain ⟨rfl, rfl⟩ : b = b' ∧ o = o' := by injection e' with e'; injection e' with e1 e2; exact ⟨e1, e2⟩
          change wa.cell? _ = some (.int .i64 (nth l i).o) at x0
          change wa.cell? _ = some (.int .i64 (nth l i).d) at x1
          change wa.cell? _ = some (.int .i64 (nth l i).p) at x2
          change wa.cell? _ = some (.int .i64 (nth l i).t) at x3
          rw [EX.out] at x0 x1 x2 x3
          simp only at x0 x1 x2 x3
          obtain ⟨wx, hwx⟩ : ∃ wx, wx = wa.alloc (.cells #[.int .i64 xo, .int .i64 xd, .int .i64 xp, .int .i64 xt] 29) := ⟨_, rfl⟩
          have BXa : Hid (Below wa.heap.size wa wx) := Lib.hid (by rw [hwx]; exact (Below.refl _ _).alloc (Nat.le_refl _) _)
          have Rx := Lib.hid (Ka.out.later BXa.out); have Fx := Lib.hid (Fa.out.later BXa.out); have HBx := Lib.hid (HBa.out.trans (BXa.out.mono HBa.out.size)); have Zx := Lib.hid (Nat.le_trans Za.out BXa.out.size)
          have BM := Lib.hid (show wx.heap[wa.heap.size]? = some (.cells #[.int .i64 xo, .int .i64 xd, .int .i64 xp, .int .i64 xt] 29 (0, 0)) from by rw [hwx]; exact Hp.blk_new wa _)
          have smq := Lib.hid (show q.length ≤ 1000000 by have := KL.out; omega)
          have HWX := Lib.hid hwx
          rw [hwx] at Rx BM Zx
          clear hwx e'
          go_wp2_with (at_builtin; refine append_smp (l := q) (v := (.slice a7 0 c7)) (x := ⟨xo, xd, xp, xt⟩) rfl (.tmp 74) (.tmp 79) rfl (by rfl) Rx.out wa.heap.size (by rfl) (by exact BM.out) smq.out Zx.out ?_; intro vz wz RZ GZ; have HRZ := Lib.hid RZ; have HGZ := Lib.hid GZ; clear RZ GZ)
          rw [← HWX.out] at HGZ Rx Zx
          have Fz := Lib.hid (Fi.grown Fx.out HGZ.out Rx.out GL.out)
          have HBz0 := Lib.hid (Rk.below Rx.out (by have := HB1.out.size; exact this) HGZ.out HBx.out HBx.out.size)
          have Zz := Lib.hid (Nat.le_trans Zx.out HGZ.out.size)
          have KZ : Hid (Rk wz w1.heap.size vz q2) := Lib.hid (by rw [KY.out AEQ.out]; exact HRZ.out)
          clear x0 x1 x2 x3
          have RL := Rk.rl KZ.out
          obtain ⟨nq, hnq⟩ : ∃ nq, q2.length = nq := ⟨_, rfl⟩
          have nql : nq ≤ 40 := by (have := KL2.out; omega)
          have M8 : Hid (m2.length = nq - (nq - 8)) := Lib.hid (by rw [RK2.out, List.length_drop, hnq])
          have m8 := V2.out.len
          rcases RL with ⟨qe, a9, c9, hv⟩ | ⟨qp, b9, o9, c9, hv, hc9, s9⟩
          · exfalso; rw [KY.out AEQ.out] at qe; simp at qe
          · rw [hnq] at qp hv hc9 s9
            have HV := Lib.hid hv; have S9q := Lib.hid s9
            subst hv
            by_cases h8 : nq ≤ 8
            · have hmn : min (nq : Int) 8 = (nq : Int) := by omega
              have ML : Hid (m2.length = nq) := Lib.hid (by rw [M8.out]; omega)
              have MQ : Hid (m2 = q2) := Lib.hid (by rw [RK2.out, hnq, show nq - 8 = 0 by omega]; rfl)
              have c0 : ¬ c9 = 0 := by omega
              have e0 : (nq : Int) - (nq : Int) = 0 := by omega
              clear hnq
              go_wp2_with (fail)
              refine (samples_any V2.out _ Fz.out).mono ?_
              rintro en wb ⟨vb, rfl, ob, Bb⟩
              obtain ⟨ab, cb, rfl, sb⟩ := ob.rd
              have HBb := Lib.hid (HBz0.out.trans (Bb.mono HBz0.out.size)); have Fb := Lib.hid (Fz.out.later Bb); have Kb := Lib.hid (KZ.out.later Bb); have Zb := Lib.hid (Nat.le_trans Zz.out Bb.size)
              rw [ML.out] at sb ⊢
              have Sbb := Lib.hid sb; have Sq := Lib.hid (show Cs wb (some ⟨b9, o9, none⟩) nq (zof m2) from by rw [MQ.out]; exact S9q.out.later Bb)
              clear ob Bb sb
              go_wp2_with (fail)
              refine (len_any _ Fb.out).mono ?_
              rw [ML.out]
              rintro en wc ⟨rfl, rfl⟩
              go_wp2_with (fail)
              refine (same_at ML.out ML.out (by omega) _ Sbb.out Sq.out).mono ?_
              rintro en wd ⟨rfl, Bd⟩
              have HBd := Lib.hid (HBb.out.trans (Bd.mono HBb.out.size)); have Fd := Lib.hid (Fb.out.later Bd); have Kd := Lib.hid (Kb.out.later Bd); have Zd := Lib.hid (Nat.le_trans Zb.out Bd.size)
              clear Bd
              go_wp2_with (fail)
              go_roundw
              case rel => exact ⟨i + 1, by omega, by go_num, by rw [HM2.out]; exact Fd.out, by rw [HQ2.out]; exact Kd.out, HBd.out, Zd.out⟩
              case measure => (simp [intOf] <;> omega)
            · have hmn : min (nq : Int) 8 = 8 := by omega
              have ML : Hid (m2.length = 8) := Lib.hid (by rw [M8.out]; omega)
              obtain ⟨j, hj⟩ : ∃ j, nq - 8 = j := ⟨_, rfl⟩
              have MQ : Hid (m2 = q2.drop j) := Lib.hid (by rw [RK2.out, hnq, hj])
              have c0 : ¬ c9 = j := by omega
              have e0 : (nq : Int) - 8 = (j : Int) := by omega
              have e2 : IntKind.i64.wrap ((nq : Int) - 8) = (j : Int) := by rw [e0]; exact IntWalk.i64_in _ (by omega)
              have j40 : (j : Int) ≤ 40 := by omega
              have jn : (j : Int) ≤ (nq : Int) := by omega
              have jn2 : j ≤ nq := by omega
              have hjc : j ≤ c9 := by omega
              have nj : nq - j = 8 := by omega
              clear hnq hj
              go_wp2_with (fail)
              refine (samples_any V2.out _ Fz.out).mono ?_
              rintro en wb ⟨vb, rfl, ob, Bb⟩
              obtain ⟨ab, cb, rfl, sb⟩ := ob.rd
              have HBb := Lib.hid (HBz0.out.trans (Bb.mono HBz0.out.size)); have Fb := Lib.hid (Fz.out.later Bb); have Kb := Lib.hid (KZ.out.later Bb); have Zb := Lib.hid (Nat.le_trans Zz.out Bb.size)
              rw [ML.out] at sb ⊢
              have Sbb := Lib.hid sb
              have Sq := Lib.hid (show Cs wb (some ⟨b9, o9 + j * 4, none⟩) 8 (zof m2) from by
                have s := S9q.out.later Bb
                refine ⟨.inr ⟨b9, o9 + j * 4, rfl, cs_lt s (by omega), fun i k hi hk => ?_⟩⟩
                have := cs_at' s (j + i) k (by omega) hk
                rw [show o9 + ((j + i) * 4 + k) = o9 + j * 4 + (i * 4 + k) by omega] at this
                rw [this, MQ.out]; unfold zof; rw [nth_drop])
              clear ob Bb sb
              go_wp2_with (fail)
              refine (len_any _ Fb.out).mono ?_
              rw [ML.out]
              rintro en wc ⟨rfl, rfl⟩
              go_wp2_with (fail)
              refine (same_at ML.out ML.out (by omega) _ Sbb.out Sq.out).mono ?_
              rintro en wd ⟨rfl, Bd⟩
              have HBd := Lib.hid (HBb.out.trans (Bd.mono HBb.out.size)); have Fd := Lib.hid (Fb.out.later Bd); have Kd := Lib.hid (Kb.out.later Bd); have Zd := Lib.hid (Nat.le_trans Zb.out Bd.size)
              clear Bd
              go_wp2_with (fail)
              go_roundw
              case rel => exact ⟨i + 1, by omega, by go_num, by rw [HM2.out]; exact Fd.out, by rw [HQ2.out]; exact Kd.out, HBd.out, Zd.out⟩
              case measure => (simp [intOf] <;> omega)
        · have lp : 0 < q.length := List.length_pos_iff.2 hq0
          obtain ⟨gk, ck, rv, sk⟩ := Rk.rd0 KR.out lp
          obtain ⟨nk, hnk⟩ : ∃ nk, q.length = nk := ⟨_, rfl⟩
          obtain ⟨k, hk⟩ : ∃ k, nk = k + 1 := ⟨nk - 1, by omega⟩
          have HK := Lib.hid hk
          rw [hnk] at rv sk lp
          subst rv
          obtain ⟨by_, oy, ey, ly, _, _, _, y3⟩ := sk.elem (i := k) (by omega)
          obtain ⟨rfl, rfl⟩ : gk = by_ ∧ 0 = oy := by injection ey with ey; injection ey with e1 e2; exact ⟨e1, e2⟩
          change wr.cell? _ = some (.int .i64 (nth q k).t) at y3
          have LQ : lastT q = (nth q k).t := by unfold lastT; rw [hnk, hk]; rfl
          obtain ⟨T, eT⟩ : ∃ T, (nth q k).t = T := ⟨_, rfl⟩
          rw [eT] at y3 LQ
          rw [Nat.zero_add] at y3
          have k40 : (k : Int) ≤ 40 := by (have := KL.out; omega)
          have nk40 : (nk : Int) ≤ 40 := by (have := KL.out; omega)
          have qz : ((nk : Int) == 0) = false := by simp; omega
          have j1 : IntKind.i64.wrap ((nk : Int) - 1) = (k : Int) := by rw [show (nk : Int) - 1 = k by omega]; exact IntWalk.i64_in _ (by omega)
          have j2 : (nk : Int) - 1 = k := by omega
          have kk : k < nk := by omega
          have lpI : (0 : Int) < (nk : Int) := by omega
          have HL := Lib.hid LQ; have HQ0 := Lib.hid hq0
          by_cases hT : T < xt
          · have AEQ : Hid (addE m ⟨xo, xd, xp, xt⟩ = 0) := Lib.hid (GI2.out.2 ⟨hok, .inr (by rw [LQ]; exact hT)⟩)
            have AR := AEQ
            clear hok AE hq0 sk hk hnk LQ eT ey
            go_wp2_with (fail)
            refine Qb.region (by kernel_rfl) (by kernel_rfl) ?_
            have k0 := Qb.cell x0 lb; have k1 := Qb.cell x1 lb; have k2 := Qb.cell x2 lb; have k3 := Qb.cell x3 lb
            have m3 := Qb.cell y3 ly
            repeat (go_big_quiet_step (first | (go_at_call 28; exact scheck_callq CKX)))
            refine wpQuiet_nil ?_
            rintro w9 ⟨⟨wy, hb9⟩, rfl⟩
            have HB9 := Lib.hid (HR.out.trans (hb9.mono HR.out.size)); have F9 := Lib.hid (FR.out.later hb9); have K9 := Lib.hid (KR.out.later hb9); have S9 := Lib.hid (Sb.out.later hb9); have Z9 := Lib.hid (Nat.le_trans SZ.out hb9.size)
            obtain ⟨b', o', e', lb9, x0', x1', x2', x3'⟩ := S9.out.elem (i := i) hlt
            obtain ⟨rfl, rfl⟩ : b = b' ∧ o = o' := by injection e' with e'; injection e' with e1 e2; exact ⟨e1, e2⟩
            change w9.cell? _ = some (.int .i64 (nth l i).o) at x0'
            change w9.cell? _ = some (.int .i64 (nth l i).d) at x1'
            change w9.cell? _ = some (.int .i64 (nth l i).p) at x2'
            change w9.cell? _ = some (.int .i64 (nth l i).t) at x3'
            rw [EX.out] at x0' x1' x2' x3'
            simp only at x0' x1' x2' x3'
            clear hb9 k0 k1 k2 k3 x0 x1 x2 x3 e' m3 y3
            go_wp2_with (fail)
            refine (addf_at V.out AR.out rfl _ F9.out).mono ?_
            rintro en wa ⟨rfl, ad⟩
            have HBa := Lib.hid (ad.but.toBelow HG.out HB9.out HB9.out.size); have Fa := Lib.hid ad.fi; have Ka := Lib.hid (K9.out.but ad.but GL.out); have Za := Lib.hid (Nat.le_trans Z9.out ad.but.size)
            have Sa := Lib.hid (show Cs wa (some ⟨b, o, none⟩) n (zof l) from Cs.but S9.out ad.but (by have := BG.out; omega))
            clear ad x0' x1' x2' x3'
            rw [← RN.out] at Fa
            obtain ⟨b', o', e', lba, x0, x1, x2, x3⟩ := Sa.out.elem (i := i) hlt
            obtain ⟨rfl, rfl⟩ : b = b' ∧ o = o' := by injection e' with e'; injection e' with e1 e2; exact ⟨e1, e2⟩
            change wa.cell? _ = some (.int .i64 (nth l i).o) at x0
            change wa.cell? _ = some (.int .i64 (nth l i).d) at x1
            change wa.cell? _ = some (.int .i64 (nth l i).p) at x2
            change wa.cell? _ = some (.int .i64 (nth l i).t) at x3
            rw [EX.out] at x0 x1 x2 x3
            simp only at x0 x1 x2 x3
            obtain ⟨wx, hwx⟩ : ∃ wx, wx = wa.alloc (.cells #[.int .i64 xo, .int .i64 xd, .int .i64 xp, .int .i64 xt] 29) := ⟨_, rfl⟩
            have BXa : Hid (Below wa.heap.size wa wx) := Lib.hid (by rw [hwx]; exact (Below.refl _ _).alloc (Nat.le_refl _) _)
            have Rx := Lib.hid (Ka.out.later BXa.out); have Fx := Lib.hid (Fa.out.later BXa.out); have HBx := Lib.hid (HBa.out.trans (BXa.out.mono HBa.out.size)); have Zx := Lib.hid (Nat.le_trans Za.out BXa.out.size)
            have BM := Lib.hid (show wx.heap[wa.heap.size]? = some (.cells #[.int .i64 xo, .int .i64 xd, .int .i64 xp, .int .i64 xt] 29 (0, 0)) from by rw [hwx]; exact Hp.blk_new wa _)
            have smq := Lib.hid (show q.length ≤ 1000000 by have := KL.out; omega)
            have HWX := Lib.hid hwx
            rw [hwx] at Rx BM Zx
            clear hwx e'
            go_wp2_with (at_builtin; refine append_smp (l := q) (v := (.slice (some ⟨gk, 0, none⟩) nk ck)) (x := ⟨xo, xd, xp, xt⟩) rfl (.tmp 74) (.tmp 79) rfl (by rfl) Rx.out wa.heap.size (by rfl) (by exact BM.out) smq.out Zx.out ?_; intro vz wz RZ GZ; have HRZ := Lib.hid RZ; have HGZ := Lib.hid GZ; clear RZ GZ)
            rw [← HWX.out] at HGZ Rx Zx
            have Fz := Lib.hid (Fi.grown Fx.out HGZ.out Rx.out GL.out)
            have HBz0 := Lib.hid (Rk.below Rx.out (by have := HB1.out.size; exact this) HGZ.out HBx.out HBx.out.size)
            have Zz := Lib.hid (Nat.le_trans Zx.out HGZ.out.size)
            have KZ : Hid (Rk wz w1.heap.size vz q2) := Lib.hid (by rw [KY.out AEQ.out]; exact HRZ.out)
            clear x0 x1 x2 x3
            have RL := Rk.rl KZ.out
            obtain ⟨nq, hnq⟩ : ∃ nq, q2.length = nq := ⟨_, rfl⟩
            have nql : nq ≤ 40 := by (have := KL2.out; omega)
            have M8 : Hid (m2.length = nq - (nq - 8)) := Lib.hid (by rw [RK2.out, List.length_drop, hnq])
            have m8 := V2.out.len
            rcases RL with ⟨qe, a9, c9, hv⟩ | ⟨qp, b9, o9, c9, hv, hc9, s9⟩
            · exfalso; rw [KY.out AEQ.out] at qe; simp at qe
            · rw [hnq] at qp hv hc9 s9
              have HV := Lib.hid hv; have S9q := Lib.hid s9
              subst hv
              by_cases h8 : nq ≤ 8
              · have hmn : min (nq : Int) 8 = (nq : Int) := by omega
                have ML : Hid (m2.length = nq) := Lib.hid (by rw [M8.out]; omega)
                have MQ : Hid (m2 = q2) := Lib.hid (by rw [RK2.out, hnq, show nq - 8 = 0 by omega]; rfl)
                have c0 : ¬ c9 = 0 := by omega
                have e0 : (nq : Int) - (nq : Int) = 0 := by omega
                clear hnq
                go_wp2_with (fail)
                refine (samples_any V2.out _ Fz.out).mono ?_
                rintro en wb ⟨vb, rfl, ob, Bb⟩
                obtain ⟨ab, cb, rfl, sb⟩ := ob.rd
                have HBb := Lib.hid (HBz0.out.trans (Bb.mono HBz0.out.size)); have Fb := Lib.hid (Fz.out.later Bb); have Kb := Lib.hid (KZ.out.later Bb); have Zb := Lib.hid (Nat.le_trans Zz.out Bb.size)
                rw [ML.out] at sb ⊢
                have Sbb := Lib.hid sb; have Sq := Lib.hid (show Cs wb (some ⟨b9, o9, none⟩) nq (zof m2) from by rw [MQ.out]; exact S9q.out.later Bb)
                clear ob Bb sb
                go_wp2_with (fail)
                refine (len_any _ Fb.out).mono ?_
                rw [ML.out]
                rintro en wc ⟨rfl, rfl⟩
                go_wp2_with (fail)
                refine (same_at ML.out ML.out (by omega) _ Sbb.out Sq.out).mono ?_
                rintro en wd ⟨rfl, Bd⟩
                have HBd := Lib.hid (HBb.out.trans (Bd.mono HBb.out.size)); have Fd := Lib.hid (Fb.out.later Bd); have Kd := Lib.hid (Kb.out.later Bd); have Zd := Lib.hid (Nat.le_trans Zb.out Bd.size)
                clear Bd
                go_wp2_with (fail)
                go_roundw
                case rel => exact ⟨i + 1, by omega, by go_num, by rw [HM2.out]; exact Fd.out, by rw [HQ2.out]; exact Kd.out, HBd.out, Zd.out⟩
                case measure => (simp [intOf] <;> omega)
              · have hmn : min (nq : Int) 8 = 8 := by omega
                have ML : Hid (m2.length = 8) := Lib.hid (by rw [M8.out]; omega)
                obtain ⟨j, hj⟩ : ∃ j, nq - 8 = j := ⟨_, rfl⟩
                have MQ : Hid (m2 = q2.drop j) := Lib.hid (by rw [RK2.out, hnq, hj])
                have c0 : ¬ c9 = j := by omega
                have e0 : (nq : Int) - 8 = (j : Int) := by omega
                have e2 : IntKind.i64.wrap ((nq : Int) - 8) = (j : Int) := by rw [e0]; exact IntWalk.i64_in _ (by omega)
                have j40 : (j : Int) ≤ 40 := by omega
                have jn : (j : Int) ≤ (nq : Int) := by omega
                have jn2 : j ≤ nq := by omega
                have hjc : j ≤ c9 := by omega
                have nj : nq - j = 8 := by omega
                clear hnq hj
                go_wp2_with (fail)
                refine (samples_any V2.out _ Fz.out).mono ?_
                rintro en wb ⟨vb, rfl, ob, Bb⟩
                obtain ⟨ab, cb, rfl, sb⟩ := ob.rd
                have HBb := Lib.hid (HBz0.out.trans (Bb.mono HBz0.out.size)); have Fb := Lib.hid (Fz.out.later Bb); have Kb := Lib.hid (KZ.out.later Bb); have Zb := Lib.hid (Nat.le_trans Zz.out Bb.size)
                rw [ML.out] at sb ⊢
                have Sbb := Lib.hid sb
                have Sq := Lib.hid (show Cs wb (some ⟨b9, o9 + j * 4, none⟩) 8 (zof m2) from by
                  have s := S9q.out.later Bb
                  refine ⟨.inr ⟨b9, o9 + j * 4, rfl, cs_lt s (by omega), fun i k hi hk => ?_⟩⟩
                  have := cs_at' s (j + i) k (by omega) hk
                  rw [show o9 + ((j + i) * 4 + k) = o9 + j * 4 + (i * 4 + k) by omega] at this
                  rw [this, MQ.out]; unfold zof; rw [nth_drop])
                clear ob Bb sb
                go_wp2_with (fail)
                refine (len_any _ Fb.out).mono ?_
                rw [ML.out]
                rintro en wc ⟨rfl, rfl⟩
                go_wp2_with (fail)
                refine (same_at ML.out ML.out (by omega) _ Sbb.out Sq.out).mono ?_
                rintro en wd ⟨rfl, Bd⟩
                have HBd := Lib.hid (HBb.out.trans (Bd.mono HBb.out.size)); have Fd := Lib.hid (Fb.out.later Bd); have Kd := Lib.hid (Kb.out.later Bd); have Zd := Lib.hid (Nat.le_trans Zb.out Bd.size)
                clear Bd
                go_wp2_with (fail)
                go_roundw
                case rel => exact ⟨i + 1, by omega, by go_num, by rw [HM2.out]; exact Fd.out, by rw [HQ2.out]; exact Kd.out, HBd.out, Zd.out⟩
                case measure => (simp [intOf] <;> omega)
          · have AEQ : Hid (addE m ⟨xo, xd, xp, xt⟩ ≠ 0) := Lib.hid (fun e => by
              have := (GI2.out.1 e).2
              rcases this with h | h
              · exact HQ0.out h
              · rw [LQ] at h; exact hT h)
            have hdT : decide (T < xt) = false := decide_eq_false hT
            obtain ⟨r, hr⟩ : ∃ r, addE m ⟨xo, xd, xp, xt⟩ = r := ⟨_, rfl⟩
            have AR := Lib.hid hr
            have rz : (r == 0) = false := by rw [← hr]; simpa using AEQ.out
            clear hok AE hq0 sk hk hnk LQ eT ey hr
            go_wp2_with (fail)
            refine Qb.region (by kernel_rfl) (by kernel_rfl) ?_
            have k0 := Qb.cell x0 lb; have k1 := Qb.cell x1 lb; have k2 := Qb.cell x2 lb; have k3 := Qb.cell x3 lb
            have m3 := Qb.cell y3 ly
            repeat (go_big_quiet_step (first | (go_at_call 28; exact scheck_callq CKX)))
            refine wpQuiet_nil ?_
            rintro w9 ⟨⟨wy, hb9⟩, rfl⟩
            have HB9 := Lib.hid (HR.out.trans (hb9.mono HR.out.size)); have F9 := Lib.hid (FR.out.later hb9); have K9 := Lib.hid (KR.out.later hb9); have S9 := Lib.hid (Sb.out.later hb9); have Z9 := Lib.hid (Nat.le_trans SZ.out hb9.size)
            obtain ⟨b', o', e', lb9, x0', x1', x2', x3'⟩ := S9.out.elem (i := i) hlt
            obtain ⟨rfl, rfl⟩ : b = b' ∧ o = o' := by injection e' with e'; injection e' with e1 e2; exact ⟨e1, e2⟩
            change w9.cell? _ = some (.int .i64 (nth l i).o) at x0'
            change w9.cell? _ = some (.int .i64 (nth l i).d) at x1'
            change w9.cell? _ = some (.int .i64 (nth l i).p) at x2'
            change w9.cell? _ = some (.int .i64 (nth l i).t) at x3'
            rw [EX.out] at x0' x1' x2' x3'
            simp only at x0' x1' x2' x3'
            clear hb9 k0 k1 k2 k3 x0 x1 x2 x3 e' m3 y3
            clear j1 j2 qz kk lpI
            go_wp2_with (fail)
            refine (addf_at V.out AR.out rfl _ F9.out).mono ?_
            rintro en wa ⟨rfl, ad⟩
            have HBa := Lib.hid (ad.but.toBelow HG.out HB9.out HB9.out.size); have Fa := Lib.hid ad.fi; have Ka := Lib.hid (K9.out.but ad.but GL.out); have Za := Lib.hid (Nat.le_trans Z9.out ad.but.size)
            have Sa := Lib.hid (show Cs wa (some ⟨b, o, none⟩) n (zof l) from Cs.but S9.out ad.but (by have := BG.out; omega))
            clear ad x0' x1' x2' x3'
            rw [← RN.out] at Fa
            have KZ : Hid (Rk wa w1.heap.size (.slice (some ⟨gk, 0, none⟩) nk ck) q2) := Lib.hid (by rw [KN.out AEQ.out]; exact Ka.out)
            have RL := Rk.rl KZ.out
            obtain ⟨nq, hnq⟩ : ∃ nq, q2.length = nq := ⟨_, rfl⟩
            have nql : nq ≤ 40 := by (have := KL2.out; omega)
            have M8 : Hid (m2.length = nq - (nq - 8)) := Lib.hid (by rw [RK2.out, List.length_drop, hnq])
            have m8 := V2.out.len
            rcases RL with ⟨qe, a9, c9, hv⟩ | ⟨qp, b9, o9, c9, hv, hc9, s9⟩
            · exfalso; rw [KN.out AEQ.out] at qe; exact HQ0.out qe
            · rw [hnq] at qp hv hc9 s9
              have HV := Lib.hid hv; have S9q := Lib.hid s9
              injection hv with e1 e2 e3
              injection e1 with e1
              injection e1 with e4 e5
              subst e4; subst e5
              obtain rfl : c9 = ck := e3.symm
              obtain rfl : nq = nk := e2.symm
              by_cases h8 : nq ≤ 8
              · have hmn : min (nq : Int) 8 = (nq : Int) := by omega
                have ML : Hid (m2.length = nq) := Lib.hid (by rw [M8.out]; omega)
                have MQ : Hid (m2 = q2) := Lib.hid (by rw [RK2.out, hnq, show nq - 8 = 0 by omega]; rfl)
                have c0 : ¬ c9 = 0 := by omega
                have e0 : (nq : Int) - (nq : Int) = 0 := by omega
                clear hnq
                go_wp2_with (fail)
                refine (samples_any V2.out _ Fa.out).mono ?_
                rintro en wb ⟨vb, rfl, ob, Bb⟩
                obtain ⟨ab, cb, rfl, sb⟩ := ob.rd
                have HBb := Lib.hid (HBa.out.trans (Bb.mono HBa.out.size)); have Fb := Lib.hid (Fa.out.later Bb); have Kb := Lib.hid (KZ.out.later Bb); have Zb := Lib.hid (Nat.le_trans Za.out Bb.size)
                rw [ML.out] at sb ⊢
                have Sbb := Lib.hid sb; have Sq := Lib.hid (show Cs wb (some ⟨gk, 0, none⟩) nq (zof m2) from by rw [MQ.out]; exact S9q.out.later Bb)
                clear ob Bb sb
                go_wp2_with (fail)
                refine (len_any _ Fb.out).mono ?_
                rw [ML.out]
                rintro en wc ⟨rfl, rfl⟩
                go_wp2_with (fail)
                refine (same_at ML.out ML.out (by omega) _ Sbb.out Sq.out).mono ?_
                rintro en wd ⟨rfl, Bd⟩
                have HBd := Lib.hid (HBb.out.trans (Bd.mono HBb.out.size)); have Fd := Lib.hid (Fb.out.later Bd); have Kd := Lib.hid (Kb.out.later Bd); have Zd := Lib.hid (Nat.le_trans Zb.out Bd.size)
                clear Bd
                go_wp2_with (fail)
                go_roundw
                case rel => exact ⟨i + 1, by omega, by go_num, by rw [HM2.out]; exact Fd.out, by rw [HQ2.out]; exact Kd.out, HBd.out, Zd.out⟩
                case measure => (simp [intOf] <;> omega)
              · have hmn : min (nq : Int) 8 = 8 := by omega
                have ML : Hid (m2.length = 8) := Lib.hid (by rw [M8.out]; omega)
                obtain ⟨j, hj⟩ : ∃ j, nq - 8 = j := ⟨_, rfl⟩
                have MQ : Hid (m2 = q2.drop j) := Lib.hid (by rw [RK2.out, hnq, hj])
                have c0 : ¬ c9 = j := by omega
                have e0 : (nq : Int) - 8 = (j : Int) := by omega
                have e2 : IntKind.i64.wrap ((nq : Int) - 8) = (j : Int) := by rw [e0]; exact IntWalk.i64_in _ (by omega)
                have j40 : (j : Int) ≤ 40 := by omega
                have jn : (j : Int) ≤ (nq : Int) := by omega
                have jn2 : j ≤ nq := by omega
                have hjc : j ≤ c9 := by omega
                have nj : nq - j = 8 := by omega
                clear hnq hj
                go_wp2_with (fail)
                refine (samples_any V2.out _ Fa.out).mono ?_
                rintro en wb ⟨vb, rfl, ob, Bb⟩
                obtain ⟨ab, cb, rfl, sb⟩ := ob.rd
                have HBb := Lib.hid (HBa.out.trans (Bb.mono HBa.out.size)); have Fb := Lib.hid (Fa.out.later Bb); have Kb := Lib.hid (KZ.out.later Bb); have Zb := Lib.hid (Nat.le_trans Za.out Bb.size)
                rw [ML.out] at sb ⊢
                have Sbb := Lib.hid sb
                have Sq := Lib.hid (show Cs wb (some ⟨gk, j * 4, none⟩) 8 (zof m2) from by
                  have s := S9q.out.later Bb
                  refine ⟨.inr ⟨gk, j * 4, rfl, cs_lt s (by omega), fun i k hi hk => ?_⟩⟩
                  have := cs_at' s (j + i) k (by omega) hk
                  rw [show 0 + ((j + i) * 4 + k) = j * 4 + (i * 4 + k) by omega] at this
                  rw [this, MQ.out]; unfold zof; rw [nth_drop])
                clear ob Bb sb
                go_wp2_with (fail)
                refine (len_any _ Fb.out).mono ?_
                rw [ML.out]
                rintro en wc ⟨rfl, rfl⟩
                go_wp2_with (fail)
                refine (same_at ML.out ML.out (by omega) _ Sbb.out Sq.out).mono ?_
                rintro en wd ⟨rfl, Bd⟩
                have HBd := Lib.hid (HBb.out.trans (Bd.mono HBb.out.size)); have Fd := Lib.hid (Fb.out.later Bd); have Kd := Lib.hid (Kb.out.later Bd); have Zd := Lib.hid (Nat.le_trans Zb.out Bd.size)
                clear Bd
                go_wp2_with (fail)
                go_roundw
                case rel => exact ⟨i + 1, by omega, by go_num, by rw [HM2.out]; exact Fd.out, by rw [HQ2.out]; exact Kd.out, HBd.out, Zd.out⟩
                case measure => (simp [intOf] <;> omega)
      · have CKX := Lib.hid (Sx.chk_no hok)
        have AEQ : Hid (addE m ⟨xo, xd, xp, xt⟩ ≠ 0) := Lib.hid (fun e => by
          have := (GI2.out.1 e).1
          rw [show okb ⟨xo, xd, xp, xt⟩ = false from hok] at this; cases this)
        obtain ⟨r, hr⟩ : ∃ r, addE m ⟨xo, xd, xp, xt⟩ = r := ⟨_, rfl⟩
        have AR := Lib.hid hr
        have rz : (r == 0) = false := by rw [← hr]; simpa using AEQ.out
        clear hok AE hr
        go_wp2_with (fail)
        refine Qb.region (by kernel_rfl) (by kernel_rfl) ?_
        have k0 := Qb.cell x0 lb; have k1 := Qb.cell x1 lb; have k2 := Qb.cell x2 lb; have k3 := Qb.cell x3 lb
        repeat (go_big_quiet_step (first | (go_at_call 28; exact scheck_callq CKX)))
        refine wpQuiet_nil ?_
        rintro w9 ⟨⟨wy, hb9⟩, rfl⟩
        have HB9 := Lib.hid (HR.out.trans (hb9.mono HR.out.size)); have F9 := Lib.hid (FR.out.later hb9); have K9 := Lib.hid (KR.out.later hb9); have S9 := Lib.hid (Sb.out.later hb9); have Z9 := Lib.hid (Nat.le_trans SZ.out hb9.size)
        obtain ⟨b', o', e', lb9, x0', x1', x2', x3'⟩ := S9.out.elem (i := i) hlt
        obtain ⟨rfl, rfl⟩ : b = b' ∧ o = o' := by injection e' with e'; injection e' with e1 e2; exact ⟨e1, e2⟩
        change w9.cell? _ = some (.int .i64 (nth l i).o) at x0'
        change w9.cell? _ = some (.int .i64 (nth l i).d) at x1'
        change w9.cell? _ = some (.int .i64 (nth l i).p) at x2'
        change w9.cell? _ = some (.int .i64 (nth l i).t) at x3'
        rw [EX.out] at x0' x1' x2' x3'
        simp only at x0' x1' x2' x3'
        clear hb9 k0 k1 k2 k3 x0 x1 x2 x3 e'
        go_wp2_with (fail)
        refine (addf_at V.out AR.out rfl _ F9.out).mono ?_
        rintro en wa ⟨rfl, ad⟩
        have HBa := Lib.hid (ad.but.toBelow HG.out HB9.out HB9.out.size); have Fa := Lib.hid ad.fi; have Ka := Lib.hid (K9.out.but ad.but GL.out); have Za := Lib.hid (Nat.le_trans Z9.out ad.but.size)
        have Sa := Lib.hid (show Cs wa (some ⟨b, o, none⟩) n (zof l) from Cs.but S9.out ad.but (by have := BG.out; omega))
        clear ad x0' x1' x2' x3'
        rw [← RN.out] at Fa
        have KZ : Hid (Rk wa w1.heap.size u6 q2) := Lib.hid (by rw [KN.out AEQ.out]; exact Ka.out)
        have RL := Rk.rl KZ.out
        obtain ⟨nq, hnq⟩ : ∃ nq, q2.length = nq := ⟨_, rfl⟩
        have nql : nq ≤ 40 := by (have := KL2.out; omega)
        have M8 : Hid (m2.length = nq - (nq - 8)) := Lib.hid (by rw [RK2.out, List.length_drop, hnq])
        have m8 := V2.out.len
        rcases RL with ⟨qe, a9, c9, hv⟩ | ⟨qp, b9, o9, c9, hv, hc9, s9⟩
        · have n0 : nq = 0 := by rw [← hnq, qe]; rfl
          have me : m2 = [] := List.eq_nil_of_length_eq_zero (by rw [M8.out]; omega)
          have ME := Lib.hid me
          have hmn : min (0 : Int) 8 = 0 := by decide
          clear hv a9 c9
          obtain ⟨_, hv2⟩ := KZ.out.own
          rw [ME.out] at Fa V2
          rcases hv2 with ⟨hv, -⟩ | ⟨g9, cap9, cur9, hv, -, -, -, -, -, -⟩
          · subst hv
            clear qe n0 hnq me
            go_wp2_with (fail)
            refine (samples_any V2.out _ Fa.out).mono ?_
            rintro en wb ⟨vb, rfl, ob, Bb⟩
            obtain ⟨ab, cb, rfl, sb⟩ := ob.rd
            have HBb := Lib.hid (HBa.out.trans (Bb.mono HBa.out.size)); have Fb := Lib.hid (Fa.out.later Bb); have Kb := Lib.hid (KZ.out.later Bb); have Zb := Lib.hid (Nat.le_trans Za.out Bb.size)
            have Sbb := Lib.hid (show Cs wb ab 0 (zof []) from sb)
            clear ob Bb sb
            rw [show ([] : List Sm).length = 0 from rfl]
            go_wp2_with (fail)
            refine (len_any _ Fb.out).mono ?_
            rw [show ([] : List Sm).length = 0 from rfl]
            rintro en wc ⟨rfl, rfl⟩
            go_wp2_with (fail)
            refine (same_at (l := []) (n := 0) (m := 0) rfl rfl (Nat.zero_le _) _ Sbb.out ⟨.inl rfl⟩).mono ?_
            rintro en wd ⟨rfl, Bd⟩
            have HBd := Lib.hid (HBb.out.trans (Bd.mono HBb.out.size)); have Fd := Lib.hid (Fb.out.later Bd); have Kd := Lib.hid (Kb.out.later Bd); have Zd := Lib.hid (Nat.le_trans Zb.out Bd.size)
            clear Bd
            go_wp2_with (fail)
            go_roundw
            case rel => exact ⟨i + 1, by omega, by go_num, by rw [HM2.out]; rw [ME.out]; exact Fd.out, by rw [HQ2.out]; exact Kd.out, HBd.out, Zd.out⟩
            case measure => (simp [intOf] <;> omega)
          · have n9 : q2.length = 0 := by rw [qe]; rfl
            rw [n9] at hv
            subst hv
            clear qe n0 hnq me n9
            by_cases hcap : cap9 = 0
            · subst hcap
              go_wp2_with (fail)
              refine (samples_any V2.out _ Fa.out).mono ?_
              rintro en wb ⟨vb, rfl, ob, Bb⟩
              obtain ⟨ab, cb, rfl, sb⟩ := ob.rd
              have HBb := Lib.hid (HBa.out.trans (Bb.mono HBa.out.size)); have Fb := Lib.hid (Fa.out.later Bb); have Kb := Lib.hid (KZ.out.later Bb); have Zb := Lib.hid (Nat.le_trans Za.out Bb.size)
              have Sbb := Lib.hid (show Cs wb ab 0 (zof []) from sb)
              clear ob Bb sb
              rw [show ([] : List Sm).length = 0 from rfl]
              go_wp2_with (fail)
              refine (len_any _ Fb.out).mono ?_
              rw [show ([] : List Sm).length = 0 from rfl]
              rintro en wc ⟨rfl, rfl⟩
              go_wp2_with (fail)
              refine (same_at (l := []) (n := 0) (m := 0) rfl rfl (Nat.zero_le _) _ Sbb.out ⟨.inl rfl⟩).mono ?_
              rintro en wd ⟨rfl, Bd⟩
              have HBd := Lib.hid (HBb.out.trans (Bd.mono HBb.out.size)); have Fd := Lib.hid (Fb.out.later Bd); have Kd := Lib.hid (Kb.out.later Bd); have Zd := Lib.hid (Nat.le_trans Zb.out Bd.size)
              clear Bd
              go_wp2_with (fail)
              go_roundw
              case rel => exact ⟨i + 1, by omega, by go_num, by rw [HM2.out]; rw [ME.out]; exact Fd.out, by rw [HQ2.out]; exact Kd.out, HBd.out, Zd.out⟩
              case measure => (simp [intOf] <;> omega)
            · have hcap2 : ¬ 0 = cap9 := by omega
              go_wp2_with (fail)
              refine (samples_any V2.out _ Fa.out).mono ?_
              rintro en wb ⟨vb, rfl, ob, Bb⟩
              obtain ⟨ab, cb, rfl, sb⟩ := ob.rd
              have HBb := Lib.hid (HBa.out.trans (Bb.mono HBa.out.size)); have Fb := Lib.hid (Fa.out.later Bb); have Kb := Lib.hid (KZ.out.later Bb); have Zb := Lib.hid (Nat.le_trans Za.out Bb.size)
              have Sbb := Lib.hid (show Cs wb ab 0 (zof []) from sb)
              clear ob Bb sb
              rw [show ([] : List Sm).length = 0 from rfl]
              go_wp2_with (fail)
              refine (len_any _ Fb.out).mono ?_
              rw [show ([] : List Sm).length = 0 from rfl]
              rintro en wc ⟨rfl, rfl⟩
              go_wp2_with (fail)
              refine (same_at (l := []) (n := 0) (m := 0) rfl rfl (Nat.zero_le _) _ Sbb.out ⟨.inl rfl⟩).mono ?_
              rintro en wd ⟨rfl, Bd⟩
              have HBd := Lib.hid (HBb.out.trans (Bd.mono HBb.out.size)); have Fd := Lib.hid (Fb.out.later Bd); have Kd := Lib.hid (Kb.out.later Bd); have Zd := Lib.hid (Nat.le_trans Zb.out Bd.size)
              clear Bd
              go_wp2_with (fail)
              go_roundw
              case rel => exact ⟨i + 1, by omega, by go_num, by rw [HM2.out]; rw [ME.out]; exact Fd.out, by rw [HQ2.out]; exact Kd.out, HBd.out, Zd.out⟩
              case measure => (simp [intOf] <;> omega)
        · rw [hnq] at qp hv hc9 s9
          have HV := Lib.hid hv; have S9q := Lib.hid s9
          subst hv
          by_cases h8 : nq ≤ 8
          · have hmn : min (nq : Int) 8 = (nq : Int) := by omega
            have ML : Hid (m2.length = nq) := Lib.hid (by rw [M8.out]; omega)
            have MQ : Hid (m2 = q2) := Lib.hid (by rw [RK2.out, hnq, show nq - 8 = 0 by omega]; rfl)
            have c0 : ¬ c9 = 0 := by omega
            have e0 : (nq : Int) - (nq : Int) = 0 := by omega
            clear hnq
            go_wp2_with (fail)
            refine (samples_any V2.out _ Fa.out).mono ?_
            rintro en wb ⟨vb, rfl, ob, Bb⟩
            obtain ⟨ab, cb, rfl, sb⟩ := ob.rd
            have HBb := Lib.hid (HBa.out.trans (Bb.mono HBa.out.size)); have Fb := Lib.hid (Fa.out.later Bb); have Kb := Lib.hid (KZ.out.later Bb); have Zb := Lib.hid (Nat.le_trans Za.out Bb.size)
            rw [ML.out] at sb ⊢
            have Sbb := Lib.hid sb; have Sq := Lib.hid (show Cs wb (some ⟨b9, o9, none⟩) nq (zof m2) from by rw [MQ.out]; exact S9q.out.later Bb)
            clear ob Bb sb
            go_wp2_with (fail)
            refine (len_any _ Fb.out).mono ?_
            rw [ML.out]
            rintro en wc ⟨rfl, rfl⟩
            go_wp2_with (fail)
            refine (same_at ML.out ML.out (by omega) _ Sbb.out Sq.out).mono ?_
            rintro en wd ⟨rfl, Bd⟩
            have HBd := Lib.hid (HBb.out.trans (Bd.mono HBb.out.size)); have Fd := Lib.hid (Fb.out.later Bd); have Kd := Lib.hid (Kb.out.later Bd); have Zd := Lib.hid (Nat.le_trans Zb.out Bd.size)
            clear Bd
            go_wp2_with (fail)
            go_roundw
            case rel => exact ⟨i + 1, by omega, by go_num, by rw [HM2.out]; exact Fd.out, by rw [HQ2.out]; exact Kd.out, HBd.out, Zd.out⟩
            case measure => (simp [intOf] <;> omega)
          · have hmn : min (nq : Int) 8 = 8 := by omega
            have ML : Hid (m2.length = 8) := Lib.hid (by rw [M8.out]; omega)
            obtain ⟨j, hj⟩ : ∃ j, nq - 8 = j := ⟨_, rfl⟩
            have MQ : Hid (m2 = q2.drop j) := Lib.hid (by rw [RK2.out, hnq, hj])
            have c0 : ¬ c9 = j := by omega
            have e0 : (nq : Int) - 8 = (j : Int) := by omega
            have e2 : IntKind.i64.wrap ((nq : Int) - 8) = (j : Int) := by rw [e0]; exact IntWalk.i64_in _ (by omega)
            have j40 : (j : Int) ≤ 40 := by omega
            have jn : (j : Int) ≤ (nq : Int) := by omega
            have jn2 : j ≤ nq := by omega
            have hjc : j ≤ c9 := by omega
            have nj : nq - j = 8 := by omega
            clear hnq hj
            go_wp2_with (fail)
            refine (samples_any V2.out _ Fa.out).mono ?_
            rintro en wb ⟨vb, rfl, ob, Bb⟩
            obtain ⟨ab, cb, rfl, sb⟩ := ob.rd
            have HBb := Lib.hid (HBa.out.trans (Bb.mono HBa.out.size)); have Fb := Lib.hid (Fa.out.later Bb); have Kb := Lib.hid (KZ.out.later Bb); have Zb := Lib.hid (Nat.le_trans Za.out Bb.size)
            rw [ML.out] at sb ⊢
            have Sbb := Lib.hid sb
            have Sq := Lib.hid (show Cs wb (some ⟨b9, o9 + j * 4, none⟩) 8 (zof m2) from by
              have s := S9q.out.later Bb
              refine ⟨.inr ⟨b9, o9 + j * 4, rfl, cs_lt s (by omega), fun i k hi hk => ?_⟩⟩
              have := cs_at' s (j + i) k (by omega) hk
              rw [show o9 + ((j + i) * 4 + k) = o9 + j * 4 + (i * 4 + k) by omega] at this
              rw [this, MQ.out]; unfold zof; rw [nth_drop])
            clear ob Bb sb
            go_wp2_with (fail)
            refine (len_any _ Fb.out).mono ?_
            rw [ML.out]
            rintro en wc ⟨rfl, rfl⟩
            go_wp2_with (fail)
            refine (same_at ML.out ML.out (by omega) _ Sbb.out Sq.out).mono ?_
            rintro en wd ⟨rfl, Bd⟩
            have HBd := Lib.hid (HBb.out.trans (Bd.mono HBb.out.size)); have Fd := Lib.hid (Fb.out.later Bd); have Kd := Lib.hid (Kb.out.later Bd); have Zd := Lib.hid (Nat.le_trans Zb.out Bd.size)
            clear Bd
            go_wp2_with (fail)
            go_roundw
            case rel => exact ⟨i + 1, by omega, by go_num, by rw [HM2.out]; exact Fd.out, by rw [HQ2.out]; exact Kd.out, HBd.out, Zd.out⟩
            case measure => (simp [intOf] <;> omega)
    · obtain rfl : n = i := by omega
      clear f rk hb sz
      go_wp2_with (fail)
      refine (awake22_any _).mono ?_
      rintro en wz ⟨rfl, Bz⟩
      have HBz := Lib.hid (HR.out.trans (Bz.mono HR.out.size))
      clear Bz
      go_wp2_with (fail)
      go_ret
      exact ⟨rfl, HBz.out⟩
theorem law_FilterStages (tol : Int) (a : Option Addr) (n c : Nat) (z : Nat → Nat → Int) (w : World) (S : In.IsStructs [.i64, .i64, .i64, .i64] w a n c z) :
    Calls Try.prog 5 #[.int .i64 tol, .slice a n c] w fun e w' => e = .returned (.bool true) ∧ Below w.heap.size w w' := by
  obtain ⟨l, hl, s⟩ := in_smp S
  subst hl
  by_cases h : 0 ≤ tol ∧ tol ≤ 500000
  · by_cases h2 : 40 < l.length
    · exact lstages_long tol l a c h.1 h.2 h2 w
    · exact lstages_main tol l a c h.1 h.2 (by omega) w s
  · exact lstages_tol tol l a c (by omega) w
end Go.Proofs.Ytdaedhgbkamjpaa.JxW
