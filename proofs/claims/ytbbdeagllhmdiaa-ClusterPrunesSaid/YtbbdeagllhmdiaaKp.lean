/- cluster.Spread, farthest, leastJitter, System. -/
import Derived.Test.YtbbdeagllhmdiaaKo
set_option linter.unusedVariables false
set_option linter.unusedSimpArgs false
namespace Go.Proofs.Ytbbdeagllhmdiaa.CxW
open Go.RowKit FxW
open Go.Proofs.Ytbbdeagllhmdiaa.Kx
theorem abs_at {a r : Int} (h1 : -9007199254740992 ≤ a) (h2 : a ≤ 9007199254740992) (hr : Hid (Fx.iabs a = r)) (w : World) :
    Calls Try.prog 29 #[.int .i64 a] w fun e w' => e = .returned (.tuple #[.int .i64 r, .bool true]) ∧ w = w' := by
  have h := abs_any a (by omega) (by omega) w
  have hb : Fx.iabs a ≤ 9007199254740992 := by unfold Fx.iabs; split <;> omega
  have h0 := Fx.iabs_nonneg a
  have e := Fx.fit_in (v := Fx.iabs a) (by omega) (by omega)
  rw [← e.1, ← e.2, hr.out] at h
  exact h
theorem sprd_bad {l : List Cd} {i r : Int} (h : Hid (Cx.chk l.length (zof l) = r)) (hr : (r != 0) = true) : sprd l i = 0 := by
  unfold sprd; rw [if_neg]; rintro ⟨e, _⟩; rw [h.out] at e; simp [e] at hr
theorem sprd_out {l : List Cd} {i : Int} (h : i < 0 ∨ (l.length : Int) ≤ i ∨ l.length < 2) : sprd l i = 0 := by
  unfold sprd; rw [if_neg]; rintro ⟨_, h1, h2, h3⟩; omega
theorem cell_of {l : List Cd} {w : World} {a : Option Addr} (S : Cs w a l.length (zof l)) {i : Nat} (hi : i < l.length) : ∃ b o, a = some ⟨b, o, none⟩ ∧ b < w.heap.size ∧ w.cell? ⟨b, o + i * 5, none⟩ = some (.int .i64 (nth l i).a) ∧ w.cell? ⟨b, o + i * 5 + 1, none⟩ = some (.int .i64 (nth l i).b) ∧ w.cell? ⟨b, o + i * 5 + 2, none⟩ = some (.int .i64 (nth l i).c) ∧ w.cell? ⟨b, o + i * 5 + 3, none⟩ = some (.int .i64 (nth l i).d) ∧ w.cell? ⟨b, o + i * 5 + 4, none⟩ = some (.int .i64 (nth l i).e) := S.elem hi
set_option maxHeartbeats 8000000 in
theorem spread_ok (l : List Cd) (a : Option Addr) (c : Nat) (V : Val l) (i : Nat) (hi : i < l.length) (h2 : 2 ≤ l.length) (w : World) (S : Cs w a l.length (zof l)) :
    Calls Try.prog 16 #[.slice a l.length c, .int .i64 i] w fun e w' => e = .returned (.int .i64 (sprd l i)) ∧ Below w.heap.size w w' := by
  have hS := Lib.hid S; have HV := Lib.hid V
  have HC : Hid (Cx.chk l.length (zof l) = 0) := Lib.hid ((val_iff l).2 V)
  have E := Lib.hid (sprd_val V hi h2)
  have n12 := V.len
  obtain ⟨n, hn⟩ : ∃ n, l.length = n := ⟨_, rfl⟩
  have HN := Lib.hid hn
  have i1 : ¬ (n : Int) ≤ (i : Int) := by omega
  have i2 : ¬ (n : Int) < 2 := by omega
  have i3 : ¬ (i : Int) < 0 := by omega
  have bi := V.bd (nth_mem hi)
  have CK := Lib.hid (fun (W : World) (S : Cs W a n (zof l)) => show Calls Try.prog 20 #[.slice a n c] W _ from by rw [← hn] at S ⊢; exact check_at HC S)
  rw [hn] at hS hi h2 n12 ⊢
  have md := mean_bd (l := l) (i := i) (by omega) (by omega) (G := 1073741824) (fun k _ => (dq_bd _ _).2)
  rw [hn] at md
  clear S V hn
  go_enter Try.func16, Try.ntmps16
  go_wp2_with (fail)
  refine (CK.out _ hS.out).mono ?_
  rintro en w1 ⟨rfl, B1⟩
  have HB := Lib.hid B1; have S1 := Lib.hid (hS.out.later B1)
  clear B1
  go_wp2_with (fail)
  go_loopw [32, 5] (fun c s wr => ∃ k : Nat, k ≤ n ∧ c = .int .i64 k ∧ s = .int .u64 (sqN l (nth l i) k) ∧ Below w1.heap.size w1 wr) (fun c _ _ => n - (intOf c).toNat)
  case atStart => exact ⟨0, by omega, rfl, rfl, Below.refl _ _⟩
  case round =>
    obtain ⟨k, hk, rfl, rfl, hB⟩ := hrel
    have HBr := Lib.hid hB
    have S2 := Lib.hid (S1.out.later hB)
    have sz := hB.size
    clear hB
    by_cases hlt : k < n
    · have S3 : Hid (Cs wr a l.length (zof l)) := Lib.hid (by rw [HN.out]; exact S2.out)
      obtain ⟨b, o, rfl, hb, c0, c1, c2, c3, c4⟩ := cell_of S3.out (show k < l.length by rw [HN.out]; exact hlt)
      obtain ⟨b', o', e', _, _, d1, _⟩ := cell_of S3.out (show i < l.length by rw [HN.out]; exact hi)
      obtain ⟨rfl, rfl⟩ : b = b' ∧ o = o' := by injection e' with e'; injection e' with e1 e2; exact ⟨e1, e2⟩
      have bk := HV.out.bd (nth_mem (show k < l.length by rw [HN.out]; exact hlt))
      have NS := Lib.hid (show sqN l (nth l i) (k + 1) = sqN l (nth l i) k + dq (nth l i) (nth l k) * dq (nth l i) (nth l k) from rfl)
      have q0 := sqN_nn l (nth l i) k; have q1 := sqN_top l (nth l i) k
      have dd := dq_bd (nth l i) (nth l k)
      have d2 := sq_bd dd.1 dd.2
      obtain ⟨r, hr⟩ : ∃ r, Fx.iabs ((nth l i).b - (nth l k).b) = r := ⟨_, rfl⟩
      have HR := Lib.hid hr
      have hD : min r 1073741824 = dq (nth l i) (nth l k) := by rw [← hr]; rfl
      obtain ⟨D, eD⟩ : ∃ D, dq (nth l i) (nth l k) = D := ⟨_, rfl⟩
      rw [eD] at hD NS dd d2
      obtain ⟨Q, eQ⟩ : ∃ Q, sqN l (nth l i) k = Q := ⟨_, rfl⟩
      rw [eQ] at NS q0 q1
      rw [eQ]
      obtain ⟨P, eP⟩ : ∃ P, D * D = P := ⟨_, rfl⟩
      rw [eP] at NS d2
      obtain ⟨x, ex⟩ : ∃ x, nth l k = x := ⟨_, rfl⟩
      rw [ex] at c0 c1 c2 c3 c4 bk HR
      obtain ⟨X, eX⟩ : ∃ X, (nth l i).b = X := ⟨_, rfl⟩
      rw [eX] at d1 HR
      have bi1 := bi.1; have bi2 := bi.2.1
      rw [eX] at bi1 bi2
      obtain ⟨xa, xb, xc, xd, xe⟩ := x
      simp only at c0 c1 c2 c3 c4 bk HR
      have p0 := d2.1; have p1 := d2.2; have bk1 := bk.1; have bk2 := bk.2.1
      have k12 : (k : Int) ≤ 12 := by omega
      have d20 := dd.1; have d21 := dd.2
      clear e' eD eQ ex eX hr bi bk d2 dd md
      go_wp2_with (fail)
      go_quiet ((go_at_call 29; exact Qb.same (abs_at (by omega) (by omega) HR _)))
      go_wp2_with (fail)
      go_roundw
      case rel => exact ⟨k + 1, by omega, by go_num, by rw [NS.out], by have := HBr.out; (repeat (first | exact Below.refl _ _ | refine Below.drew ?_ | refine Hp.drewN ?_ _ | refine Below.setCell ?_ (by first | (simp; done) | (simp; omega) | omega) _ | refine Below.alloc ?_ (by first | (simp; done) | (simp; omega) | omega) _ | (refine Hp.step ?_ (by assumption))))⟩
      case measure => (simp [intOf] <;> omega)
    · obtain rfl : n = k := by omega
      have q0 := sqN_nn l (nth l i) n; have q1 := sqN_top l (nth l i) n
      have F : Hid (spr l (nth l i) = Fx.isq (sqN l (nth l i) n / ((n : Int) - 1))) := Lib.hid (by unfold spr; rw [HN.out])
      obtain ⟨Q, eQ⟩ : ∃ Q, sqN l (nth l i) n = Q := ⟨_, rfl⟩
      rw [eQ] at F q0 q1 md
      rw [eQ]
      have m0 := md.1; have m1 := md.2
      have tq : Q.tdiv ((n : Int) - 1) = Q / ((n : Int) - 1) := Int.tdiv_eq_ediv_of_nonneg q0
      obtain ⟨M, eM⟩ : ∃ M, Q / ((n : Int) - 1) = M := ⟨_, rfl⟩
      rw [eM] at F m0 m1 tq
      have SQ := Lib.hid (fun w => sqrt_int M (by omega) (by omega) w)
      rw [← F.out] at SQ
      clear eQ eM md
      go_wp2_with (fail)
      refine (SQ.out _).mono ?_
      rintro en w2 ⟨rfl, rfl⟩
      go_wp2_with (fail)
      go_ret
      exact ⟨by rw [E.out] <;> rfl, bl_next HB.out HBr.out⟩
set_option maxHeartbeats 4000000 in
theorem spread_bad (l : List Cd) (a : Option Addr) (c : Nat) {r : Int} (h : Hid (Cx.chk l.length (zof l) = r)) (hr : (r != 0) = true) (i : Int) (w : World) (S : Cs w a l.length (zof l)) :
    Calls Try.prog 16 #[.slice a l.length c, .int .i64 i] w fun e w' => e = .returned (.int .i64 (sprd l i)) ∧ Below w.heap.size w w' := by
  have hS := Lib.hid S; have E := Lib.hid (sprd_bad (i := i) h hr)
  clear S
  go_enter Try.func16, Try.ntmps16
  go_wp2_with (fail)
  refine (check_at h hS.out).mono ?_
  rintro en w1 ⟨rfl, B1⟩
  have HB := Lib.hid B1
  clear B1
  go_wp2_with (fail)
  go_ret
  exact ⟨by rw [E.out] <;> rfl, HB.out⟩
set_option maxHeartbeats 4000000 in
theorem spread_out (l : List Cd) (a : Option Addr) (c : Nat) (V : Val l) (i : Int) (h : i < 0 ∨ (0 ≤ i ∧ (l.length : Int) ≤ i) ∨ (0 ≤ i ∧ i < (l.length : Int) ∧ (l.length : Int) < 2)) (w : World) (S : Cs w a l.length (zof l)) :
    Calls Try.prog 16 #[.slice a l.length c, .int .i64 i] w fun e w' => e = .returned (.int .i64 (sprd l i)) ∧ Below w.heap.size w w' := by
  have hS := Lib.hid S; have E := Lib.hid (sprd_out (l := l) (i := i) (by omega))
  have HC : Hid (Cx.chk l.length (zof l) = 0) := Lib.hid ((val_iff l).2 V)
  clear S
  rcases h with h | ⟨h, h1⟩ | ⟨h, h1, h2⟩
  all_goals
    go_enter Try.func16, Try.ntmps16
    go_wp2_with (fail)
    refine (check_at HC hS.out).mono ?_
    rintro en w1 ⟨rfl, B1⟩
    have HB := Lib.hid B1
    clear B1
    go_wp2_with (fail)
    go_ret
    exact ⟨by rw [E.out] <;> rfl, HB.out⟩
theorem spread_any (l : List Cd) (a : Option Addr) (c : Nat) (i : Int) (w : World) (S : Cs w a l.length (zof l)) :
    Calls Try.prog 16 #[.slice a l.length c, .int .i64 i] w fun e w' => e = .returned (.int .i64 (sprd l i)) ∧ Below w.heap.size w w' := by
  by_cases hc : Cx.chk l.length (zof l) = 0
  · have V := (val_iff l).1 hc
    by_cases h : 0 ≤ i ∧ i < (l.length : Int) ∧ 2 ≤ l.length
    · obtain ⟨k, rfl⟩ := Int.eq_ofNat_of_zero_le h.1
      exact spread_ok l a c V k (by omega) h.2.2 w S
    · exact spread_out l a c V i (by omega) w S
  · exact spread_bad l a c (Lib.hid rfl) (by simpa using hc) i w S
set_option maxHeartbeats 4000000 in
theorem farthest_ok (l : List Cd) (a : Option Addr) (c : Nat) (V : Val l) (h2 : 2 ≤ l.length) (w : World) (S : Cs w a l.length (zof l)) :
    Calls Try.prog 32 #[.slice a l.length c] w fun e w' => e = .returned (.tuple #[.int .i64 (far l l.length).1, .int .i64 (far l l.length).2]) ∧ Below w.heap.size w w' := by
  have hS := Lib.hid S; have HV := Lib.hid V
  have n12 := V.len
  obtain ⟨n, hn⟩ : ∃ n, l.length = n := ⟨_, rfl⟩
  have HN := Lib.hid hn
  have SP := Lib.hid (fun (k : Nat) (hk : k < n) (W : World) (S : Cs W a n (zof l)) => show Calls Try.prog 16 #[.slice a n c, .int .i64 k] W fun e w' => e = .returned (.int .i64 (spr l (nth l k))) ∧ Below W.heap.size W w' from by
    rw [← hn] at S hk ⊢; rw [← sprd_val V hk h2]; exact spread_any l a c k W S)
  rw [hn] at hS h2 n12 ⊢
  clear S V hn
  go_enter Try.func32, Try.ntmps32
  go_wp2_with (fail)
  go_loopw [10, 4, 5] (fun c x y wr => ∃ k : Nat, k ≤ n ∧ c = .int .i64 k ∧ x = .int .i64 (far l k).1 ∧ y = .int .i64 (far l k).2 ∧ Below w.heap.size w wr) (fun c _ _ _ => n - (intOf c).toNat)
  case atStart => exact ⟨0, by omega, rfl, rfl, rfl, Below.refl _ _⟩
  case round =>
    obtain ⟨k, hk, rfl, rfl, rfl, hB⟩ := hrel
    have HBr := Lib.hid hB; have S2 := Lib.hid (hS.out.later hB)
    clear hB
    by_cases hlt : k < n
    · have FS := Lib.hid (show far l (k + 1) = if (far l k).2 ≤ spr l (nth l k) then (k, spr l (nth l k)) else far l k from rfl)
      have C := Lib.hid (SP.out k hlt _ S2.out)
      obtain ⟨X, eX⟩ : ∃ X, spr l (nth l k) = X := ⟨_, rfl⟩
      rw [eX] at FS C
      obtain ⟨⟨fw, fg⟩, eF⟩ : ∃ F, far l k = F := ⟨_, rfl⟩
      rw [eF] at FS
      rw [eF]
      clear eX eF
      simp only at FS ⊢
      by_cases g : fg ≤ X
      · have G := Lib.hid (FS.out.trans (if_pos g))
        clear FS
        go_wp2_with (fail)
        refine C.out.mono ?_
        rintro en w3 ⟨rfl, B3⟩
        have HB3 := Lib.hid (bl_next HBr.out B3)
        clear B3
        go_wp2_with (fail)
        go_roundw
        case rel => exact ⟨k + 1, by omega, by go_num, by rw [G.out], by rw [G.out], HB3.out⟩
        case measure => (simp [intOf] <;> omega)
      · have G := Lib.hid (FS.out.trans (if_neg g))
        clear FS
        go_wp2_with (fail)
        refine C.out.mono ?_
        rintro en w3 ⟨rfl, B3⟩
        have HB3 := Lib.hid (bl_next HBr.out B3)
        clear B3
        go_wp2_with (fail)
        go_roundw
        case rel => exact ⟨k + 1, by omega, by go_num, by rw [G.out], by rw [G.out], HB3.out⟩
        case measure => (simp [intOf] <;> omega)
    · obtain rfl : n = k := by omega
      go_wp2_with (fail)
      go_ret2
      exact ⟨rfl, HBr.out⟩
set_option maxHeartbeats 4000000 in
theorem jitter_ok (l : List Cd) (a : Option Addr) (c : Nat) (V : Val l) (h1 : 1 ≤ l.length) (w : World) (S : Cs w a l.length (zof l)) :
    Calls Try.prog 33 #[.slice a l.length c] w fun e w' => e = .returned (.int .i64 (jt l l.length)) ∧ Below w.heap.size w w' := by
  have n12 := V.len
  obtain ⟨b0, o0, rfl, hb0, _, _, _, z3, _⟩ := cell_of S (i := 0) (by omega)
  rw [Nat.zero_mul, Nat.add_zero] at z3
  have hS := Lib.hid (fun W (h : Below w.heap.size w W) k (hk : k < l.length) => cell_of (S.later h) hk)
  obtain ⟨n, hn⟩ : ∃ n, l.length = n := ⟨_, rfl⟩
  rw [hn] at h1 n12 hS ⊢
  have J0 := Lib.hid (show jt l 0 = (nth l 0).d from rfl)
  obtain ⟨X, eX⟩ : ∃ X, (nth l 0).d = X := ⟨_, rfl⟩
  rw [eX] at z3 J0
  clear S V hn eX
  go_enter Try.func33, Try.ntmps33
  go_wp2_with (fail)
  go_loopw [12, 3] (fun c x wr => ∃ k : Nat, k ≤ n ∧ c = .int .i64 k ∧ x = .int .i64 (jt l k) ∧ Below w.heap.size w wr) (fun c _ _ => n - (intOf c).toNat)
  case atStart => exact ⟨0, by omega, rfl, by rw [J0.out], Below.refl _ _⟩
  case round =>
    obtain ⟨k, hk, rfl, rfl, hB⟩ := hrel
    have HBr := Lib.hid hB
    have sz := hB.size
    by_cases hlt : k < n
    · obtain ⟨b, o, e, hb, c0, c1, c2, c3, c4⟩ := hS.out _ hB k hlt
      obtain ⟨rfl, rfl⟩ : b0 = b ∧ o0 = o := by injection e with e; injection e with e1 e2; exact ⟨e1, e2⟩
      have JS := Lib.hid (show jt l (k + 1) = min (jt l k) (nth l k).d from rfl)
      obtain ⟨x, ex⟩ : ∃ x, nth l k = x := ⟨_, rfl⟩
      rw [ex] at c0 c1 c2 c3 c4 JS
      obtain ⟨xa, xb, xc, xd, xe⟩ := x
      simp only at c0 c1 c2 c3 c4 JS
      obtain ⟨M, eM⟩ : ∃ M, jt l k = M := ⟨_, rfl⟩
      rw [eM] at JS
      rw [eM]
      clear hB e ex eM
      go_wp2_with (fail)
      go_roundw
      case rel => exact ⟨k + 1, by omega, by go_num, by rw [JS.out], by have := HBr.out; (repeat (first | exact Below.refl _ _ | refine Below.drew ?_ | refine Hp.drewN ?_ _ | refine Below.setCell ?_ (by first | (simp; done) | (simp; omega) | omega) _ | refine Below.alloc ?_ (by first | (simp; done) | (simp; omega) | omega) _ | (refine Hp.step ?_ (by assumption))))⟩
      case measure => (simp [intOf] <;> omega)
    · obtain rfl : n = k := by omega
      clear hB
      go_wp2_with (fail)
      go_ret
      exact ⟨rfl, HBr.out⟩
/-- what System returns -/
def sysV (l : List Cd) : Int := if Cx.chk l.length (zof l) = 0 ∧ 0 < l.length then (nth (ord l) 0).a else 0
def sysB (l : List Cd) : Bool := decide (Cx.chk l.length (zof l) = 0 ∧ 0 < l.length)
set_option maxHeartbeats 4000000 in
theorem system_any (l : List Cd) (a : Option Addr) (c : Nat) (w : World) (S : Cs w a l.length (zof l)) (h0 : a = none → l.length = 0 ∧ c = 0) :
    Calls Try.prog 11 #[.slice a l.length c] w fun e w' => e = .returned (.tuple #[.int .i64 (sysV l), .bool (sysB l)]) ∧ Below w.heap.size w w' := by
  have hS := Lib.hid S; have H0 := Lib.hid h0
  clear S h0
  by_cases hc : Cx.chk l.length (zof l) = 0
  · have V := Lib.hid ((val_iff l).1 hc)
    by_cases hn : 0 < l.length
    · have E := Lib.hid (show sysV l = (nth (ord l) 0).a ∧ sysB l = true from ⟨by unfold sysV; rw [if_pos ⟨hc, hn⟩], by unfold sysB; simp [hc, hn]⟩)
      have on := ord_len l
      clear hc
      go_enter Try.func11, Try.ntmps11
      go_wp2_with (fail)
      refine (order_ok l a c V.out _ hS.out H0.out).mono ?_
      rintro en w1 ⟨v, rfl, o, B1⟩
      have HB := Lib.hid B1
      obtain ⟨a1, c1, rfl, S1⟩ := o.rd
      obtain ⟨b, o, rfl, hb, z0, _, _, _, _⟩ := cell_of S1 (i := 0) (by omega)
      rw [Nat.zero_mul, Nat.add_zero] at z0
      obtain ⟨X, eX⟩ : ∃ X, (nth (ord l) 0).a = X := ⟨_, rfl⟩
      rw [eX] at z0 E
      obtain ⟨n, hn2⟩ : ∃ n, (ord l).length = n := ⟨_, rfl⟩
      rw [hn2] at on
      have q : (((n : Int)) == 0) = false := by simp; omega
      have hn3 : 0 < n := by omega
      rw [hn2]
      clear B1 S1 eX hn2 on o
      go_wp2_with (fail)
      go_ret2
      exact ⟨by rw [E.out.1, E.out.2] <;> rfl, HB.out⟩
    · have E := Lib.hid (show sysV l = 0 ∧ sysB l = false from ⟨by unfold sysV; rw [if_neg (fun h => hn h.2)], by unfold sysB; simp [hn]⟩)
      have on := ord_len l
      clear hc
      go_enter Try.func11, Try.ntmps11
      go_wp2_with (fail)
      refine (order_ok l a c V.out _ hS.out H0.out).mono ?_
      rintro en w1 ⟨v, rfl, o, B1⟩
      have HB := Lib.hid B1
      obtain ⟨a1, c1, rfl, S1⟩ := o.rd
      have hz : (ord l).length = 0 := by omega
      rw [hz]
      clear B1 S1 on o
      go_wp2_with (fail)
      go_ret2
      exact ⟨by rw [E.out.1, E.out.2] <;> rfl, HB.out⟩
  · have E := Lib.hid (show sysV l = 0 ∧ sysB l = false from ⟨by unfold sysV; rw [if_neg (fun h => hc h.1)], by unfold sysB; simp [hc]⟩)
    obtain ⟨r, hr⟩ : ∃ r, Cx.chk l.length (zof l) = r := ⟨_, rfl⟩
    have HR := Lib.hid hr
    have hr2 : (r != 0) = true := by rw [← hr]; simpa using hc
    clear hr hc
    go_enter Try.func11, Try.ntmps11
    go_wp2_with (fail)
    refine (order_bad l a c HR hr2 _ hS.out).mono ?_
    rintro en w1 ⟨rfl, B1⟩
    have HB := Lib.hid B1
    clear B1
    go_wp2_with (fail)
    go_ret2
    exact ⟨by rw [E.out.1, E.out.2] <;> rfl, HB.out⟩
end Go.Proofs.Ytbbdeagllhmdiaa.CxW
