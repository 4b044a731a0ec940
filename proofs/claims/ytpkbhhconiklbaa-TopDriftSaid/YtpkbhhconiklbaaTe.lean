/- Contracts of the oscillator: Read, Bound; of drift: Check, checked, Elapsed, Age, Has. -/
import Derived.Test.YtpkbhhconiklbaaTd
import Derived.Deep.RegionWith
import Derived.Deep.RegionLaw
set_option linter.unusedVariables false
set_option linter.unusedSimpArgs false
namespace Go.Proofs.Ytpkbhhconiklbaa.TxW
open Go.RowKit Ls FxW
theorem max_three (t0 t1 t2 t3 : TypeId) (a b c : Int) (W : World) : (Builtin.max_ #[t0, t1, t2] t3 #[.int .i64 a, .int .i64 b, .int .i64 c]).run Try.prog W = .ok (.int .i64 (max (max a b) c)) W := by
  have e1 : (if b > a then b else a) = max a b := by split <;> omega
  have e2 : (if c > max a b then c else max a b) = max (max a b) c := by split <;> omega
  simp [Builtin.max_, Builtin.max2, e1, e2]
theorem ocheck_at {p : Int} {a : Option Addr} {n c : Nat} {z : Nat → Nat → Int} {r : Int} (h : Hid (Tx.chk p n z = r)) {w : World} (S : Ss 2 w a n z) :
    Calls Try.prog 6 #[.agg #[.int .i64 p, .slice a n c]] w fun e w' => e = .returned (.int .i64 r) ∧ Below w.heap.size w w' := by
  rw [← h.out]; exact ocheck_any p a n c z w S
set_option maxHeartbeats 8000000 in
theorem read_bad (p : Int) (a : Option Addr) (n c : Nat) (z : Nat → Nat → Int) {r : Int} (h : Hid (Tx.chk p n z = r)) (hr : (r != 0) = true) (t : Int) (w : World) (S : Ss 2 w a n z) :
    Calls Try.prog 5 #[.agg #[.int .i64 p, .slice a n c], .int .i64 t] w fun e w' => e = .returned (.tuple #[.int .i64 0, .int .i64 r]) ∧ Below w.heap.size w w' := by
  have BA := Lib.hid (Below.alloc (Below.refl w.heap.size w) (Nat.le_refl _) (.cells #[.int .i64 p, .slice a n c] 24))
  have SA := Lib.hid (S.later BA.out)
  clear S
  go_enter Try.func5, Try.ntmps5
  go_wp2_with (fail)
  refine (ocheck_at h SA.out).mono ?_
  rintro en w1 ⟨rfl, B1⟩
  have HB := Lib.hid (bl_next BA.out B1)
  clear B1
  go_wp2_with (fail)
  go_ret2
  exact ⟨rfl, HB.out⟩
set_option maxHeartbeats 8000000 in
theorem read_ok (p : Int) (a : Option Addr) (n c : Nat) (z : Nat → Nat → Int) (V : Tx.Vo p n z) (hv : Tx.chk p n z = 0) (t : Int) (t0 : 0 ≤ t) (t1 : t ≤ 1125899906842624) (w : World) (S : Ss 2 w a n z) :
    Calls Try.prog 5 #[.agg #[.int .i64 p, .slice a n c], .int .i64 t] w fun e w' => e = .returned (.tuple #[.int .i64 (Tx.rd p n z t), .int .i64 0]) ∧ Below w.heap.size w w' := by
  have BA := Lib.hid (Below.alloc (Below.refl w.heap.size w) (Nat.le_refl _) (.cells #[.int .i64 p, .slice a n c] 24))
  have CB : Hid ((w.alloc (.cells #[.int .i64 p, .slice a n c] 24)).heap[w.heap.size]? = some (.cells #[.int .i64 p, .slice a n c] 24 (0, 0))) := Lib.hid (Hp.blk_new _ _)
  have SA := Lib.hid (S.later BA.out)
  have HV := Lib.hid V; have HC := Lib.hid hv
  clear S V hv
  go_enter Try.func5, Try.ntmps5
  go_wp2_with (fail)
  refine (ocheck_at HC SA.out).mono ?_
  rintro en w1 ⟨rfl, B1⟩
  have HB := Lib.hid (bl_next BA.out B1); have S1 := Lib.hid (SA.out.later B1); have C1 := Lib.hid ((B1.block _ (Hp.blk_lt CB.out)).trans CB.out)
  have b0 := Hp.blk_cell (o := 0) C1.out rfl; have b1 := Hp.blk_cell (o := 1) C1.out rfl
  have lb : w.heap.size < w1.heap.size := Hp.blk_lt C1.out
  clear B1
  go_wp2_with (fail)
  go_region_law (first
    | (go_simp; go_at_call 13; refine (spans_any p a n c z HV.out _ (S1.out.later (by (repeat (first | exact Below.refl _ _ | refine Below.drew ?_ | refine Hp.drewN ?_ _ | refine Below.setCell ?_ (by first | (simp; done) | (simp; omega) | omega) _ | refine Below.alloc ?_ (by first | (simp; done) | (simp; omega) | omega) _ | (refine Hp.step ?_ (by assumption))))))).mono ?_; rintro en w5 ⟨g, rfl, s5, B5⟩; have S5 := Lib.hid s5; obtain ⟨hc5, hf5⟩ := Hp.bcell B5; have hs5 := B5.size; (try simp at hs5); have e50 : w5.cell? ⟨w.heap.size, 0, none⟩ = some (.int .i64 p) := (B5.cell (p := ⟨w.heap.size, 0, none⟩) lb).trans b0; have e51 : w5.cell? ⟨w.heap.size, 1, none⟩ = some (.slice a n c) := (B5.cell (p := ⟨w.heap.size, 1, none⟩) lb).trans b1; clear s5)
    | (go_simp; go_at_call 12; refine (reading_any p _ n _ z HV.out t t0 t1 _ (S5.out.later (by (repeat (first | exact Below.refl _ _ | refine Below.drew ?_ | refine Hp.drewN ?_ _ | refine Below.setCell ?_ (by first | (simp; done) | (simp; omega) | omega) _ | refine Below.alloc ?_ (by first | (simp; done) | (simp; omega) | omega) _ | (refine Hp.step ?_ (by assumption))))))).mono ?_; rintro en w6 ⟨rfl, B6⟩; have HB6 := Lib.hid (bl_next HB.out (show Below w1.heap.size w1 w6 from (by (repeat (first | exact Below.refl _ _ | refine Below.drew ?_ | refine Hp.drewN ?_ _ | refine Below.setCell ?_ (by first | (simp; done) | (simp; omega) | omega) _ | refine Below.alloc ?_ (by first | (simp; done) | (simp; omega) | omega) _ | (refine Hp.step ?_ (by assumption)))))))))
  all_goals
    go_wp2_with (fail)
    go_ret2
    exact ⟨rfl, by first | exact HB6.out | exact Hp.drewN HB6.out _ | exact HB6.out.drew⟩
set_option maxHeartbeats 8000000 in
theorem bound_ok (p : Int) (a : Option Addr) (n c : Nat) (z : Nat → Nat → Int) (V : Tx.Vo p n z) (hv : Tx.chk p n z = 0) (w : World) (S : Ss 2 w a n z) :
    Calls Try.prog 8 #[.agg #[.int .i64 p, .slice a n c]] w fun e w' => e = .returned (.int .i64 (Tx.bo z n)) ∧ Below w.heap.size w w' := by
  have BA := Lib.hid (Below.alloc (Below.refl w.heap.size w) (Nat.le_refl _) (.cells #[.int .i64 p, .slice a n c] 24))
  have CB : Hid ((w.alloc (.cells #[.int .i64 p, .slice a n c] 24)).heap[w.heap.size]? = some (.cells #[.int .i64 p, .slice a n c] 24 (0, 0))) := Lib.hid (Hp.blk_new _ _)
  have SA := Lib.hid (S.later BA.out)
  have HV := Lib.hid V; have HC := Lib.hid hv
  have n2 := V.n2
  clear S V hv
  go_enter Try.func8, Try.ntmps8
  go_wp2_with (fail)
  refine (ocheck_at HC SA.out).mono ?_
  rintro en w1 ⟨rfl, B1⟩
  have HB := Lib.hid (bl_next BA.out B1); have S1 := Lib.hid (SA.out.later B1); have C1 := Lib.hid ((B1.block _ (Hp.blk_lt CB.out)).trans CB.out)
  have b0 := Hp.blk_cell (o := 0) C1.out rfl; have b1 := Hp.blk_cell (o := 1) C1.out rfl
  clear B1
  go_wp2_with (fail)
  go_loopw [12, 3] (fun c h wr => ∃ k : Nat, k ≤ n ∧ c = .int .i64 k ∧ h = .int .i64 (Tx.bo z k) ∧ Below w1.heap.size w1 wr) (fun c _ _ => n - (intOf c).toNat)
  case atStart => exact ⟨0, by omega, rfl, rfl, Below.refl _ _⟩
  case round =>
    obtain ⟨k, hk, rfl, rfl, hB⟩ := hrel
    have HBr := Lib.hid hB
    have hbs := hB.size
    have S2 := Lib.hid (S1.out.later hB)
    clear hB b0 b1
    by_cases hlt : k < n
    · obtain ⟨b, o, rfl, hb, c0, c1⟩ := ss_elem2 S2.out hlt
      have ok := HV.out.ok k hlt
      have NB := Lib.hid (show Tx.bo z (k + 1) = max (max (Tx.bo z k) (z k 1)) (-(z k 1)) from rfl)
      obtain ⟨P, eP⟩ : ∃ P, z k 0 = P := ⟨_, rfl⟩
      obtain ⟨Q, eQ⟩ : ∃ Q, z k 1 = Q := ⟨_, rfl⟩
      obtain ⟨M, eM⟩ : ∃ Q, Tx.bo z k = Q := ⟨_, rfl⟩
      rw [eP] at c0; rw [eQ] at c1 NB ok; rw [eM] at NB
      rw [eM]
      clear eP eQ eM
      have o1 := ok.2.2.1; have o2 := ok.2.2.2
      have hmx := fun W => max_three 3 3 3 3 M Q (-Q) W
      clear ok
      go_wp2_with (fail)
      go_roundw
      case rel => exact ⟨k + 1, by omega, by go_num, by rw [NB.out, Int.max_assoc], by have := HBr.out; (repeat (first | exact Below.refl _ _ | refine Below.drew ?_ | refine Hp.drewN ?_ _ | refine Below.setCell ?_ (by first | (simp; done) | (simp; omega) | omega) _ | refine Below.alloc ?_ (by first | (simp; done) | (simp; omega) | omega) _ | (refine Hp.step ?_ (by assumption))))⟩
      case measure => (simp [intOf] <;> omega)
    · obtain rfl : n = k := by omega
      go_wp2_with (fail)
      go_ret
      exact ⟨rfl, bl_next HB.out HBr.out⟩
/-- drift.Check on an interval that is one -/
theorem dcheck_ok (lo hi : Int) (h1 : lo ≤ hi) (h2 : -8000000000000000000 ≤ lo) (h3 : hi ≤ 8000000000000000000) (w : World) :
    Calls Try.prog 15 #[.agg #[.int .i64 lo, .int .i64 hi]] w fun e w' => e = .returned (.int .i64 0) ∧ Below w.heap.size w w' := by
  go_enter Try.func15, Try.ntmps15
  go_wp2_with (fail)
  go_ret
  exact ⟨rfl, by (repeat (first | exact Below.refl _ _ | refine Below.drew ?_ | refine Hp.drewN ?_ _ | refine Below.setCell ?_ (by first | (simp; done) | (simp; omega) | omega) _ | refine Below.alloc ?_ (by first | (simp; done) | (simp; omega) | omega) _ | (refine Hp.step ?_ (by assumption))))⟩
theorem two_cells {w : World} {b : Nat} {x0 y0 : Value} {T : TypeId} (h : w.heap[b]? = some (.cells #[x0, y0] T (0, 0))) (x y : Value) :
    (w.setCell ⟨b, 0, none⟩ x).cell? ⟨b, 0, none⟩ = some x ∧ ((w.setCell ⟨b, 0, none⟩ x).setCell ⟨b, 1, none⟩ y).cell? ⟨b, 1, none⟩ = some y :=
  ⟨Hp.blk_cell (Hp.blk_set h) rfl, Hp.blk_cell (Hp.blk_set (Hp.blk_set h)) rfl⟩
theorem checked_ok (lo hi : Int) (h1 : lo ≤ hi) (h2 : -8000000000000000000 ≤ lo) (h3 : hi ≤ 8000000000000000000) (w : World) :
    Calls Try.prog 16 #[.int .i64 lo, .int .i64 hi] w fun e w' => e = .returned (.tuple #[.agg #[.int .i64 lo, .int .i64 hi], .int .i64 0]) ∧ Below w.heap.size w w' := by
  go_enter Try.func16, Try.ntmps16
  go_wp2_with (go_at_call 15; refine (dcheck_ok lo hi h1 h2 h3 _).mono ?_; rintro e w1 ⟨rfl, hb1⟩; obtain ⟨hc1, hf1⟩ := Hp.bcell hb1; have hs1 := hb1.size; (try simp at hs1); have l1 : w.heap.size < w1.heap.size := by omega)
  have k0 := (hb1.block w.heap.size (by simp; omega)).trans (Hp.blk_old (Hp.blk_new w _))
  have y0 := two_cells k0 (.int .i64 lo) (.int .i64 hi)
  refine bodyPost_ret (v := .tuple #[.agg #[.int .i64 lo, .int .i64 hi], .int .i64 0]) (by simp [results, Try.results16, go_sem, y0]) rfl ⟨rfl, ?_⟩
  (repeat (first | exact Below.refl _ _ | refine Below.drew ?_ | refine Hp.drewN ?_ _ | refine Below.setCell ?_ (by first | (simp; done) | (simp; omega) | omega) _ | refine Below.alloc ?_ (by first | (simp; done) | (simp; omega) | omega) _ | (refine Hp.step ?_ (by assumption))))
theorem has_ok (lo hi t : Int) (h1 : lo ≤ t) (h1' : t ≤ hi) (h2 : -8000000000000000000 ≤ lo) (h3 : hi ≤ 8000000000000000000) (w : World) :
    Calls Try.prog 11 #[.agg #[.int .i64 lo, .int .i64 hi], .int .i64 t] w fun e w' => e = .returned (.bool true) ∧ Below w.heap.size w w' := by
  go_enter Try.func11, Try.ntmps11
  go_wp2_with (go_at_call 15; refine (dcheck_ok lo hi (by omega) h2 h3 _).mono ?_; rintro e w1 ⟨rfl, hb1⟩; obtain ⟨hc1, hf1⟩ := Hp.bcell hb1; have hs1 := hb1.size; (try simp at hs1))
  go_ret
  exact ⟨rfl, by (repeat (first | exact Below.refl _ _ | refine Below.drew ?_ | refine Hp.drewN ?_ _ | refine Below.setCell ?_ (by first | (simp; done) | (simp; omega) | omega) _ | refine Below.alloc ?_ (by first | (simp; done) | (simp; omega) | omega) _ | (refine Hp.step ?_ (by assumption))))⟩
set_option maxHeartbeats 4000000 in
theorem elapsed_ok (raw tol : Int) (h0 : 0 ≤ raw) (h1 : raw ≤ 2251799813685248) (t0 : 0 ≤ tol) (t1 : tol ≤ 500000) (w : World) :
    Calls Try.prog 9 #[.int .i64 raw, .int .i64 tol] w fun e w' => e = .returned (.tuple #[.int .i64 (max 0 (Tx.dn raw tol + 1)), .int .i64 (-(Tx.up raw tol) - 1), .int .i64 0]) ∧ ∃ q, w' = w.drewN q := by
  have C1 := Lib.hid (fun w => muldiv_any (raw - 1) 1000000000 (1000000000 + tol) (by omega) (by omega) (by omega) (by omega) (by omega) (by omega) w)
  have C2 := Lib.hid (fun w => muldiv_any (-(raw + 1)) 1000000000 (1000000000 - tol) (by omega) (by omega) (by omega) (by omega) (by omega) (by omega) w)
  have d := Tx.dn_bd h0 h1 t0 t1; have u := Tx.up_bd h0 h1 t0 t1
  have d1 := d.2.1; have d2 := d.2.2; have u1 := u.2.1; have u2 := u.2.2
  have ed : Fx.qV (1000000000 + tol) (Fx.fl ((raw - 1) * 1000000000) (1000000000 + tol)) = Tx.dn raw tol := rfl
  have eu : Fx.qV (1000000000 - tol) (Fx.fl (-(raw + 1) * 1000000000) (1000000000 - tol)) = Tx.up raw tol := rfl
  rw [ed] at C1; rw [eu] at C2
  obtain ⟨D, hD⟩ : ∃ D, Tx.dn raw tol = D := ⟨_, rfl⟩
  obtain ⟨U, hU⟩ : ∃ D, Tx.up raw tol = D := ⟨_, rfl⟩
  rw [hD] at C1 d1 d2; rw [hU] at C2 u1 u2
  rw [hD, hU]
  obtain ⟨k1, e1⟩ : ∃ b, Fx.qOk (1000000000 + tol) (Fx.fl ((raw - 1) * 1000000000) (1000000000 + tol)) = b := ⟨_, rfl⟩
  obtain ⟨k2, e2⟩ : ∃ b, Fx.qOk (1000000000 - tol) (Fx.fl (-(raw + 1) * 1000000000) (1000000000 - tol)) = b := ⟨_, rfl⟩
  rw [e1] at C1; rw [e2] at C2
  clear e1 e2 hD hU ed eu d u
  go_enter Try.func9, Try.ntmps9
  go_wp2_with (fail)
  refine (C1.out _).mono ?_
  rintro en w1 ⟨rfl, q1, rfl⟩
  go_wp2_with (fail)
  refine (C2.out _).mono ?_
  rintro en w1 ⟨rfl, q2, rfl⟩
  go_wp2_with (fail)
  go_ret3
  exact ⟨rfl, _, by first | rfl | exact World.drewN_drewN _ _ _⟩
set_option maxHeartbeats 4000000 in
theorem age_ok (t raw tol : Int) (h0 : 0 ≤ raw) (h1 : raw ≤ 2251799813685248) (t0 : 0 ≤ tol) (t1 : tol ≤ 500000) (b0 : 0 ≤ t) (b1 : t ≤ 1125899906842624) (hlm : max 0 (Tx.dn raw tol + 1) ≤ -(Tx.up raw tol) - 1) (w : World) :
    Calls Try.prog 10 #[.agg #[.int .i64 t, .int .i64 t], .int .i64 raw, .int .i64 tol] w fun e w' => e = .returned (.tuple #[.agg #[.int .i64 (t + max 0 (Tx.dn raw tol + 1)), .int .i64 (t + (-(Tx.up raw tol) - 1))], .int .i64 0]) ∧ Below w.heap.size w w' := by
  have C1 := Lib.hid (fun w => elapsed_ok raw tol h0 h1 t0 t1 w)
  have d := Tx.dn_bd h0 h1 t0 t1; have u := Tx.up_bd h0 h1 t0 t1
  have d1 := d.2.1; have d2 := d.2.2; have u1 := u.2.1; have u2 := u.2.2
  obtain ⟨D, hD⟩ : ∃ D, max 0 (Tx.dn raw tol + 1) = D := ⟨_, rfl⟩
  obtain ⟨U, hU⟩ : ∃ D, -(Tx.up raw tol) - 1 = D := ⟨_, rfl⟩
  have x1 : 0 ≤ D := by omega
  have x3 : U ≤ 4503599627370497 := by omega
  rw [hD, hU] at C1 hlm
  rw [hD, hU]
  clear d u d1 d2 u1 u2 hD hU
  go_enter Try.func10, Try.ntmps10
  go_wp2_with (first | (go_at_call 15; refine (dcheck_ok t t (by omega) (by omega) (by omega) _).mono ?_; rintro e w1 ⟨rfl, hb1⟩; obtain ⟨hc1, hf1⟩ := Hp.bcell hb1; have hs1 := hb1.size; (try simp at hs1); have l1 : w.heap.size < w1.heap.size := (by omega); have l2 : w.heap.size + 1 < w1.heap.size := (by omega)) | (go_at_call 9; refine (C1.out _).mono ?_; rintro en w2 ⟨rfl, q2, rfl⟩) | (go_at_call 16; refine (checked_ok (t + D) (t + U) (by omega) (by omega) (by omega) _).mono ?_; rintro e w3 ⟨rfl, hb3⟩; obtain ⟨hc3, hf3⟩ := Hp.bcell hb3; have hs3 := hb3.size; (try simp at hs3); have l3 : w.heap.size < w3.heap.size := (by omega); have l4 : w.heap.size + 1 < w3.heap.size := (by omega); have kk : w3.heap[w.heap.size + 1]? = some (.cells #[.int .i64 0, .int .i64 0] 35 (0, 0)) := ((hb3.block _ l2).trans ((hb1.block (w.heap.size + 1) (by simp)).trans (by have := Hp.blk_new (w.alloc (.cells #[.int .i64 t, .int .i64 t] 35)) (.cells #[.int .i64 0, .int .i64 0] 35); simpa using this))); have e0 := Hp.blk_cell (o := 0) kk rfl; have e1 := Hp.blk_cell (o := 1) kk rfl; have r0 := Hp.blk_free (o := 0) kk; have r1 := Hp.blk_free (o := 1) kk))
  have y0 := two_cells kk (.int .i64 (t + D)) (.int .i64 (t + U))
  refine bodyPost_ret (v := .tuple #[.agg #[.int .i64 (t + D), .int .i64 (t + U)], .int .i64 0]) (by simp [results, Try.results10, go_sem, y0]) rfl ⟨rfl, ?_⟩
  (repeat (first | exact Below.refl _ _ | refine Below.drew ?_ | refine Hp.drewN ?_ _ | refine Below.setCell ?_ (by first | (simp; done) | (simp; omega) | omega) _ | refine Below.alloc ?_ (by first | (simp; done) | (simp; omega) | omega) _ | (refine Hp.step ?_ (by assumption))))
end Go.Proofs.Ytpkbhhconiklbaa.TxW
