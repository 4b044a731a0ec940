/- The reference's Add: a stage more. -/
import Derived.Test.YtdaedhgbkamjpaaNb
set_option linter.unusedVariables false
set_option linter.unusedSimpArgs false
namespace Go.Proofs.Ytdaedhgbkamjpaa.JxW
open Go.RowKit FxW Go.Deep
open Go.Proofs.Ytdaedhgbkamjpaa.Jx
theorem Sl.of_rk {w : World} {base base' : Nat} {v : Value} {l : List Sm} (h : Rk w base' v l) (hb : base ≤ base') (h0 : 0 < l.length) : Sl w base v l := by
  obtain ⟨g, c, hv, s⟩ := Rk.rd0 h h0
  have lo := (World.ownsRow.lt h.own g (by rw [hv]; rfl)).1
  have e := Rk.rl h
  rcases e with ⟨e, _⟩ | ⟨_, b, o, c', hv', hc', _⟩
  · rw [e] at h0; simp at h0
  · rw [hv] at hv'; injection hv' with _ _ e3
    exact .inr ⟨h0, g, 0, c, by omega, hv, by omega, s⟩
theorem Ri.put {w : World} {base g : Nat} {tol : Int} {l m : List Sm} {any : Bool} {fr : Int} {v : Value} (h : Ri w base g tol l any fr) (s : Sl w base v m) : Ri (w.setCell ⟨g, 1, none⟩ v) base g tol m any fr ∧ But g w (w.setCell ⟨g, 1, none⟩ v) := by
  have B : But g w (w.setCell ⟨g, 1, none⟩ v) := But.setCell (But.refl g w) 1 v
  have one : ∀ o, o ≠ 1 → (w.setCell ⟨g, 1, none⟩ v).cell? ⟨g, o, none⟩ = w.cell? ⟨g, o, none⟩ := fun o ho => World.cell?_setCell_other _ _ _ _ (by simp <;> omega)
  obtain ⟨v0, c1, _⟩ := h.c1
  exact ⟨⟨Nat.lt_of_lt_of_le h.lt B.size, h.lb, by rw [one _ (by omega)]; exact h.c0, ⟨v, World.cell?_setCell_same' _ _ _ (some_of c1), s.but B h.lb⟩, by rw [one _ (by omega)]; exact h.c2, by rw [one _ (by omega)]; exact h.c3, fun o => by rw [World.frozen?_setCell]; exact h.free o⟩, B⟩
theorem xsrc {W : World} {gb : Nat} {xo xd xp xt : Int} (h : W.heap[gb]? = some (.cells #[.int .i64 xo, .int .i64 xd, .int .i64 xp, .int .i64 xt] 29 (0, 0))) : ∀ j u, (flat (zof [(⟨xo, xd, xp, xt⟩ : Sm)]) 1)[j]? = some u → W.cell? ((⟨gb, 0, none⟩ : Addr).add j) = some u := fun j u hj => by
  have e : flat (zof [(⟨xo, xd, xp, xt⟩ : Sm)]) 1 = [.int .i64 xo, .int .i64 xd, .int .i64 xp, .int .i64 xt] := flat_app [] ⟨xo, xd, xp, xt⟩
  rw [e] at hj
  rw [add_at, Nat.zero_add]
  match j, hj with
  | 0, hj => simp at hj; subst hj; exact Hp.blk_cell h rfl
  | 1, hj => simp at hj; subst hj; exact Hp.blk_cell h rfl
  | 2, hj => simp at hj; subst hj; exact Hp.blk_cell h rfl
  | 3, hj => simp at hj; subst hj; exact Hp.blk_cell h rfl
theorem Rk.empty {W : World} {base gb : Nat} (h : W.heap[gb]? = some (.cells #[] 29 (0, 0))) (hb : base ≤ gb) : Rk W base (.slice (some ⟨gb, 0, none⟩) 0 0) [] :=
  ⟨⟨rfl, .inr ⟨gb, 0, #[], rfl, hb, h, Nat.le_refl _, by unfold maxLen; omega, rfl, rfl⟩⟩⟩
theorem blk_far {w w' : World} {gb ga : Nat} {x : Obj} (h : w.heap[gb]? = some x) (k : w.grownBy w' (some ga)) (ne : gb ≠ ga) : w'.heap[gb]? = some x :=
  (k.block gb (Hp.blk_lt h) (by simpa using ne)).trans h
set_option maxHeartbeats 8000000 in
theorem radd_some {base g : Nat} {tol : Int} {l : List Sm} {any : Bool} {fr : Int} (V : Val l) (xo xd xp xt : Int) (hx : Sx.okS xo xd xp xt = true) (h0 : 0 < l.length) (ht : lastT l < xt) (w : World) (hb : base ≤ w.heap.size) (F : Ri w base g tol l any fr) :
    Calls Try.prog 15 #[.pointer (some ⟨g, 0, none⟩), .agg #[.int .i64 xo, .int .i64 xd, .int .i64 xp, .int .i64 xt]] w fun e w' => e = .returned (.int .i64 (addE l ⟨xo, xd, xp, xt⟩)) ∧ AddedR w w' base g tol (addL l ⟨xo, xd, xp, xt⟩) any fr := by
  have C0 := Lib.hid (Sx.chk_ok hx)
  have E := Lib.hid (addE_yes (l := l) (x := ⟨xo, xd, xp, xt⟩) hx (.inr ht))
  have ER := Lib.hid (fun (h : l.length < 8) => addL_room E.out h); have EF := Lib.hid (fun (h : l.length = 8) => addL_full E.out h)
  rw [E.out]
  have CK := Lib.hid (fun W => rcheck_any xo xd xp xt W)
  rw [C0.out] at CK
  have HF := Lib.hid F
  have HBB := Lib.hid hb
  have n8 := V.len
  obtain ⟨n, hn⟩ : ∃ n, l.length = n := ⟨_, rfl⟩
  have HN := Lib.hid hn
  obtain ⟨k, hk⟩ : ∃ k, n = k + 1 := ⟨n - 1, by omega⟩
  have LT : lastT l = (nth l k).t := by unfold lastT; rw [hn, hk]; rfl
  have CT := Lib.hid (fun W (F : Ri W base g tol l any fr) => show ∃ b o c, W.cell? ⟨g, 1, none⟩ = some (.slice (some ⟨b, o, none⟩) n c) ∧ W.cell? ⟨b, o + k * 4 + 3, none⟩ = some (.int .i64 (lastT l)) ∧ Cs W (some ⟨b, o, none⟩) n (zof l) from by
    obtain ⟨v, c1, s⟩ := F.c1
    rcases s with ⟨e, _⟩ | ⟨_, b, o, c, _, rfl, _, s⟩
    · rw [e] at hn; simp at hn; omega
    · rw [hn] at c1 s
      have := cs_at' s k 3 (by omega) (by omega)
      rw [show o + (k * 4 + 3) = o + k * 4 + 3 by omega] at this
      exact ⟨b, o, c, c1, by rw [this, LT]; rfl, s⟩)
  obtain ⟨T, eT⟩ : ∃ T, lastT l = T := ⟨_, rfl⟩
  rw [eT] at CT ht
  have j0 : 0 < n := by omega
  have j1 : (0 : Int) < (n : Int) := by omega
  have j2 : (n : Int) - 1 = k := by omega
  have j3 : k < n := by omega
  have j4 : IntKind.i64.wrap ((n : Int) - 1) = (k : Int) := by rw [j2]; exact IntWalk.i64_in _ (by omega)
  have n8' : (n : Int) ≤ 8 := by omega
  have j6 : ¬ xt ≤ T := by omega
  have j7 : decide (xt ≤ T) = false := decide_eq_false j6
  clear F hx hk hn eT h0 V LT
  go_enter Try.func15, Try.ntmps15
  go_wp2_with (go_at_call 32; (with_reducible refine (CK.out _).mono ?_); rintro e w2 ⟨rfl, hb2⟩; have HB2 := Lib.hid hb2; clear hb2)
  have B0 : Hid (Below w.heap.size w (w.alloc (.cells #[.int .i64 xo, .int .i64 xd, .int .i64 xp, .int .i64 xt] 29))) := Lib.hid (by (repeat (first | exact Below.refl _ _ | refine Below.drew ?_ | refine Hp.drewN ?_ _ | refine Below.setCell ?_ (by first | (simp; done) | (simp; omega) | omega) _ | refine Below.alloc ?_ (by first | (simp; done) | (simp; omega) | omega) _ | (refine Hp.step ?_ (by assumption)))))
  have B2 := Lib.hid (B0.out.trans (HB2.out.mono (by simp)))
  have blk : w2.heap[w.heap.size]? = some (.cells #[.int .i64 xo, .int .i64 xd, .int .i64 xp, .int .i64 xt] 29 (0, 0)) := by rw [HB2.out.block _ (by simp)]; exact Hp.blk_new w _
  have z3 : w2.cell? ⟨w.heap.size, 3, none⟩ = some (.int .i64 xt) := Hp.blk_cell blk rfl
  have BK := Lib.hid blk
  obtain ⟨b, o, c, c1, ct, sc⟩ := CT.out w2 (HF.out.later B2.out)
  have C1 := Lib.hid c1; have SC := Lib.hid sc
  clear blk sc
  go_quiet (fail)
  go_wp2_with (fail)
  clear c1 ct z3
  obtain ⟨wa, hwa⟩ : ∃ wa, w2.drewN nq = wa := ⟨_, rfl⟩
  have BA : Hid (Below w.heap.size w wa) := Lib.hid (by rw [← hwa]; exact Hp.drewN B2.out _)
  have FA := Lib.hid (HF.out.later BA.out)
  have bka : Hid (wa.heap[w.heap.size]? = some (.cells #[.int .i64 xo, .int .i64 xd, .int .i64 xp, .int .i64 xt] 29 (0, 0))) := Lib.hid (by rw [← hwa]; exact BK.out)
  have c1 : wa.cell? ⟨g, 1, none⟩ = some (.slice (some ⟨b, o, none⟩) n c) := by rw [← hwa]; exact C1.out
  have SA : Hid (Cs wa (some ⟨b, o, none⟩) n (zof l)) := Lib.hid (by rw [← hwa]; exact SC.out.later (Hp.drewN (Below.refl _ _) _))
  obtain ⟨gx, hgx⟩ : ∃ gx, w.heap.size = gx := ⟨_, rfl⟩
  rw [hgx] at bka
  rw [hwa, hgx]
  have lgx := Hp.blk_lt bka.out
  have lg := FA.out.lt
  have z0 : wa.cell? ⟨gx, 0, none⟩ = some (.int .i64 xo) := Hp.blk_cell bka.out rfl
  have z1 : wa.cell? ⟨gx, 1, none⟩ = some (.int .i64 xd) := Hp.blk_cell bka.out rfl
  have z2 : wa.cell? ⟨gx, 2, none⟩ = some (.int .i64 xp) := Hp.blk_cell bka.out rfl
  have z3 : wa.cell? ⟨gx, 3, none⟩ = some (.int .i64 xt) := Hp.blk_cell bka.out rfl
  have zL := World.new_ne wa _ z0; have cL := World.new_ne wa _ c1
  have l1 : gx < wa.heap.size + 1 := by omega
  have l2 : g < wa.heap.size + 1 := by omega
  clear hwa hgx j0 j1 j2 j3 j4 j6 j7
  have BW1 : Hid (Below wa.heap.size wa ((wa.drew.alloc (.cells #[] 29)).alloc (.cells #[.int .i64 xo, .int .i64 xd, .int .i64 xp, .int .i64 xt] 29))) := Lib.hid (by (repeat (first | exact Below.refl _ _ | refine Below.drew ?_ | refine Hp.drewN ?_ _ | refine Below.setCell ?_ (by first | (simp; done) | (simp; omega) | omega) _ | refine Below.alloc ?_ (by first | (simp; done) | (simp; omega) | omega) _ | (refine Hp.step ?_ (by assumption)))))
  have BW2 : Hid (Below wa.heap.size wa (wa.drew.alloc (.cells #[] 29))) := Lib.hid (by (repeat (first | exact Below.refl _ _ | refine Below.drew ?_ | refine Hp.drewN ?_ _ | refine Below.setCell ?_ (by first | (simp; done) | (simp; omega) | omega) _ | refine Below.alloc ?_ (by first | (simp; done) | (simp; omega) | omega) _ | (refine Hp.step ?_ (by assumption)))))
  have BW3 : Hid (Below wa.heap.size wa ((wa.drew.alloc (.cells #[.int .i64 xo, .int .i64 xd, .int .i64 xp, .int .i64 xt] 29)).alloc (.cells #[] 29))) := Lib.hid (by (repeat (first | exact Below.refl _ _ | refine Below.drew ?_ | refine Hp.drewN ?_ _ | refine Below.setCell ?_ (by first | (simp; done) | (simp; omega) | omega) _ | refine Below.alloc ?_ (by first | (simp; done) | (simp; omega) | omega) _ | (refine Hp.step ?_ (by assumption)))))
  have EB1 : Hid (((wa.drew.alloc (.cells #[] 29)).alloc (.cells #[.int .i64 xo, .int .i64 xd, .int .i64 xp, .int .i64 xt] 29)).heap[wa.heap.size]? = some (.cells #[] 29 (0, 0))) := Lib.hid (Hp.blk_old (Hp.blk_new wa.drew _))
  have EB2 : Hid ((wa.drew.alloc (.cells #[] 29)).heap[wa.heap.size]? = some (.cells #[] 29 (0, 0))) := Lib.hid (Hp.blk_new wa.drew _)
  have EB3 : Hid (((wa.drew.alloc (.cells #[.int .i64 xo, .int .i64 xd, .int .i64 xp, .int .i64 xt] 29)).alloc (.cells #[] 29)).heap[wa.heap.size + 1]? = some (.cells #[] 29 (0, 0))) := Lib.hid (by
    have h := Hp.blk_new (wa.drew.alloc (.cells #[.int .i64 xo, .int .i64 xd, .int .i64 xp, .int .i64 xt] 29)) (.cells #[] 29)
    rw [show (wa.drew.alloc (.cells #[.int .i64 xo, .int .i64 xd, .int .i64 xp, .int .i64 xt] 29)).heap.size = wa.heap.size + 1 by simp] at h
    exact h)
  have XB1 : Hid (((wa.drew.alloc (.cells #[] 29)).alloc (.cells #[.int .i64 xo, .int .i64 xd, .int .i64 xp, .int .i64 xt] 29)).heap[wa.heap.size + 1]? = some (.cells #[.int .i64 xo, .int .i64 xd, .int .i64 xp, .int .i64 xt] 29 (0, 0))) := Lib.hid (by
    have h := Hp.blk_new (wa.drew.alloc (.cells #[] 29)) (.cells #[.int .i64 xo, .int .i64 xd, .int .i64 xp, .int .i64 xt] 29)
    rw [show (wa.drew.alloc (.cells #[] 29)).heap.size = wa.heap.size + 1 by simp] at h
    exact h)
  have XB3 : Hid (((wa.drew.alloc (.cells #[.int .i64 xo, .int .i64 xd, .int .i64 xp, .int .i64 xt] 29)).alloc (.cells #[] 29)).heap[wa.heap.size]? = some (.cells #[.int .i64 xo, .int .i64 xd, .int .i64 xp, .int .i64 xt] 29 (0, 0))) := Lib.hid (Hp.blk_old (Hp.blk_new wa.drew _))
  have RA1 : Hid (Rk ((wa.drew.alloc (.cells #[] 29)).alloc (.cells #[.int .i64 xo, .int .i64 xd, .int .i64 xp, .int .i64 xt] 29)) wa.heap.size (.slice (some ⟨wa.heap.size, 0, none⟩) 0 0) []) := Lib.hid (Rk.empty EB1.out (by omega))
  have SR1 := Lib.hid (cs_src (SA.out.later BW1.out))
  have RA2 : Hid (Rk (wa.drew.alloc (.cells #[] 29)) wa.heap.size (.slice (some ⟨wa.heap.size, 0, none⟩) 0 0) []) := Lib.hid (Rk.empty EB2.out (by omega))
  have SR2 := Lib.hid (cs_src (SA.out.later BW2.out))
  have RA3 : Hid (Rk ((wa.drew.alloc (.cells #[.int .i64 xo, .int .i64 xd, .int .i64 xp, .int .i64 xt] 29)).alloc (.cells #[] 29)) wa.heap.size (.slice (some ⟨(wa.heap.size + 1), 0, none⟩) 0 0) []) := Lib.hid (Rk.empty EB3.out (by omega))
  have SR3 := Lib.hid (cs_src (SA.out.later BW3.out))
  have SM := Lib.hid (show ([] : List Sm).length + n ≤ 1000000 by simp; omega)
  have SM2 := Lib.hid (show ([] ++ l : List Sm).length + 1 ≤ 1000000 by rw [List.nil_append, HN.out]; omega)
  have ON : Hid ([(⟨xo, xd, xp, xt⟩ : Sm)].length = 1) := Lib.hid rfl
  have NE1 : Hid (wa.heap.size + 1 ≠ wa.heap.size) := Lib.hid (by omega)
  have NE3 : Hid (wa.heap.size ≠ wa.heap.size + 1) := Lib.hid (by omega)
  have KC := Lib.hid (fun (W' : World) (kb : Below wa.heap.size wa W') => show W'.cell? ⟨gx, 0, none⟩ = some (.int .i64 xo) ∧ W'.cell? ⟨gx, 1, none⟩ = some (.int .i64 xd) ∧ W'.cell? ⟨gx, 2, none⟩ = some (.int .i64 xp) ∧ W'.cell? ⟨gx, 3, none⟩ = some (.int .i64 xt) ∧ W'.cell? ⟨g, 1, none⟩ = some (.slice (some ⟨b, o, none⟩) n c) from
    ⟨(kb.cell (p := ⟨gx, 0, none⟩) lgx).trans z0, (kb.cell (p := ⟨gx, 1, none⟩) lgx).trans z1, (kb.cell (p := ⟨gx, 2, none⟩) lgx).trans z2, (kb.cell (p := ⟨gx, 3, none⟩) lgx).trans z3, (kb.cell (p := ⟨g, 1, none⟩) lg).trans c1⟩)
  go_region_held_law (fun w' => w'.cell? ⟨gx, 0, none⟩ = some (.int .i64 xo) ∧ w'.cell? ⟨gx, 1, none⟩ = some (.int .i64 xd) ∧ w'.cell? ⟨gx, 2, none⟩ = some (.int .i64 xp) ∧ w'.cell? ⟨gx, 3, none⟩ = some (.int .i64 xt) ∧ w'.cell? ⟨g, 1, none⟩ = some (.slice (some ⟨b, o, none⟩) n c)) (go_keep)
    (first
      | (refine step_append_smps (l := []) (m := l) (by rfl) (.tmp 38) (.tmp 42) (by rfl) (by simp [Act.eval, Act.put]) RA1.out ⟨b, o, none⟩ n c (by simp [Act.eval, Act.put]) HN SR1.out SM.out BW1.out.size ?_; intro v1 w1 R1 G1; have HR1 := Lib.hid R1; have HB1 := Lib.hid (Rk.below RA1.out (Nat.le_refl _) G1 BW1.out BW1.out.size); have X1 := Lib.hid (blk_far XB1.out G1 NE1.out); obtain ⟨k0, k1, k2, k3, k4⟩ := KC.out _ HB1.out; have kL0 := World.new_ne w1 _ k0; have kL4 := World.new_ne w1 _ k4; clear R1 G1)
      | (refine step_append_smps (l := []) (m := l) (by rfl) (.tmp 38) (.tmp 42) (by rfl) (by simp [Act.eval, Act.put]) RA2.out ⟨b, o, none⟩ n c (by simp [Act.eval, Act.put]) HN SR2.out SM.out BW2.out.size ?_; intro v1 w1 R1 G1; have HR1 := Lib.hid R1; have HB1 := Lib.hid (Rk.below RA2.out (Nat.le_refl _) G1 BW2.out BW2.out.size); have HR1b := Lib.hid (R1.later (Below.alloc (Below.refl _ _) (Nat.le_refl _) (.cells #[.int .i64 xo, .int .i64 xd, .int .i64 xp, .int .i64 xt] 29))); have X1b := Lib.hid (Hp.blk_new w1 (.cells #[.int .i64 xo, .int .i64 xd, .int .i64 xp, .int .i64 xt] 29)); have HB1b := Lib.hid (HB1.out.alloc HB1.out.size (.cells #[.int .i64 xo, .int .i64 xd, .int .i64 xp, .int .i64 xt] 29)); obtain ⟨k0, k1, k2, k3, k4⟩ := KC.out _ HB1.out; have kL0 := World.new_ne w1 _ k0; have kL4 := World.new_ne w1 _ k4; clear R1 G1)
      | (refine step_append_smps (l := []) (m := l) (by rfl) (.tmp 38) (.tmp 42) (by rfl) (by simp [Act.eval, Act.put]) RA3.out ⟨b, o, none⟩ n c (by simp [Act.eval, Act.put]) HN SR3.out SM.out BW3.out.size ?_; intro v1 w1 R1 G1; have HR1 := Lib.hid R1; have HB1 := Lib.hid (Rk.below RA3.out (Nat.le_refl _) G1 BW3.out BW3.out.size); have X1 := Lib.hid (blk_far XB3.out G1 NE3.out); obtain ⟨k0, k1, k2, k3, k4⟩ := KC.out _ HB1.out; have kL0 := World.new_ne w1 _ k0; have kL4 := World.new_ne w1 _ k4; clear R1 G1)
      | (refine step_append_smps (l := [] ++ l) (m := [⟨xo, xd, xp, xt⟩]) (by rfl) (.tmp 43) (.tmp 45) (by rfl) (by simp [Act.eval, Act.put]) HR1.out ⟨wa.heap.size + 1, 0, none⟩ 1 1 (by simp [Act.eval, Act.put]) ON (xsrc X1.out) SM2.out HB1.out.size ?_; intro v2 w3 R2 G2; have HR3 := Lib.hid R2; have HB3 := Lib.hid (Rk.below HR1.out (Nat.le_refl _) G2 HB1.out HB1.out.size); obtain ⟨k0, k1, k2, k3, k4⟩ := KC.out _ HB3.out; clear R2 G2)
      | (refine step_append_smps (l := [] ++ l) (m := [⟨xo, xd, xp, xt⟩]) (by rfl) (.tmp 43) (.tmp 45) (by rfl) (by simp [Act.eval, Act.put]) HR1b.out ⟨w1.heap.size, 0, none⟩ 1 1 (by simp [Act.eval, Act.put]) ON (xsrc X1b.out) SM2.out HB1b.out.size ?_; intro v2 w3 R2 G2; have HR3 := Lib.hid R2; have HB3 := Lib.hid (Rk.below HR1b.out (Nat.le_refl _) G2 HB1b.out HB1b.out.size); obtain ⟨k0, k1, k2, k3, k4⟩ := KC.out _ HB3.out; clear R2 G2)
      | (refine step_append_smps (l := [] ++ l) (m := [⟨xo, xd, xp, xt⟩]) (by rfl) (.tmp 43) (.tmp 45) (by rfl) (by simp [Act.eval, Act.put]) HR1.out ⟨wa.heap.size, 0, none⟩ 1 1 (by simp [Act.eval, Act.put]) ON (xsrc X1.out) SM2.out HB1.out.size ?_; intro v2 w3 R2 G2; have HR3 := Lib.hid R2; have HB3 := Lib.hid (Rk.below HR1.out (Nat.le_refl _) G2 HB1.out HB1.out.size); obtain ⟨k0, k1, k2, k3, k4⟩ := KC.out _ HB3.out; clear R2 G2)
      | (fail))
  all_goals
    have R3 : Rk w3 wa.heap.size v2 (l ++ [⟨xo, xd, xp, xt⟩]) := HR3.out
    have hb3 : base ≤ wa.heap.size := Nat.le_trans HBB.out BA.out.size
    have S3 := Sl.of_rk R3 hb3 (by simp)
    have F3 := Lib.hid (FA.out.later HB3.out)
    rcases S3 with ⟨e, _⟩ | ⟨_, b3, o3, c3, hb3', rfl, hc3, s3⟩
    · simp at e
    have L3 : (l ++ [(⟨xo, xd, xp, xt⟩ : Sm)]).length = n + 1 := by rw [List.length_append, HN.out]; rfl
    have HL3 := Lib.hid L3
    have S3a := Lib.hid s3
    rw [L3] at hc3 S3a ⊢
    have BG3 : Hid (But g w w3) := Lib.hid (But.below (BA.out.trans (HB3.out.mono BA.out.size)))
    have HB3' := Lib.hid hb3'; have HC3 := Lib.hid hc3
    have fz := F3.out.free 1
    clear R3 s3 L3 hb3' k0 k1 k2 k3
    by_cases h8 : n = 8
    · subst h8
      have c0 : ¬ c3 = 1 := by omega
      have c9 : 9 ≤ c3 := by omega
      have c91 : 1 ≤ c3 := by omega
      have EQ : (l ++ [(⟨xo, xd, xp, xt⟩ : Sm)]).drop 1 = l.drop 1 ++ [⟨xo, xd, xp, xt⟩] := List.drop_append_of_le_length (by rw [HN.out]; omega)
      have LD : (l.drop 1 ++ [(⟨xo, xd, xp, xt⟩ : Sm)]).length = 8 := by rw [List.length_append, List.length_drop, HN.out]; rfl
      have SP : Hid (Sl w3 base (.slice (some ⟨b3, o3 + 4, none⟩) 8 (c3 - 1)) (l.drop 1 ++ [⟨xo, xd, xp, xt⟩])) := Lib.hid (by
        refine .inr ⟨by rw [LD]; omega, b3, o3 + 4, c3 - 1, HB3'.out, by rw [LD], by rw [LD]; omega, ?_⟩
        rw [LD]
        refine ⟨.inr ⟨b3, o3 + 4, rfl, cs_lt S3a.out (by omega), fun i j hi hj => ?_⟩⟩
        have := cs_at' S3a.out (i + 1) j (by omega) hj
        rw [show o3 + ((i + 1) * 4 + j) = o3 + 4 + (i * 4 + j) by omega] at this
        rw [this, ← EQ]; unfold zof; rw [nth_drop, Nat.add_comm 1 i])
      clear EQ LD
      go_wp2_with (fail)
      go_ret
      have pt := F3.out.put SP.out
      exact ⟨rfl, by rw [EF.out HN.out]; exact pt.1, BG3.out.trans pt.2⟩
    · have n7 : (n : Int) + 1 ≤ 8 := by omega
      have SP : Hid (Sl w3 base (.slice (some ⟨b3, o3, none⟩) (n + 1) c3) (l ++ [⟨xo, xd, xp, xt⟩])) := Lib.hid (.inr ⟨by simp, b3, o3, c3, HB3'.out, by rw [HL3.out], by rw [HL3.out]; exact HC3.out, by rw [HL3.out]; exact S3a.out⟩)
      have ER2 := Lib.hid (ER.out (by rw [HN.out]; omega))
      go_wp2_with (fail)
      go_ret
      have pt := F3.out.put SP.out
      exact ⟨rfl, by rw [ER2.out]; exact pt.1, BG3.out.trans pt.2⟩
end Go.Proofs.Ytdaedhgbkamjpaa.JxW
