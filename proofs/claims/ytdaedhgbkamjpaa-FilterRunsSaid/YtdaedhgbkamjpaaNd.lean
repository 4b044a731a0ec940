/- The reference's Add: the first stage; Add whole. -/
import Derived.Test.YtdaedhgbkamjpaaNc
set_option linter.unusedVariables false
set_option linter.unusedSimpArgs false
namespace Go.Proofs.Ytdaedhgbkamjpaa.JxW
open Go.RowKit FxW Go.Deep
open Go.Proofs.Ytdaedhgbkamjpaa.Jx
/-- append of nil, as a step of a region that draws -/
theorem step_append_none {w : World} {ops : Array Oper} {o : Oper} {a : Act} {K : Act → World → Prop} {Q : Exit → Act → World → Prop} {E : Prop} {base : Nat} {v : Value} {l : List Sm} (hg : o.guard = none) (s xo : Operand)
    (ho : o.op = .call { callee := .builtin .append, args := #[s, xo], argTypes := #[41, 41] }) (hs : a.eval s = v) (own : Rk w base v l) (hx : a.eval xo = .slice none 0 0)
    (hK : K (a.put o.dst v) w) : if Region.wanted o (yielded ops a.tmps) = true then Oper.wp Try.prog o a w K Q else E := by
  have hw : Region.wanted o (yielded ops a.tmps) = true := by simp [Region.wanted, hg]
  rw [if_pos hw]
  obtain ⟨i0, hi, hz0, hz1, hz2⟩ := info_parts info_sample
  have hrun := run_append_owned_none (P := Try.prog) (w := w) base 41 o.type 29 i0 4 Try.underlying41 hi v l.length _ own.own
  unfold Oper.wp
  simp [execOp, ho, resolve, invoke, builtin, hs, hx, hrun, Result.andThen]
  exact hK
set_option maxHeartbeats 8000000 in
theorem radd_nil {base g : Nat} {tol : Int} {l : List Sm} {any : Bool} {fr : Int} (hl : l = []) (xo xd xp xt : Int) (hx : Sx.okS xo xd xp xt = true) (w : World) (hb : base ≤ w.heap.size) (F : Ri w base g tol l any fr) :
    Calls Try.prog 15 #[.pointer (some ⟨g, 0, none⟩), .agg #[.int .i64 xo, .int .i64 xd, .int .i64 xp, .int .i64 xt]] w fun e w' => e = .returned (.int .i64 (addE l ⟨xo, xd, xp, xt⟩)) ∧ AddedR w w' base g tol (addL l ⟨xo, xd, xp, xt⟩) any fr := by
  subst hl
  have C0 := Lib.hid (Sx.chk_ok hx)
  have E := Lib.hid (addE_yes (l := []) (x := ⟨xo, xd, xp, xt⟩) hx (.inl rfl))
  have EL := Lib.hid (addL_room E.out (by simp : ([] : List Sm).length < 8))
  rw [E.out, EL.out]
  have CK := Lib.hid (fun W => rcheck_any xo xd xp xt W)
  rw [C0.out] at CK
  have HF := Lib.hid F
  have HBB := Lib.hid hb
  have CT := Lib.hid (fun W (F : Ri W base g tol [] any fr) => show W.cell? ⟨g, 1, none⟩ = some (.slice none 0 0) from by
    obtain ⟨v, c1, s⟩ := F.c1
    rcases s with ⟨_, rfl⟩ | ⟨h, _⟩
    · exact c1
    · simp at h)
  clear F hx
  go_enter Try.func15, Try.ntmps15
  go_wp2_with (go_at_call 32; (with_reducible refine (CK.out _).mono ?_); rintro e w2 ⟨rfl, hb2⟩; have HB2 := Lib.hid hb2; clear hb2)
  have B0 : Hid (Below w.heap.size w (w.alloc (.cells #[.int .i64 xo, .int .i64 xd, .int .i64 xp, .int .i64 xt] 29))) := Lib.hid (by (repeat (first | exact Below.refl _ _ | refine Below.drew ?_ | refine Hp.drewN ?_ _ | refine Below.setCell ?_ (by first | (simp; done) | (simp; omega) | omega) _ | refine Below.alloc ?_ (by first | (simp; done) | (simp; omega) | omega) _ | (refine Hp.step ?_ (by assumption)))))
  have B2 := Lib.hid (B0.out.trans (HB2.out.mono (by simp)))
  have blk : w2.heap[w.heap.size]? = some (.cells #[.int .i64 xo, .int .i64 xd, .int .i64 xp, .int .i64 xt] 29 (0, 0)) := by rw [HB2.out.block _ (by simp)]; exact Hp.blk_new w _
  have BK := Lib.hid blk
  have c1 := CT.out w2 (HF.out.later B2.out)
  clear blk
  go_quiet (fail)
  go_wp2_with (fail)
  clear c1
  obtain ⟨wa, hwa⟩ : ∃ wa, w2.drewN nq = wa := ⟨_, rfl⟩
  have BA : Hid (Below w.heap.size w wa) := Lib.hid (by rw [← hwa]; exact Hp.drewN B2.out _)
  have FA := Lib.hid (HF.out.later BA.out)
  have bka : Hid (wa.heap[w.heap.size]? = some (.cells #[.int .i64 xo, .int .i64 xd, .int .i64 xp, .int .i64 xt] 29 (0, 0))) := Lib.hid (by rw [← hwa]; exact BK.out)
  have c1 : wa.cell? ⟨g, 1, none⟩ = some (.slice none 0 0) := CT.out wa FA.out
  obtain ⟨gx, hgx⟩ : ∃ gx, w.heap.size = gx := ⟨_, rfl⟩
  rw [hgx] at bka
  rw [hwa, hgx]
  have lgx := Hp.blk_lt bka.out
  have lg := FA.out.lt
  have z0 : wa.cell? ⟨gx, 0, none⟩ = some (.int .i64 xo) := Hp.blk_cell bka.out rfl
  have z1 : wa.cell? ⟨gx, 1, none⟩ = some (.int .i64 xd) := Hp.blk_cell bka.out rfl
  have z2 : wa.cell? ⟨gx, 2, none⟩ = some (.int .i64 xp) := Hp.blk_cell bka.out rfl
  have z3 : wa.cell? ⟨gx, 3, none⟩ = some (.int .i64 xt) := Hp.blk_cell bka.out rfl
  have zL := World.new_ne wa _ z0; have cL := World.new_ne wa _ c1
  have l1 : gx < wa.heap.size + 1 := by omega
  have l2 : g < wa.heap.size + 1 := by omega
  clear hwa hgx
  have BW1 : Hid (Below wa.heap.size wa ((wa.drew.alloc (.cells #[] 29)).alloc (.cells #[.int .i64 xo, .int .i64 xd, .int .i64 xp, .int .i64 xt] 29))) := Lib.hid (by (repeat (first | exact Below.refl _ _ | refine Below.drew ?_ | refine Hp.drewN ?_ _ | refine Below.setCell ?_ (by first | (simp; done) | (simp; omega) | omega) _ | refine Below.alloc ?_ (by first | (simp; done) | (simp; omega) | omega) _ | (refine Hp.step ?_ (by assumption)))))
  have BW2 : Hid (Below wa.heap.size wa (wa.drew.alloc (.cells #[] 29))) := Lib.hid (by (repeat (first | exact Below.refl _ _ | refine Below.drew ?_ | refine Hp.drewN ?_ _ | refine Below.setCell ?_ (by first | (simp; done) | (simp; omega) | omega) _ | refine Below.alloc ?_ (by first | (simp; done) | (simp; omega) | omega) _ | (refine Hp.step ?_ (by assumption)))))
  have BW3 : Hid (Below wa.heap.size wa ((wa.drew.alloc (.cells #[.int .i64 xo, .int .i64 xd, .int .i64 xp, .int .i64 xt] 29)).alloc (.cells #[] 29))) := Lib.hid (by (repeat (first | exact Below.refl _ _ | refine Below.drew ?_ | refine Hp.drewN ?_ _ | refine Below.setCell ?_ (by first | (simp; done) | (simp; omega) | omega) _ | refine Below.alloc ?_ (by first | (simp; done) | (simp; omega) | omega) _ | (refine Hp.step ?_ (by assumption)))))
  have EB1 : Hid (((wa.drew.alloc (.cells #[] 29)).alloc (.cells #[.int .i64 xo, .int .i64 xd, .int .i64 xp, .int .i64 xt] 29)).heap[wa.heap.size]? = some (.cells #[] 29 (0, 0))) := Lib.hid (Hp.blk_old (Hp.blk_new wa.drew _))
  have EB2 : Hid ((wa.drew.alloc (.cells #[] 29)).heap[wa.heap.size]? = some (.cells #[] 29 (0, 0))) := Lib.hid (Hp.blk_new wa.drew _)
  have EB3 : Hid (((wa.drew.alloc (.cells #[.int .i64 xo, .int .i64 xd, .int .i64 xp, .int .i64 xt] 29)).alloc (.cells #[] 29)).heap[wa.heap.size + 1]? = some (.cells #[] 29 (0, 0))) := Lib.hid (by
    have h := Hp.blk_new (wa.drew.alloc (.cells #[.int .i64 xo, .int .i64 xd, .int .i64 xp, .int .i64 xt] 29)) (.cells #[] 29)
    rw [show (wa.drew.alloc (.cells #[.int .i64 xo, .int .i64 xd, .int .i64 xp, .int .i64 xt] 29)).heap.size = wa.heap.size + 1 by simp] at h
    exact h)
  have XB1 : Hid (((wa.drew.alloc (.cells #[] 29)).alloc (.cells #[.int .i64 xo, .int .i64 xd, .int .i64 xp, .int .i64 xt] 29)).heap[wa.heap.size + 1]? = some (.cells #[.int .i64 xo, .int .i64 xd, .int .i64 xp, .int .i64 xt] 29 (0, 0))) := Lib.hid (by
    have h := Hp.blk_new (wa.drew.alloc (.cells #[] 29)) (.cells #[.int .i64 xo, .int .i64 xd, .int .i64 xp, .int .i64 xt] 29)
    rw [show (wa.drew.alloc (.cells #[] 29)).heap.size = wa.heap.size + 1 by simp] at h
    exact h)
  have XB3 : Hid (((wa.drew.alloc (.cells #[.int .i64 xo, .int .i64 xd, .int .i64 xp, .int .i64 xt] 29)).alloc (.cells #[] 29)).heap[wa.heap.size]? = some (.cells #[.int .i64 xo, .int .i64 xd, .int .i64 xp, .int .i64 xt] 29 (0, 0))) := Lib.hid (Hp.blk_old (Hp.blk_new wa.drew _))
  have RA1 : Hid (Rk ((wa.drew.alloc (.cells #[] 29)).alloc (.cells #[.int .i64 xo, .int .i64 xd, .int .i64 xp, .int .i64 xt] 29)) wa.heap.size (.slice (some ⟨wa.heap.size, 0, none⟩) 0 0) []) := Lib.hid (Rk.empty EB1.out (by omega))
  have RA2 : Hid (Rk (wa.drew.alloc (.cells #[] 29)) wa.heap.size (.slice (some ⟨wa.heap.size, 0, none⟩) 0 0) []) := Lib.hid (Rk.empty EB2.out (by omega))
  have RA3 : Hid (Rk ((wa.drew.alloc (.cells #[.int .i64 xo, .int .i64 xd, .int .i64 xp, .int .i64 xt] 29)).alloc (.cells #[] 29)) wa.heap.size (.slice (some ⟨(wa.heap.size + 1), 0, none⟩) 0 0) []) := Lib.hid (Rk.empty EB3.out (by omega))
  have SM2 := Lib.hid (show ([] : List Sm).length + 1 ≤ 1000000 by simp)
  have ON : Hid ([(⟨xo, xd, xp, xt⟩ : Sm)].length = 1) := Lib.hid rfl
  have KC := Lib.hid (fun (W' : World) (kb : Below wa.heap.size wa W') => show W'.cell? ⟨gx, 0, none⟩ = some (.int .i64 xo) ∧ W'.cell? ⟨gx, 1, none⟩ = some (.int .i64 xd) ∧ W'.cell? ⟨gx, 2, none⟩ = some (.int .i64 xp) ∧ W'.cell? ⟨gx, 3, none⟩ = some (.int .i64 xt) ∧ W'.cell? ⟨g, 1, none⟩ = some (.slice none 0 0) from
    ⟨(kb.cell (p := ⟨gx, 0, none⟩) lgx).trans z0, (kb.cell (p := ⟨gx, 1, none⟩) lgx).trans z1, (kb.cell (p := ⟨gx, 2, none⟩) lgx).trans z2, (kb.cell (p := ⟨gx, 3, none⟩) lgx).trans z3, (kb.cell (p := ⟨g, 1, none⟩) lg).trans c1⟩)
  go_region_held_law (fun w' => w'.cell? ⟨gx, 0, none⟩ = some (.int .i64 xo) ∧ w'.cell? ⟨gx, 1, none⟩ = some (.int .i64 xd) ∧ w'.cell? ⟨gx, 2, none⟩ = some (.int .i64 xp) ∧ w'.cell? ⟨gx, 3, none⟩ = some (.int .i64 xt) ∧ w'.cell? ⟨g, 1, none⟩ = some (.slice none 0 0)) (go_keep)
    (first
      | (refine step_append_none (l := []) (by rfl) (.tmp 38) (.tmp 42) (by rfl) (by simp [Act.eval, Act.put]) RA1.out (by simp [Act.eval, Act.put]) ?_)
      | (refine step_append_none (l := []) (by rfl) (.tmp 38) (.tmp 42) (by rfl) (by simp [Act.eval, Act.put]) RA2.out (by simp [Act.eval, Act.put]) ?_)
      | (refine step_append_none (l := []) (by rfl) (.tmp 38) (.tmp 42) (by rfl) (by simp [Act.eval, Act.put]) RA3.out (by simp [Act.eval, Act.put]) ?_)
      | (refine step_append_smps (l := []) (m := [⟨xo, xd, xp, xt⟩]) (by rfl) (.tmp 43) (.tmp 45) (by rfl) (by simp [Act.eval, Act.put]) RA1.out ⟨wa.heap.size + 1, 0, none⟩ 1 1 (by simp [Act.eval, Act.put]) ON (xsrc XB1.out) SM2.out BW1.out.size ?_; intro v2 w3 R2 G2; have HR3 := Lib.hid R2; have HB3 := Lib.hid (Rk.below RA1.out (Nat.le_refl _) G2 BW1.out BW1.out.size); obtain ⟨k0, k1, k2, k3, k4⟩ := KC.out _ HB3.out; clear R2 G2)
      | (refine step_append_smps (l := []) (m := [⟨xo, xd, xp, xt⟩]) (by rfl) (.tmp 43) (.tmp 45) (by rfl) (by simp [Act.eval, Act.put]) RA3.out ⟨wa.heap.size, 0, none⟩ 1 1 (by simp [Act.eval, Act.put]) ON (xsrc XB3.out) SM2.out BW3.out.size ?_; intro v2 w3 R2 G2; have HR3 := Lib.hid R2; have HB3 := Lib.hid (Rk.below RA3.out (Nat.le_refl _) G2 BW3.out BW3.out.size); obtain ⟨k0, k1, k2, k3, k4⟩ := KC.out _ HB3.out; clear R2 G2)
      | (fail))
  all_goals
    have R3 : Rk w3 wa.heap.size v2 [⟨xo, xd, xp, xt⟩] := HR3.out
    have hb3 : base ≤ wa.heap.size := Nat.le_trans HBB.out BA.out.size
    have S3 := Sl.of_rk R3 hb3 (by simp)
    have F3 := Lib.hid (FA.out.later HB3.out)
    rcases S3 with ⟨e, _⟩ | ⟨_, b3, o3, c3, hb3', rfl, hc3, s3⟩
    · simp at e
    have SP : Hid (Sl w3 base (.slice (some ⟨b3, o3, none⟩) 1 c3) ([] ++ [⟨xo, xd, xp, xt⟩])) := Lib.hid (.inr ⟨by simp, b3, o3, c3, hb3', rfl, hc3, s3⟩)
    have BG3 : Hid (But g w w3) := Lib.hid (But.below (BA.out.trans (HB3.out.mono BA.out.size)))
    have fz := F3.out.free 1
    clear R3 s3 hb3' k0 k1 k2 k3
    rw [show ([(⟨xo, xd, xp, xt⟩ : Sm)]).length = 1 from rfl]
    go_wp2_with (fail)
    go_ret
    have pt := F3.out.put SP.out
    exact ⟨rfl, pt.1, BG3.out.trans pt.2⟩
theorem radd_any {base g : Nat} {tol : Int} {l : List Sm} {any : Bool} {fr : Int} (V : Val l) (xo xd xp xt : Int) (w : World) (hb : base ≤ w.heap.size) (F : Ri w base g tol l any fr) :
    Calls Try.prog 15 #[.pointer (some ⟨g, 0, none⟩), .agg #[.int .i64 xo, .int .i64 xd, .int .i64 xp, .int .i64 xt]] w fun e w' => e = .returned (.int .i64 (addE l ⟨xo, xd, xp, xt⟩)) ∧ AddedR w w' base g tol (addL l ⟨xo, xd, xp, xt⟩) any fr := by
  by_cases hx : Sx.okS xo xd xp xt = true
  · by_cases h0 : l = []
    · exact radd_nil h0 xo xd xp xt hx w hb F
    · have hl : 0 < l.length := List.length_pos_iff.2 h0
      by_cases ht : xt ≤ lastT l
      · exact radd_order V xo xd xp xt hx hl ht w F
      · exact radd_some V xo xd xp xt hx hl (by omega) w hb F
  · exact radd_bad xo xd xp xt (by simpa using hx) w F
end Go.Proofs.Ytdaedhgbkamjpaa.JxW
