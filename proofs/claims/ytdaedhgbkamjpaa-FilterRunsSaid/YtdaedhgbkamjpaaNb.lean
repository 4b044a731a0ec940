/- The reference's Samples and Add. -/
import Derived.Test.YtdaedhgbkamjpaaNa
import Derived.Laws.AppendOwnNone
import Derived.Deep.RegionHeldLaw
set_option linter.unusedVariables false
set_option linter.unusedSimpArgs false
namespace Go.Proofs.Ytdaedhgbkamjpaa.JxW
open Go.RowKit FxW Go.Deep
open Go.Proofs.Ytdaedhgbkamjpaa.Jx
/-- append of a list, in a region in order -/
theorem append_list {w : World} {ops : Array Oper} {rest : List Oper} {o : Oper} {a : Act} {Q : Exit → Act → World → Prop} {base : Nat} {v : Value} {l m : List Sm} (hgd : o.guard = none) (s xo : Operand)
    (ho : o.op = .call { callee := .builtin .append, args := #[s, xo], argTypes := #[41, 41] }) (hs : a.eval s = v) (own : Rk w base v l) (ad : Addr) (k c : Nat) (hx : a.eval xo = .slice (some ad) k c) (hk : Hid (m.length = k))
    (hc : ∀ j u, (flat (zof m) k)[j]? = some u → w.cell? (ad.add j) = some u) (small : l.length + k ≤ 1000000) (hb : base ≤ w.heap.size) (h : ∀ v' w', Rk w' base v' (l ++ m) → w.grownBy w' v.ownBlock → wpList Try.prog ops Q rest (a.put o.dst v') w') : wpList Try.prog ops Q (o :: rest) a w := by
  obtain ⟨i0, hi, hz0, hz1, hz2⟩ := info_parts info_sample
  refine wpList_append_own w hgd s xo 41 ho base 29 i0 _ 4 32 Try.underlying41 hi hz0 hz1 hz2 rfl (by decide) v l.length _ hs own.own ad k c (flat (zof m) k) hx (flat_len _ _) hc flat_one ?_ ?_ hb ?_
  · unfold maxLen; omega
  · omega
  · intro v' w' h1 h2 _
    refine h v' w' ⟨?_⟩ h2
    rw [List.length_append, flat_apps, hk.out]; exact h1
theorem cs_src {w : World} {b o n : Nat} {l : List Sm} (S : Cs w (some ⟨b, o, none⟩) n (zof l)) : ∀ j u, (flat (zof l) n)[j]? = some u → w.cell? ((⟨b, o, none⟩ : Addr).add j) = some u := fun j u hj => by
  obtain ⟨lt, rfl⟩ := flat_get hj
  have e := cs_at' S (j / 4) (j % 4) (by omega) (by omega)
  rw [show j / 4 * 4 + j % 4 = j by omega] at e
  rw [add_at, e]
set_option maxHeartbeats 4000000 in
theorem rsamples_any {base g : Nat} {tol : Int} {l : List Sm} {any : Bool} {fr : Int} (h8 : l.length ≤ 8) (w : World) (F : Ri w base g tol l any fr) :
    Calls Try.prog 27 #[.pointer (some ⟨g, 0, none⟩)] w fun e w' => ∃ v, e = .returned v ∧ Rk w' w.heap.size v l ∧ Below w.heap.size w w' := by
  obtain ⟨v, c1, s⟩ := F.c1
  have lt := F.lt
  have R0 := Lib.hid (Rk.fresh w)
  have B0 : Hid (Below w.heap.size w (w.alloc (.cells #[] 29))) := Lib.hid (by (repeat (first | exact Below.refl _ _ | refine Below.drew ?_ | refine Hp.drewN ?_ _ | refine Below.setCell ?_ (by first | (simp; done) | (simp; omega) | omega) _ | refine Below.alloc ?_ (by first | (simp; done) | (simp; omega) | omega) _ | (refine Hp.step ?_ (by assumption)))))
  rcases s with ⟨rfl, rfl⟩ | ⟨h0, b, o, c, hb, rfl, hc, s⟩
  · obtain ⟨i0, hi0, -, -, -⟩ := info_parts info_sample
    have HI := Lib.hid hi0
    clear F hi0
    go_enter Try.func27, Try.ntmps27
    go_wp2_with (at_builtin; refine wpList_append_own_none (w := w.alloc (.cells #[] 29)) rfl (.tmp 5) (.tmp 9) 41 rfl w.heap.size 29 i0 4 Try.underlying41 HI.out (.slice (some ⟨w.heap.size, 0, none⟩) 0 0) 0 _ (by rfl) R0.out.own (by rfl) ?_)
    go_ret
    exact ⟨_, rfl, R0.out, B0.out⟩
  · have SC := Lib.hid (cs_src (s.later B0.out))
    have SM := Lib.hid (show ([] : List Sm).length + l.length ≤ 1000000 by simp; omega)
    have HK : Hid (l.length = l.length) := Lib.hid rfl
    obtain ⟨n, hn⟩ : ∃ n, l.length = n := ⟨_, rfl⟩
    have HN := Lib.hid hn
    rw [hn] at c1 SC SM
    have HK2 : Hid (l.length = n) := Lib.hid hn
    clear F hn s hc HK
    go_enter Try.func27, Try.ntmps27
    go_wp2_with (at_builtin; refine append_list (l := []) (m := l) rfl (.tmp 5) (.tmp 9) rfl (by rfl) R0.out ⟨b, o, none⟩ n c (by rfl) HK2 SC.out SM.out B0.out.size ?_; intro v2 w2 R2 G2; have HR2 := Lib.hid R2; have HG2 := Lib.hid G2; clear R2 G2)
    go_ret
    exact ⟨_, rfl, HR2.out, Rk.below R0.out (Nat.le_refl _) HG2.out B0.out B0.out.size⟩
/-- what the reference's Add leaves -/
structure AddedR (w w' : World) (base g : Nat) (tol : Int) (l : List Sm) (any : Bool) (fr : Int) : Prop where
  ri : Ri w' base g tol l any fr
  but : But g w w'
set_option maxHeartbeats 2000000 in
theorem radd_bad {base g : Nat} {tol : Int} {l : List Sm} {any : Bool} {fr : Int} (xo xd xp xt : Int) (hx : Sx.okS xo xd xp xt = false) (w : World) (F : Ri w base g tol l any fr) :
    Calls Try.prog 15 #[.pointer (some ⟨g, 0, none⟩), .agg #[.int .i64 xo, .int .i64 xd, .int .i64 xp, .int .i64 xt]] w fun e w' => e = .returned (.int .i64 (addE l ⟨xo, xd, xp, xt⟩)) ∧ AddedR w w' base g tol (addL l ⟨xo, xd, xp, xt⟩) any fr := by
  have C0 := Lib.hid (Sx.chk_no hx)
  have E := Lib.hid (addE_no (l := l) (x := ⟨xo, xd, xp, xt⟩) hx)
  have EL := Lib.hid (addL_no (l := l) (x := ⟨xo, xd, xp, xt⟩) (by rw [E.out]; omega))
  rw [E.out, EL.out]
  have CK := Lib.hid (fun W => rcheck_any xo xd xp xt W)
  rw [C0.out] at CK
  have HF := Lib.hid F
  clear F hx
  go_enter Try.func15, Try.ntmps15
  go_wp2_with (go_at_call 32; (with_reducible refine (CK.out _).mono ?_); rintro e w2 ⟨rfl, hb2⟩; have HB2 := Lib.hid hb2; clear hb2)
  go_ret
  have b : Below w.heap.size w w2 := Below.trans (by (repeat (first | exact Below.refl _ _ | refine Below.drew ?_ | refine Hp.drewN ?_ _ | refine Below.setCell ?_ (by first | (simp; done) | (simp; omega) | omega) _ | refine Below.alloc ?_ (by first | (simp; done) | (simp; omega) | omega) _ | (refine Hp.step ?_ (by assumption))))) (HB2.out.mono (by simp))
  exact ⟨rfl, HF.out.later b, But.below b⟩
set_option maxHeartbeats 4000000 in
theorem radd_order {base g : Nat} {tol : Int} {l : List Sm} {any : Bool} {fr : Int} (V : Val l) (xo xd xp xt : Int) (hx : Sx.okS xo xd xp xt = true) (h0 : 0 < l.length) (ht : xt ≤ lastT l) (w : World) (F : Ri w base g tol l any fr) :
    Calls Try.prog 15 #[.pointer (some ⟨g, 0, none⟩), .agg #[.int .i64 xo, .int .i64 xd, .int .i64 xp, .int .i64 xt]] w fun e w' => e = .returned (.int .i64 (addE l ⟨xo, xd, xp, xt⟩)) ∧ AddedR w w' base g tol (addL l ⟨xo, xd, xp, xt⟩) any fr := by
  have C0 := Lib.hid (Sx.chk_ok hx)
  have E := Lib.hid (addE_order (l := l) (x := ⟨xo, xd, xp, xt⟩) hx (by intro e; rw [e] at h0; simp at h0) ht)
  have EL := Lib.hid (addL_no (l := l) (x := ⟨xo, xd, xp, xt⟩) (by rw [E.out]; omega))
  rw [E.out, EL.out]
  have CK := Lib.hid (fun W => rcheck_any xo xd xp xt W)
  rw [C0.out] at CK
  have HF := Lib.hid F
  have n8 := V.len
  obtain ⟨n, hn⟩ : ∃ n, l.length = n := ⟨_, rfl⟩
  obtain ⟨k, hk⟩ : ∃ k, n = k + 1 := ⟨n - 1, by omega⟩
  have LT : lastT l = (nth l k).t := by unfold lastT; rw [hn, hk]; rfl
  have CT := Lib.hid (fun W (F : Ri W base g tol l any fr) => show ∃ b o c, W.cell? ⟨g, 1, none⟩ = some (.slice (some ⟨b, o, none⟩) n c) ∧ W.cell? ⟨b, o + k * 4 + 3, none⟩ = some (.int .i64 (lastT l)) from by
    obtain ⟨v, c1, s⟩ := F.c1
    rcases s with ⟨e, _⟩ | ⟨_, b, o, c, _, rfl, _, s⟩
    · rw [e] at hn; simp at hn; omega
    · rw [hn] at c1 s
      have := cs_at' s k 3 (by omega) (by omega)
      rw [show o + (k * 4 + 3) = o + k * 4 + 3 by omega] at this
      exact ⟨b, o, c, c1, by rw [this, LT]; rfl⟩)
  obtain ⟨T, eT⟩ : ∃ T, lastT l = T := ⟨_, rfl⟩
  rw [eT] at CT ht
  have j1 : (0 : Int) < (n : Int) := by omega
  have j2 : (n : Int) - 1 = k := by omega
  have j0 : 0 < n := by omega
  have j3 : k < n := by omega
  have j4 : IntKind.i64.wrap ((n : Int) - 1) = (k : Int) := by rw [j2]; exact IntWalk.i64_in _ (by omega)
  have n8' : (n : Int) ≤ 8 := by omega
  clear F hx hk hn eT h0 V LT
  go_enter Try.func15, Try.ntmps15
  go_wp2_with (go_at_call 32; (with_reducible refine (CK.out _).mono ?_); rintro e w2 ⟨rfl, hb2⟩; have HB2 := Lib.hid hb2; clear hb2)
  have B0 : Hid (Below w.heap.size w (w.alloc (.cells #[.int .i64 xo, .int .i64 xd, .int .i64 xp, .int .i64 xt] 29))) := Lib.hid (by (repeat (first | exact Below.refl _ _ | refine Below.drew ?_ | refine Hp.drewN ?_ _ | refine Below.setCell ?_ (by first | (simp; done) | (simp; omega) | omega) _ | refine Below.alloc ?_ (by first | (simp; done) | (simp; omega) | omega) _ | (refine Hp.step ?_ (by assumption)))))
  have B2 := Lib.hid (B0.out.trans (HB2.out.mono (by simp)))
  have blk : w2.heap[w.heap.size]? = some (.cells #[.int .i64 xo, .int .i64 xd, .int .i64 xp, .int .i64 xt] 29 (0, 0)) := by rw [HB2.out.block _ (by simp)]; exact Hp.blk_new w _
  have z3 : w2.cell? ⟨w.heap.size, 3, none⟩ = some (.int .i64 xt) := Hp.blk_cell blk rfl
  obtain ⟨b, o, c, c1, ct⟩ := CT.out w2 (HF.out.later B2.out)
  clear blk
  go_quiet (fail)
  go_wp2_with (fail)
  go_ret
  have bq : Below w.heap.size w (w2.drewN nq) := Hp.drewN B2.out _
  exact ⟨rfl, HF.out.later bq, But.below bq⟩
end Go.Proofs.Ytdaedhgbkamjpaa.JxW
