/- The reference's order of the stages. -/
import Derived.Test.YtdaedhgbkamjpaaNd
import Derived.LoopTactic
set_option linter.unusedVariables false
set_option linter.unusedSimpArgs false
namespace Go.Proofs.Ytdaedhgbkamjpaa.JxW
open Go.RowKit FxW Go.Deep
open Go.Proofs.Ytdaedhgbkamjpaa.Jx
theorem rl_src {w : World} {b o n k : Nat} {l : List Sm} (S : Cs w (some ⟨b, o, none⟩) n (zof l)) (hk : k ≤ n) : ∀ j u, (flat (zof (l.take k)) k)[j]? = some u → w.cell? ((⟨b, o, none⟩ : Addr).add j) = some u := fun j u hj => by
  obtain ⟨lt, rfl⟩ := flat_get hj
  have e := cs_at' S (j / 4) (j % 4) (by omega) (by omega)
  rw [show j / 4 * 4 + j % 4 = j by omega] at e
  rw [add_at, e]; unfold zof; rw [nth_take (by omega)]
theorem rl_src2 {w : World} {b o n k : Nat} {l : List Sm} (S : Cs w (some ⟨b, o, none⟩) n (zof l)) : ∀ j u, (flat (zof (l.drop k)) (n - k))[j]? = some u → w.cell? ((⟨b, o + k * 4, none⟩ : Addr).add j) = some u := fun j u hj => by
  obtain ⟨lt, rfl⟩ := flat_get hj
  have e := cs_at' S (k + j / 4) (j % 4) (by omega) (by omega)
  rw [show o + ((k + j / 4) * 4 + j % 4) = o + k * 4 + j by omega] at e
  rw [add_at, e]; unfold zof; rw [nth_drop]
theorem Rk.re {w : World} {base base' : Nat} {v : Value} {l l' : List Sm} (h : Rk w base v l) (e : l = l') (hb : base' ≤ base) : Rk w base' v l' := by
  subst e
  obtain ⟨h1, h2⟩ := h.own
  refine ⟨h1, ?_⟩
  rcases h2 with h2 | ⟨g, cap, cur, hv, hg, r⟩
  · exact .inl h2
  · exact .inr ⟨g, cap, cur, hv, Nat.le_trans hb hg, r⟩
set_option maxHeartbeats 2000000 in
theorem rorder_nil {base g : Nat} {tol : Int} {l : List Sm} {any : Bool} {fr : Int} (hl : l = []) (w : World) (F : Ri w base g tol l any fr) :
    Calls Try.prog 33 #[.pointer (some ⟨g, 0, none⟩)] w fun e w' => ∃ v, e = .returned v ∧ Rk w' w.heap.size v (ord l) ∧ Below w.heap.size w w' := by
  subst hl
  have c1 : w.cell? ⟨g, 1, none⟩ = some (.slice none 0 0) := by
    obtain ⟨v, c1, s⟩ := F.c1
    rcases s with ⟨_, rfl⟩ | ⟨h, _⟩
    · exact c1
    · simp at h
  clear F
  go_enter Try.func33, Try.ntmps33
  go_wp2_with (fail)
  go_loopw [4, 3] (fun c v wr => c = .int .i64 0 ∧ v = .slice none 0 0 ∧ wr = w) (fun _ _ _ => 0)
  case atStart => exact ⟨rfl, rfl, rfl⟩
  case round =>
    obtain ⟨rfl, rfl, rfl⟩ := hrel
    go_wp2_with (fail)
    go_ret
    exact ⟨_, rfl, Rk.nil _ _, Below.refl _ _⟩
set_option maxHeartbeats 16000000 in
set_option maxRecDepth 4000 in
theorem rorder_some {base g : Nat} {tol : Int} {l : List Sm} {any : Bool} {fr : Int} (V : Val l) (h0 : 0 < l.length) (w : World) (F : Ri w base g tol l any fr) :
    Calls Try.prog 33 #[.pointer (some ⟨g, 0, none⟩)] w fun e w' => ∃ v, e = .returned v ∧ Rk w' w.heap.size v (ord l) ∧ Below w.heap.size w w' := by
  have n8 := V.len
  obtain ⟨bf, of, cf, c1, sf⟩ : ∃ bf of cf, w.cell? ⟨g, 1, none⟩ = some (.slice (some ⟨bf, of, none⟩) l.length cf) ∧ Cs w (some ⟨bf, of, none⟩) l.length (zof l) := by
    obtain ⟨v, c1, s⟩ := F.c1
    rcases s with ⟨e, _⟩ | ⟨_, b, o, c, _, rfl, _, s⟩
    · rw [e] at h0; simp at h0
    · exact ⟨b, o, c, c1, s⟩
  have lg := F.lt
  have RL := Lib.hid (fun i (hi : i ≤ l.length) => rord_len l hi)
  have RO : Hid (rord l l.length = ord l) := Lib.hid rfl
  obtain ⟨n, hn⟩ : ∃ n, l.length = n := ⟨_, rfl⟩
  rw [hn] at c1 sf RL RO n8 h0
  have C1 := Lib.hid c1; have SF := Lib.hid sf; have LG := Lib.hid lg
  have LB : Hid (bf < w.heap.size) := Lib.hid (cs_lt sf h0)
  clear F V hn sf c1 lg
  go_enter Try.func33, Try.ntmps33
  go_wp2_with (fail)
  go_loopw [4, 3] (fun c v wr => ∃ i : Nat, i ≤ n ∧ c = .int .i64 i ∧ ((i = 0 ∧ v = .slice none 0 0) ∨ (0 < i ∧ Rk wr w.heap.size v (rord l i))) ∧ Below w.heap.size w wr) (fun c _ _ => n - (intOf c).toNat)
  case atStart => exact ⟨0, by omega, rfl, .inl ⟨rfl, rfl⟩, Below.refl _ _⟩
  case round =>
    rename World => wr
    obtain ⟨i, hi, rfl, ho, hb⟩ := hrel
    have HBr := Lib.hid hb
    have szr := hb.size
    have lg : g < wr.heap.size := by have := LG.out; omega
    have lb : bf < wr.heap.size := by have := LB.out; omega
    have C1r := Lib.hid ((hb.cell (p := ⟨g, 1, none⟩) LG.out).trans C1.out)
    have SFr := Lib.hid (SF.out.later hb)
    have LG1 := Lib.hid lg; have LB1 := Lib.hid lb
    have c1 := C1r.out
    clear hb
    by_cases hlt : i < n
    · have e0 : (i : Int) < (n : Int) := by omega
      have i8 : (i : Int) ≤ 8 := by omega
      rcases ho with ⟨rfl, rfl⟩ | ⟨hi0, R⟩
      · have ER := Lib.hid (show rord l 1 = [] ++ [nth l 0] from rfl)
        have ZX := Lib.hid (fun W (k : Below wr.heap.size wr W) => (SFr.out.later k).elem (i := 0) hlt)
        obtain ⟨x, ex⟩ : ∃ x, nth l 0 = x := ⟨_, rfl⟩
        rw [ex] at ER
        have HX := Lib.hid ex
        obtain ⟨xo, xd, xp, xt⟩ := x
        have ZW := Lib.hid (fun W (k : Below wr.heap.size wr W) => show W.cell? ⟨bf, of, none⟩ = some (.int .i64 xo) ∧ W.cell? ⟨bf, of + 1, none⟩ = some (.int .i64 xd) ∧ W.cell? ⟨bf, of + 2, none⟩ = some (.int .i64 xp) ∧ W.cell? ⟨bf, of + 3, none⟩ = some (.int .i64 xt) from by
          obtain ⟨b', o', e', _, x0, x1, x2, x3⟩ := ZX.out W k
          obtain ⟨rfl, rfl⟩ : bf = b' ∧ of = o' := by injection e' with e'; injection e' with e1 e2; exact ⟨e1, e2⟩
          rw [Nat.zero_mul, Nat.add_zero] at x0 x1 x2 x3
          change W.cell? _ = some (.int .i64 (nth l 0).o) at x0
          change W.cell? _ = some (.int .i64 (nth l 0).d) at x1
          change W.cell? _ = some (.int .i64 (nth l 0).p) at x2
          change W.cell? _ = some (.int .i64 (nth l 0).t) at x3
          rw [HX.out] at x0 x1 x2 x3
          exact ⟨x0, x1, x2, x3⟩)
        clear ex
        go_wp2_with (fail)
        go_loopw [5] (fun c wi => c = .int .i64 0 ∧ Below wr.heap.size wr wi) (fun _ _ => 0)
        case atStart => exact ⟨rfl, Below.refl _ _⟩
        case round =>
          rename World => wi
          obtain ⟨rfl, hb⟩ := hrel
          have BAq := Lib.hid (fun m => Hp.drewN hb m)
          clear hb
          go_wp2_with (fail)
          go_quiet (fail)
          go_wp2_with (fail)
          clear c1
          obtain ⟨wa, hwa⟩ : ∃ wa, wi.drewN nq = wa := ⟨_, rfl⟩
          have BA : Hid (Below wr.heap.size wr wa) := Lib.hid (by rw [← hwa]; exact BAq.out _)
          rw [hwa]
          clear hwa
          --F0
          have lg := Nat.lt_of_lt_of_le LG1.out BA.out.size; have lb := Nat.lt_of_lt_of_le LB1.out BA.out.size
          have c1 : wa.cell? ⟨g, 1, none⟩ = some (.slice (some ⟨bf, of, none⟩) n cf) := (BA.out.cell (p := ⟨g, 1, none⟩) LG1.out).trans C1r.out
          obtain ⟨z0, z1, z2, z3⟩ := ZW.out wa BA.out
          have zL := World.new_ne wa _ z0; have cL := World.new_ne wa _ c1
          have l1 : bf < wa.heap.size + 1 := by omega
          have l2 : g < wa.heap.size + 1 := by omega
          have BW1 : Hid (Below wa.heap.size wa ((wa.drew.alloc (.cells #[] 29)).alloc (.cells #[.int .i64 xo, .int .i64 xd, .int .i64 xp, .int .i64 xt] 29))) := Lib.hid (by (repeat (first | exact Below.refl _ _ | refine Below.drew ?_ | refine Hp.drewN ?_ _ | refine Below.setCell ?_ (by first | (simp; done) | (simp; omega) | omega) _ | refine Below.alloc ?_ (by first | (simp; done) | (simp; omega) | omega) _ | (refine Hp.step ?_ (by assumption)))))
          have BW2 : Hid (Below wa.heap.size wa (wa.drew.alloc (.cells #[] 29))) := Lib.hid (by (repeat (first | exact Below.refl _ _ | refine Below.drew ?_ | refine Hp.drewN ?_ _ | refine Below.setCell ?_ (by first | (simp; done) | (simp; omega) | omega) _ | refine Below.alloc ?_ (by first | (simp; done) | (simp; omega) | omega) _ | (refine Hp.step ?_ (by assumption)))))
          have BW3 : Hid (Below wa.heap.size wa ((wa.drew.alloc (.cells #[.int .i64 xo, .int .i64 xd, .int .i64 xp, .int .i64 xt] 29)).alloc (.cells #[] 29))) := Lib.hid (by (repeat (first | exact Below.refl _ _ | refine Below.drew ?_ | refine Hp.drewN ?_ _ | refine Below.setCell ?_ (by first | (simp; done) | (simp; omega) | omega) _ | refine Below.alloc ?_ (by first | (simp; done) | (simp; omega) | omega) _ | (refine Hp.step ?_ (by assumption)))))
          have EB1 : Hid (((wa.drew.alloc (.cells #[] 29)).alloc (.cells #[.int .i64 xo, .int .i64 xd, .int .i64 xp, .int .i64 xt] 29)).heap[wa.heap.size]? = some (.cells #[] 29 (0, 0))) := Lib.hid (Hp.blk_old (Hp.blk_new wa.drew _))
          have EB2 : Hid ((wa.drew.alloc (.cells #[] 29)).heap[wa.heap.size]? = some (.cells #[] 29 (0, 0))) := Lib.hid (Hp.blk_new wa.drew _)
          have EB3 : Hid (((wa.drew.alloc (.cells #[.int .i64 xo, .int .i64 xd, .int .i64 xp, .int .i64 xt] 29)).alloc (.cells #[] 29)).heap[wa.heap.size + 1]? = some (.cells #[] 29 (0, 0))) := Lib.hid (by
            have h := Hp.blk_new (wa.drew.alloc (.cells #[.int .i64 xo, .int .i64 xd, .int .i64 xp, .int .i64 xt] 29)) (.cells #[] 29)
            rw [show (wa.drew.alloc (.cells #[.int .i64 xo, .int .i64 xd, .int .i64 xp, .int .i64 xt] 29)).heap.size = wa.heap.size + 1 by simp] at h
            exact h)
          have XB1 : Hid (((wa.drew.alloc (.cells #[] 29)).alloc (.cells #[.int .i64 xo, .int .i64 xd, .int .i64 xp, .int .i64 xt] 29)).heap[wa.heap.size + 1]? = some (.cells #[.int .i64 xo, .int .i64 xd, .int .i64 xp, .int .i64 xt] 29 (0, 0))) := Lib.hid (by
            have h := Hp.blk_new (wa.drew.alloc (.cells #[] 29)) (.cells #[.int .i64 xo, .int .i64 xd, .int .i64 xp, .int .i64 xt] 29)
            rw [show (wa.drew.alloc (.cells #[] 29)).heap.size = wa.heap.size + 1 by simp] at h
            exact h)
          have XB3 : Hid (((wa.drew.alloc (.cells #[.int .i64 xo, .int .i64 xd, .int .i64 xp, .int .i64 xt] 29)).alloc (.cells #[] 29)).heap[wa.heap.size]? = some (.cells #[.int .i64 xo, .int .i64 xd, .int .i64 xp, .int .i64 xt] 29 (0, 0))) := Lib.hid (Hp.blk_old (Hp.blk_new wa.drew _))
          have RA1 : Hid (Rk ((wa.drew.alloc (.cells #[] 29)).alloc (.cells #[.int .i64 xo, .int .i64 xd, .int .i64 xp, .int .i64 xt] 29)) wa.heap.size (.slice (some ⟨wa.heap.size, 0, none⟩) 0 0) []) := Lib.hid (Rk.empty EB1.out (by omega))
          have RA2 : Hid (Rk (wa.drew.alloc (.cells #[] 29)) wa.heap.size (.slice (some ⟨wa.heap.size, 0, none⟩) 0 0) []) := Lib.hid (Rk.empty EB2.out (by omega))
          have RA3 : Hid (Rk ((wa.drew.alloc (.cells #[.int .i64 xo, .int .i64 xd, .int .i64 xp, .int .i64 xt] 29)).alloc (.cells #[] 29)) wa.heap.size (.slice (some ⟨(wa.heap.size + 1), 0, none⟩) 0 0) []) := Lib.hid (Rk.empty EB3.out (by omega))
          have ON : Hid ([(⟨xo, xd, xp, xt⟩ : Sm)].length = 1) := Lib.hid rfl
          have NE1 : Hid (wa.heap.size + 1 ≠ wa.heap.size) := Lib.hid (by omega)
          have NE3 : Hid (wa.heap.size ≠ wa.heap.size + 1) := Lib.hid (by omega)
          have KC := Lib.hid (fun (W' : World) (kb : Below wa.heap.size wa W') => show W'.cell? ⟨g, 1, none⟩ = some (.slice (some ⟨bf, of, none⟩) n cf) ∧ W'.cell? ⟨bf, of, none⟩ = some (.int .i64 xo) ∧ W'.cell? ⟨bf, of + 1, none⟩ = some (.int .i64 xd) ∧ W'.cell? ⟨bf, of + 2, none⟩ = some (.int .i64 xp) ∧ W'.cell? ⟨bf, of + 3, none⟩ = some (.int .i64 xt) from
            ⟨(kb.cell (p := ⟨g, 1, none⟩) lg).trans c1, (kb.cell lb).trans z0, (kb.cell lb).trans z1, (kb.cell lb).trans z2, (kb.cell lb).trans z3⟩)
          have SM2 := Lib.hid (show ([] : List Sm).length + 1 ≤ 1000000 by simp)
          go_region_held_law (fun w' => w'.cell? ⟨g, 1, none⟩ = some (.slice (some ⟨bf, of, none⟩) n cf) ∧ w'.cell? ⟨bf, of, none⟩ = some (.int .i64 xo) ∧ w'.cell? ⟨bf, of + 1, none⟩ = some (.int .i64 xd) ∧ w'.cell? ⟨bf, of + 2, none⟩ = some (.int .i64 xp) ∧ w'.cell? ⟨bf, of + 3, none⟩ = some (.int .i64 xt)) (go_keep)
            (first
              | (refine step_append_none (l := []) (by rfl) (.tmp 37) (.tmp 40) (by rfl) (by simp [Act.eval, Act.put]) RA1.out (by simp [Act.eval, Act.put]) ?_)
              | (refine step_append_none (l := []) (by rfl) (.tmp 37) (.tmp 40) (by rfl) (by simp [Act.eval, Act.put]) RA2.out (by simp [Act.eval, Act.put]) ?_)
              | (refine step_append_none (l := []) (by rfl) (.tmp 37) (.tmp 40) (by rfl) (by simp [Act.eval, Act.put]) RA3.out (by simp [Act.eval, Act.put]) ?_)
              | (refine step_append_smps (l := []) (m := [⟨xo, xd, xp, xt⟩]) (by rfl) (.tmp 41) (.tmp 49) (by rfl) (by simp [Act.eval, Act.put]) RA1.out ⟨wa.heap.size + 1, 0, none⟩ 1 1 (by simp [Act.eval, Act.put]) ON (xsrc XB1.out) SM2.out BW1.out.size ?_; intro v2 w3 R2 G2; have HR3 := Lib.hid R2; have HB3 := Lib.hid (Rk.below RA1.out (Nat.le_refl _) G2 BW1.out BW1.out.size); obtain ⟨k0, k1, k2, k3, k4⟩ := KC.out _ HB3.out; have kL0 := World.new_ne w3 _ k0; have kL4 := World.new_ne w3 _ k1; clear R2 G2)
              | (refine step_append_smps (l := []) (m := [⟨xo, xd, xp, xt⟩]) (by rfl) (.tmp 41) (.tmp 49) (by rfl) (by simp [Act.eval, Act.put]) RA3.out ⟨wa.heap.size, 0, none⟩ 1 1 (by simp [Act.eval, Act.put]) ON (xsrc XB3.out) SM2.out BW3.out.size ?_; intro v2 w3 R2 G2; have HR3 := Lib.hid R2; have HB3 := Lib.hid (Rk.below RA3.out (Nat.le_refl _) G2 BW3.out BW3.out.size); obtain ⟨k0, k1, k2, k3, k4⟩ := KC.out _ HB3.out; have kL0 := World.new_ne w3 _ k0; have kL4 := World.new_ne w3 _ k1; clear R2 G2)
              | (refine step_append_none (l := [] ++ [⟨xo, xd, xp, xt⟩]) (by rfl) (.tmp 50) (.tmp 53) (by rfl) (by simp [Act.eval, Act.put]) HR3.out (by simp [Act.eval, Act.put]) ?_)
              | (fail))
          all_goals
            go_wp2_with (fail)
            go_roundw
            case rel => exact ⟨0 + 1, by omega, by go_num, .inr ⟨by omega, by rw [ER.out]; exact HR3.out.re rfl (Nat.le_trans szr BA.out.size)⟩, (HBr.out.trans (BA.out.mono szr)).trans (HB3.out.mono (Nat.le_trans szr BA.out.size))⟩
            case measure => (simp [intOf] <;> omega)
          --F1
      · have QL := Lib.hid (RL.out i (by omega))
        have ER := Lib.hid (show rord l (i + 1) = (rord l i).take (pos (nth l i) (rord l i)) ++ nth l i :: (rord l i).drop (pos (nth l i) (rord l i)) from rfl)
        obtain ⟨q, hq⟩ : ∃ q, rord l i = q := ⟨_, rfl⟩
        rw [hq] at QL R ER
        have PL := Lib.hid (pos_lt (nth l i) q); have PG := Lib.hid (pos_ge (nth l i) q)
        have PE := pos_le (nth l i) q
        rw [QL.out] at PG PE
        obtain ⟨P, hP⟩ : ∃ P, pos (nth l i) q = P := ⟨_, rfl⟩
        rw [hP] at PL PG PE ER
        have ZX := Lib.hid (fun W (k : Below wr.heap.size wr W) => (SFr.out.later k).elem (i := i) hlt)
        obtain ⟨x, ex⟩ : ∃ x, nth l i = x := ⟨_, rfl⟩
        rw [ex] at PL PG ER
        have HX := Lib.hid ex
        obtain ⟨xo, xd, xp, xt⟩ := x
        have ZW := Lib.hid (fun W (k : Below wr.heap.size wr W) => show W.cell? ⟨bf, of + i * 4, none⟩ = some (.int .i64 xo) ∧ W.cell? ⟨bf, of + i * 4 + 1, none⟩ = some (.int .i64 xd) ∧ W.cell? ⟨bf, of + i * 4 + 2, none⟩ = some (.int .i64 xp) ∧ W.cell? ⟨bf, of + i * 4 + 3, none⟩ = some (.int .i64 xt) from by
          obtain ⟨b', o', e', _, x0, x1, x2, x3⟩ := ZX.out W k
          obtain ⟨rfl, rfl⟩ : bf = b' ∧ of = o' := by injection e' with e'; injection e' with e1 e2; exact ⟨e1, e2⟩
          change W.cell? _ = some (.int .i64 (nth l i).o) at x0
          change W.cell? _ = some (.int .i64 (nth l i).d) at x1
          change W.cell? _ = some (.int .i64 (nth l i).p) at x2
          change W.cell? _ = some (.int .i64 (nth l i).t) at x3
          rw [HX.out] at x0 x1 x2 x3
          exact ⟨x0, x1, x2, x3⟩)
        simp only at PL PG
        rcases Sl.of_rk R (Nat.le_refl _) (by rw [QL.out]; exact hi0) with ⟨e, _⟩ | ⟨_, b, o, c, hbb, rfl, hc, so⟩
        · have := QL.out; rw [e] at this; simp at this; omega
        rw [QL.out] at hc so ⊢
        have SO := Lib.hid so; have HC := Lib.hid hc; have HBB := Lib.hid hbb
        have lo : b < wr.heap.size := cs_lt so hi0
        clear R so hc hbb hq hP ex
        go_wp2_with (fail)
        go_loopw [5] (fun c wi => ∃ k : Nat, k ≤ P ∧ c = .int .i64 k ∧ Below wr.heap.size wr wi) (fun c _ => P - (intOf c).toNat)
        case atStart => exact ⟨0, by omega, rfl, Below.refl _ _⟩
        case round =>
          rename World => wi
          obtain ⟨k, hk, rfl, hb⟩ := hrel
          have HBi := Lib.hid hb
          clear c1
          have c1 := (hb.cell (p := ⟨g, 1, none⟩) LG1.out).trans C1r.out
          obtain ⟨x0, x1, x2, x3⟩ := ZW.out wi hb
          have SI := Lib.hid (SO.out.later hb)
          clear hb
          by_cases hkp : k < P
          · have kn : k < i := by omega
            have kn2 : (k : Int) < (i : Int) := by omega
            have dl := PL.out k hkp
            obtain ⟨b', o', e', _, y0, y1, y2, y3⟩ := SI.out.elem (i := k) kn
            obtain ⟨rfl, rfl⟩ : b = b' ∧ o = o' := by injection e' with e'; injection e' with e1 e2; exact ⟨e1, e2⟩
            change wi.cell? _ = some (.int .i64 (nth q k).d) at y1
            obtain ⟨D, eD⟩ : ∃ D, (nth q k).d = D := ⟨_, rfl⟩
            rw [eD] at y1 dl
            have d2 : decide (D < xd) = true := decide_eq_true dl
            clear e' eD y0 y2 y3 x0 x2 x3
            go_wp2_with (fail)
            go_quiet (fail)
            go_wp2_with (fail)
            go_roundw
            case rel => exact ⟨k + 1, by omega, by go_num, Hp.drewN HBi.out _⟩
            case measure => (simp [intOf] <;> omega)
          · obtain rfl : P = k := by omega
            have BAq := Lib.hid (fun m => Hp.drewN HBi.out m)
            have cs : ¬ P < i ∨ (P < i ∧ ¬ (nth q P).d < xd) := by
              by_cases h : P < i
              · exact .inr ⟨h, by have := PG.out h; omega⟩
              · exact .inl h
            clear x0 x2 x3
            rcases cs with kn | ⟨kn, dl⟩
            case' inl =>
              have kn2 : ¬ (P : Int) < (i : Int) := by omega
              have kn3 : decide ((P : Int) < (i : Int)) = false := decide_eq_false kn2
              go_wp2_with (fail)
              go_quiet (fail)
              go_wp2_with (fail)
              clear kn2 kn3
            case' inr =>
              have kn2 : (P : Int) < (i : Int) := by omega
              obtain ⟨b', o', e', _, y0, y1, y2, y3⟩ := SI.out.elem (i := P) kn
              obtain ⟨rfl, rfl⟩ : b = b' ∧ o = o' := by injection e' with e'; injection e' with e1 e2; exact ⟨e1, e2⟩
              change wi.cell? _ = some (.int .i64 (nth q P).d) at y1
              obtain ⟨D, eD⟩ : ∃ D, (nth q P).d = D := ⟨_, rfl⟩
              rw [eD] at y1 dl
              have d2 : decide (D < xd) = false := decide_eq_false dl
              clear e' eD y0 y2 y3
              go_wp2_with (fail)
              go_quiet (fail)
              go_wp2_with (fail)
              clear y1 dl d2 kn2
            all_goals
              clear kn x1 c1
              obtain ⟨wa, hwa⟩ : ∃ wa, wi.drewN nq = wa := ⟨_, rfl⟩
              have BA : Hid (Below wr.heap.size wr wa) := Lib.hid (by rw [← hwa]; exact BAq.out _)
              rw [hwa]
              clear hwa
              --R0
              have lg := Nat.lt_of_lt_of_le LG1.out BA.out.size; have lb := Nat.lt_of_lt_of_le LB1.out BA.out.size
              have c1 : wa.cell? ⟨g, 1, none⟩ = some (.slice (some ⟨bf, of, none⟩) n cf) := (BA.out.cell (p := ⟨g, 1, none⟩) LG1.out).trans C1r.out
              obtain ⟨z0, z1, z2, z3⟩ := ZW.out wa BA.out
              have zL := World.new_ne wa _ z0; have cL := World.new_ne wa _ c1
              have l1 : bf < wa.heap.size + 1 := by omega
              have l2 : g < wa.heap.size + 1 := by omega
              have BW1 : Hid (Below wa.heap.size wa ((wa.drew.alloc (.cells #[] 29)).alloc (.cells #[.int .i64 xo, .int .i64 xd, .int .i64 xp, .int .i64 xt] 29))) := Lib.hid (by (repeat (first | exact Below.refl _ _ | refine Below.drew ?_ | refine Hp.drewN ?_ _ | refine Below.setCell ?_ (by first | (simp; done) | (simp; omega) | omega) _ | refine Below.alloc ?_ (by first | (simp; done) | (simp; omega) | omega) _ | (refine Hp.step ?_ (by assumption)))))
              have BW2 : Hid (Below wa.heap.size wa (wa.drew.alloc (.cells #[] 29))) := Lib.hid (by (repeat (first | exact Below.refl _ _ | refine Below.drew ?_ | refine Hp.drewN ?_ _ | refine Below.setCell ?_ (by first | (simp; done) | (simp; omega) | omega) _ | refine Below.alloc ?_ (by first | (simp; done) | (simp; omega) | omega) _ | (refine Hp.step ?_ (by assumption)))))
              have BW3 : Hid (Below wa.heap.size wa ((wa.drew.alloc (.cells #[.int .i64 xo, .int .i64 xd, .int .i64 xp, .int .i64 xt] 29)).alloc (.cells #[] 29))) := Lib.hid (by (repeat (first | exact Below.refl _ _ | refine Below.drew ?_ | refine Hp.drewN ?_ _ | refine Below.setCell ?_ (by first | (simp; done) | (simp; omega) | omega) _ | refine Below.alloc ?_ (by first | (simp; done) | (simp; omega) | omega) _ | (refine Hp.step ?_ (by assumption)))))
              have EB1 : Hid (((wa.drew.alloc (.cells #[] 29)).alloc (.cells #[.int .i64 xo, .int .i64 xd, .int .i64 xp, .int .i64 xt] 29)).heap[wa.heap.size]? = some (.cells #[] 29 (0, 0))) := Lib.hid (Hp.blk_old (Hp.blk_new wa.drew _))
              have EB2 : Hid ((wa.drew.alloc (.cells #[] 29)).heap[wa.heap.size]? = some (.cells #[] 29 (0, 0))) := Lib.hid (Hp.blk_new wa.drew _)
              have EB3 : Hid (((wa.drew.alloc (.cells #[.int .i64 xo, .int .i64 xd, .int .i64 xp, .int .i64 xt] 29)).alloc (.cells #[] 29)).heap[wa.heap.size + 1]? = some (.cells #[] 29 (0, 0))) := Lib.hid (by
                have h := Hp.blk_new (wa.drew.alloc (.cells #[.int .i64 xo, .int .i64 xd, .int .i64 xp, .int .i64 xt] 29)) (.cells #[] 29)
                rw [show (wa.drew.alloc (.cells #[.int .i64 xo, .int .i64 xd, .int .i64 xp, .int .i64 xt] 29)).heap.size = wa.heap.size + 1 by simp] at h
                exact h)
              have XB1 : Hid (((wa.drew.alloc (.cells #[] 29)).alloc (.cells #[.int .i64 xo, .int .i64 xd, .int .i64 xp, .int .i64 xt] 29)).heap[wa.heap.size + 1]? = some (.cells #[.int .i64 xo, .int .i64 xd, .int .i64 xp, .int .i64 xt] 29 (0, 0))) := Lib.hid (by
                have h := Hp.blk_new (wa.drew.alloc (.cells #[] 29)) (.cells #[.int .i64 xo, .int .i64 xd, .int .i64 xp, .int .i64 xt] 29)
                rw [show (wa.drew.alloc (.cells #[] 29)).heap.size = wa.heap.size + 1 by simp] at h
                exact h)
              have XB3 : Hid (((wa.drew.alloc (.cells #[.int .i64 xo, .int .i64 xd, .int .i64 xp, .int .i64 xt] 29)).alloc (.cells #[] 29)).heap[wa.heap.size]? = some (.cells #[.int .i64 xo, .int .i64 xd, .int .i64 xp, .int .i64 xt] 29 (0, 0))) := Lib.hid (Hp.blk_old (Hp.blk_new wa.drew _))
              have RA1 : Hid (Rk ((wa.drew.alloc (.cells #[] 29)).alloc (.cells #[.int .i64 xo, .int .i64 xd, .int .i64 xp, .int .i64 xt] 29)) wa.heap.size (.slice (some ⟨wa.heap.size, 0, none⟩) 0 0) []) := Lib.hid (Rk.empty EB1.out (by omega))
              have RA2 : Hid (Rk (wa.drew.alloc (.cells #[] 29)) wa.heap.size (.slice (some ⟨wa.heap.size, 0, none⟩) 0 0) []) := Lib.hid (Rk.empty EB2.out (by omega))
              have RA3 : Hid (Rk ((wa.drew.alloc (.cells #[.int .i64 xo, .int .i64 xd, .int .i64 xp, .int .i64 xt] 29)).alloc (.cells #[] 29)) wa.heap.size (.slice (some ⟨(wa.heap.size + 1), 0, none⟩) 0 0) []) := Lib.hid (Rk.empty EB3.out (by omega))
              have ON : Hid ([(⟨xo, xd, xp, xt⟩ : Sm)].length = 1) := Lib.hid rfl
              have NE1 : Hid (wa.heap.size + 1 ≠ wa.heap.size) := Lib.hid (by omega)
              have NE3 : Hid (wa.heap.size ≠ wa.heap.size + 1) := Lib.hid (by omega)
              have KC := Lib.hid (fun (W' : World) (kb : Below wa.heap.size wa W') => show W'.cell? ⟨g, 1, none⟩ = some (.slice (some ⟨bf, of, none⟩) n cf) ∧ W'.cell? ⟨bf, of + i * 4, none⟩ = some (.int .i64 xo) ∧ W'.cell? ⟨bf, of + i * 4 + 1, none⟩ = some (.int .i64 xd) ∧ W'.cell? ⟨bf, of + i * 4 + 2, none⟩ = some (.int .i64 xp) ∧ W'.cell? ⟨bf, of + i * 4 + 3, none⟩ = some (.int .i64 xt) from
                ⟨(kb.cell (p := ⟨g, 1, none⟩) lg).trans c1, (kb.cell lb).trans z0, (kb.cell lb).trans z1, (kb.cell lb).trans z2, (kb.cell lb).trans z3⟩)
              have SM1 := Lib.hid (show ([] : List Sm).length + P ≤ 1000000 by simp; omega)
              have SM2 := Lib.hid (show ([] ++ q.take P : List Sm).length + 1 ≤ 1000000 by simp; omega)
              have SM3 := Lib.hid (show (([] ++ q.take P) ++ [⟨xo, xd, xp, xt⟩] : List Sm).length + (i - P) ≤ 1000000 by simp; omega)
              have SC := Lib.hid (fun W (k : Below wa.heap.size wa W) => rl_src (k := P) ((SO.out.later BA.out).later k) PE)
              obtain ⟨AD, hAD, CD⟩ : ∃ AD : Addr, (if c = P then some (⟨b, o, none⟩ : Addr) else some ⟨b, o + P * 4, none⟩) = some AD ∧ Hid (∀ W, Below wa.heap.size wa W → ∀ j u, (flat (zof (q.drop P)) (i - P))[j]? = some u → W.cell? (AD.add j) = some u) := by
                by_cases h : c = P
                · refine ⟨⟨b, o, none⟩, by simp [h], Lib.hid fun W k j u hj => ?_⟩
                  obtain ⟨lt, _⟩ := flat_get hj
                  have := HC.out; omega
                · exact ⟨⟨b, o + P * 4, none⟩, by simp [h], Lib.hid fun W k => rl_src2 ((SO.out.later BA.out).later k)⟩
              have HL1 : Hid ((q.take P).length = P) := Lib.hid (by rw [List.length_take, QL.out]; omega)
              have HL2 : Hid ((q.drop P).length = i - P) := Lib.hid (by rw [List.length_drop, QL.out])
              have hc := HC.out
              have pc : P ≤ c := by omega
              have pi2 : (P : Int) ≤ (i : Int) := by omega
              have p8 : (P : Int) ≤ 8 := by omega
              go_region_held_law (fun w' => w'.cell? ⟨g, 1, none⟩ = some (.slice (some ⟨bf, of, none⟩) n cf) ∧ w'.cell? ⟨bf, of + i * 4, none⟩ = some (.int .i64 xo) ∧ w'.cell? ⟨bf, of + i * 4 + 1, none⟩ = some (.int .i64 xd) ∧ w'.cell? ⟨bf, of + i * 4 + 2, none⟩ = some (.int .i64 xp) ∧ w'.cell? ⟨bf, of + i * 4 + 3, none⟩ = some (.int .i64 xt)) (go_keep)
                (first
                  | (refine step_append_smps (l := []) (m := q.take P) (by rfl) (.tmp 37) (.tmp 40) (by rfl) (by simp [Act.eval, Act.put]) RA1.out ⟨b, o, none⟩ P c (by simp [Act.eval, Act.put]) HL1 (SC.out _ BW1.out) SM1.out BW1.out.size ?_; intro v1 w1 R1 G1; have HR1 := Lib.hid R1; have HB1 := Lib.hid (Rk.below RA1.out (Nat.le_refl _) G1 BW1.out BW1.out.size); have X1 := Lib.hid (blk_far XB1.out G1 NE1.out); obtain ⟨k0, k1, k2, k3, k4⟩ := KC.out _ HB1.out; have kL0 := World.new_ne w1 _ k0; have kL4 := World.new_ne w1 _ k1; clear R1 G1)
                  | (refine step_append_smps (l := []) (m := q.take P) (by rfl) (.tmp 37) (.tmp 40) (by rfl) (by simp [Act.eval, Act.put]) RA2.out ⟨b, o, none⟩ P c (by simp [Act.eval, Act.put]) HL1 (SC.out _ BW2.out) SM1.out BW2.out.size ?_; intro v1 w1 R1 G1; have HR1 := Lib.hid R1; have HB1 := Lib.hid (Rk.below RA2.out (Nat.le_refl _) G1 BW2.out BW2.out.size); have HR1b := Lib.hid (R1.later (Below.alloc (Below.refl _ _) (Nat.le_refl _) (.cells #[.int .i64 xo, .int .i64 xd, .int .i64 xp, .int .i64 xt] 29))); have X1b := Lib.hid (Hp.blk_new w1 (.cells #[.int .i64 xo, .int .i64 xd, .int .i64 xp, .int .i64 xt] 29)); have HB1b := Lib.hid (HB1.out.alloc HB1.out.size (.cells #[.int .i64 xo, .int .i64 xd, .int .i64 xp, .int .i64 xt] 29)); obtain ⟨k0, k1, k2, k3, k4⟩ := KC.out _ HB1.out; have kL0 := World.new_ne w1 _ k0; have kL4 := World.new_ne w1 _ k1; clear R1 G1)
                  | (refine step_append_smps (l := []) (m := q.take P) (by rfl) (.tmp 37) (.tmp 40) (by rfl) (by simp [Act.eval, Act.put]) RA3.out ⟨b, o, none⟩ P c (by simp [Act.eval, Act.put]) HL1 (SC.out _ BW3.out) SM1.out BW3.out.size ?_; intro v1 w1 R1 G1; have HR1 := Lib.hid R1; have HB1 := Lib.hid (Rk.below RA3.out (Nat.le_refl _) G1 BW3.out BW3.out.size); have X1 := Lib.hid (blk_far XB3.out G1 NE3.out); obtain ⟨k0, k1, k2, k3, k4⟩ := KC.out _ HB1.out; have kL0 := World.new_ne w1 _ k0; have kL4 := World.new_ne w1 _ k1; clear R1 G1)
                  | (refine step_append_smps (l := [] ++ q.take P) (m := [⟨xo, xd, xp, xt⟩]) (by rfl) (.tmp 41) (.tmp 49) (by rfl) (by simp [Act.eval, Act.put]) HR1.out ⟨wa.heap.size + 1, 0, none⟩ 1 1 (by simp [Act.eval, Act.put]) ON (xsrc X1.out) SM2.out HB1.out.size ?_; intro v2 w3 R2 G2; have HR3 := Lib.hid R2; have HB3 := Lib.hid (Rk.below HR1.out (Nat.le_refl _) G2 HB1.out HB1.out.size); obtain ⟨k0, k1, k2, k3, k4⟩ := KC.out _ HB3.out; have kL0 := World.new_ne w3 _ k0; have kL4 := World.new_ne w3 _ k1; clear R2 G2)
                  | (refine step_append_smps (l := [] ++ q.take P) (m := [⟨xo, xd, xp, xt⟩]) (by rfl) (.tmp 41) (.tmp 49) (by rfl) (by simp [Act.eval, Act.put]) HR1b.out ⟨w1.heap.size, 0, none⟩ 1 1 (by simp [Act.eval, Act.put]) ON (xsrc X1b.out) SM2.out HB1b.out.size ?_; intro v2 w3 R2 G2; have HR3 := Lib.hid R2; have HB3 := Lib.hid (Rk.below HR1b.out (Nat.le_refl _) G2 HB1b.out HB1b.out.size); obtain ⟨k0, k1, k2, k3, k4⟩ := KC.out _ HB3.out; have kL0 := World.new_ne w3 _ k0; have kL4 := World.new_ne w3 _ k1; clear R2 G2)
                  | (refine step_append_smps (l := [] ++ q.take P) (m := [⟨xo, xd, xp, xt⟩]) (by rfl) (.tmp 41) (.tmp 49) (by rfl) (by simp [Act.eval, Act.put]) HR1.out ⟨wa.heap.size, 0, none⟩ 1 1 (by simp [Act.eval, Act.put]) ON (xsrc X1.out) SM2.out HB1.out.size ?_; intro v2 w3 R2 G2; have HR3 := Lib.hid R2; have HB3 := Lib.hid (Rk.below HR1.out (Nat.le_refl _) G2 HB1.out HB1.out.size); obtain ⟨k0, k1, k2, k3, k4⟩ := KC.out _ HB3.out; have kL0 := World.new_ne w3 _ k0; have kL4 := World.new_ne w3 _ k1; clear R2 G2)
                  | (refine step_append_smps (l := ([] ++ q.take P) ++ [⟨xo, xd, xp, xt⟩]) (m := q.drop P) (by rfl) (.tmp 50) (.tmp 53) (by rfl) (by simp [Act.eval, Act.put]) HR3.out AD (i - P) (c - P) (by simp [Act.eval, Act.put]) HL2 (CD.out _ HB3.out) SM3.out HB3.out.size ?_; intro v4 w5 R4 G4; have HR5 := Lib.hid R4; have HB5 := Lib.hid (Rk.below HR3.out (Nat.le_refl _) G4 HB3.out HB3.out.size); obtain ⟨k0, k1, k2, k3, k4⟩ := KC.out _ HB5.out; clear R4 G4)
                  | (fail))
              all_goals
                go_wp2_with (fail)
                go_roundw
                case rel => exact ⟨i + 1, by omega, by go_num, .inr ⟨by omega, by rw [ER.out]; exact HR5.out.re (by simp) (Nat.le_trans szr BA.out.size)⟩, (HBr.out.trans (BA.out.mono szr)).trans (HB5.out.mono (Nat.le_trans szr BA.out.size))⟩
                case measure => (simp [intOf] <;> omega)
              --R1
              done
    · obtain rfl : n = i := by omega
      rcases ho with ⟨e, _⟩ | ⟨_, R⟩
      · omega
      · rw [RO.out] at R
        have HR := Lib.hid R
        obtain ⟨a, c, rfl, _⟩ := R.rd
        clear R
        go_wp2_with (fail)
        go_ret
        exact ⟨_, rfl, HR.out, HBr.out⟩
end Go.Proofs.Ytdaedhgbkamjpaa.JxW
