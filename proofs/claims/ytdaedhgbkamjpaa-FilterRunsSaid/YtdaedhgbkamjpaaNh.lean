/- The reference's Disp. -/
import Derived.Test.YtdaedhgbkamjpaaNg
set_option linter.unusedVariables false
set_option linter.unusedSimpArgs false
namespace Go.Proofs.Ytdaedhgbkamjpaa.JxW
open Go.RowKit FxW
open Go.Proofs.Ytdaedhgbkamjpaa.Jx
set_option maxHeartbeats 2000000 in
theorem rdisp_no {base g : Nat} {tol : Int} {l : List Sm} {any : Bool} {fr : Int} (V : Val l) (now : Int) (h : l = [] ∨ now < lastT l) (w : World) (F : Ri w base g tol l any fr) :
    Calls Try.prog 18 #[.pointer (some ⟨g, 0, none⟩), .int .i64 now] w fun e w' => e = .returned (.int .i64 (dispV l now tol)) ∧ Below w.heap.size w w' := by
  have E : Hid (dispV l now tol = 16000000000) := Lib.hid (by unfold dispV; rw [if_pos h])
  rw [E.out]
  by_cases h0 : l = []
  · have c1 : w.cell? ⟨g, 1, none⟩ = some (.slice none 0 0) := by
      obtain ⟨v, c1, s⟩ := F.c1
      rcases s with ⟨_, rfl⟩ | ⟨h2, _⟩
      · exact c1
      · rw [h0] at h2; simp at h2
    clear F V h h0
    go_enter Try.func18, Try.ntmps18
    go_wp2_with (fail)
    go_quiet (fail)
    go_wp2_with (fail)
    go_ret
    exact ⟨rfl, by (repeat (first | exact Below.refl _ _ | refine Below.drew ?_ | refine Hp.drewN ?_ _ | refine Below.setCell ?_ (by first | (simp; done) | (simp; omega) | omega) _ | refine Below.alloc ?_ (by first | (simp; done) | (simp; omega) | omega) _ | (refine Hp.step ?_ (by assumption))))⟩
  · have h1 : now < lastT l := by rcases h with h | h; exact absurd h h0; exact h
    have hl : 0 < l.length := List.length_pos_iff.2 h0
    have n8 := V.len
    obtain ⟨k, hk⟩ : ∃ k, l.length = k + 1 := ⟨l.length - 1, by omega⟩
    obtain ⟨b, o, c, c1, ct⟩ := F.last hk
    obtain ⟨T, eT⟩ : ∃ T, lastT l = T := ⟨_, rfl⟩
    rw [eT] at ct h1
    have j0 : 0 < k + 1 := by omega
    have j1 : (0 : Int) < (k : Int) + 1 := by omega
    have j2 : (k : Int) + 1 - 1 = k := by omega
    have j3 : k < k + 1 := by omega
    have j4 : IntKind.i64.wrap ((k : Int) + 1 - 1) = (k : Int) := by rw [j2]; exact IntWalk.i64_in _ (by omega)
    have j5 : (((k : Int) + 1) == 0) = false := by simp; omega
    have k8 : (k : Int) ≤ 8 := by omega
    have d2 : decide (now < T) = true := decide_eq_true h1
    clear F V h h0 hl hk eT n8
    go_enter Try.func18, Try.ntmps18
    go_wp2_with (fail)
    go_quiet (fail)
    go_wp2_with (fail)
    go_ret
    exact ⟨rfl, by (repeat (first | exact Below.refl _ _ | refine Below.drew ?_ | refine Hp.drewN ?_ _ | refine Below.setCell ?_ (by first | (simp; done) | (simp; omega) | omega) _ | refine Below.alloc ?_ (by first | (simp; done) | (simp; omega) | omega) _ | (refine Hp.step ?_ (by assumption))))⟩
set_option maxHeartbeats 16000000 in
set_option maxRecDepth 4000 in
theorem rdisp_ok {base g : Nat} {tol : Int} {l : List Sm} {any : Bool} {fr : Int} (V : Val l) (now : Int) (h0 : 0 < l.length) (h : ¬ now < lastT l) (w : World) (F : Ri w base g tol l any fr) :
    Calls Try.prog 18 #[.pointer (some ⟨g, 0, none⟩), .int .i64 now] w fun e w' => e = .returned (.int .i64 (dispV l now tol)) ∧ Below w.heap.size w w' := by
  have E := Lib.hid (disp_of (tol := tol) h0 h)
  rw [E.out]
  have HF := Lib.hid F
  have OR := Lib.hid (fun W (F : Ri W base g tol l any fr) => rorder_any V W F)
  have n8 := V.len
  have ol := ord_len l
  obtain ⟨m, hm⟩ : ∃ m, ord l = m := ⟨_, rfl⟩
  rw [hm] at OR E ol ⊢
  obtain ⟨n, hn⟩ : ∃ n, l.length = n := ⟨_, rfl⟩
  obtain ⟨k, hk⟩ : ∃ k, l.length = k + 1 := ⟨l.length - 1, by omega⟩
  obtain ⟨b, o, c, c1, ct⟩ := F.last hk
  obtain ⟨T, eT⟩ : ∃ T, lastT l = T := ⟨_, rfl⟩
  rw [eT] at ct h
  have j0 : 0 < k + 1 := by omega
  have j1 : (0 : Int) < (k : Int) + 1 := by omega
  have j2 : (k : Int) + 1 - 1 = k := by omega
  have j3 : k < k + 1 := by omega
  have j4 : IntKind.i64.wrap ((k : Int) + 1 - 1) = (k : Int) := by rw [j2]; exact IntWalk.i64_in _ (by omega)
  have j5 : (((k : Int) + 1) == 0) = false := by simp; omega
  have k8 : (k : Int) ≤ 8 := by omega
  have d2 : decide (now < T) = false := decide_eq_false h
  rw [hn] at h0 n8 ol
  have HN := Lib.hid ol
  have n8' : (n : Int) ≤ 8 := by omega
  clear hm F V ol h eT
  go_enter Try.func18, Try.ntmps18
  go_wp2_with (fail)
  go_quiet (fail)
  go_wp2_with (fail)
  clear c1 ct d2 j0 j1 j2 j3 j4 j5 k8 hk hn
  refine (OR.out _ (HF.out.drewN)).mono ?_
  rintro en w1 ⟨v, rfl, o1, B1⟩
  obtain ⟨a, cp, rfl, s1, _⟩ := o1.rd
  have B1' : Below w.heap.size w w1 := Below.trans (by (repeat (first | exact Below.refl _ _ | refine Below.drew ?_ | refine Hp.drewN ?_ _ | refine Below.setCell ?_ (by first | (simp; done) | (simp; omega) | omega) _ | refine Below.alloc ?_ (by first | (simp; done) | (simp; omega) | omega) _ | (refine Hp.step ?_ (by assumption))))) B1
  have HB := Lib.hid B1'
  have F1 := Lib.hid (HF.out.later B1')
  rw [HN.out] at s1 ⊢
  have S1 := Lib.hid s1
  clear o1 B1 B1' s1
  go_wp2_with (fail)
  go_loopw [7, 6] (fun vi vs wr => ∃ k : Nat, k ≤ 8 ∧ vi = .int .i64 k ∧ vs = .int .i64 (dsp m now tol k) ∧ Below w1.heap.size w1 wr) (fun vi _ _ => 8 - (intOf vi).toNat)
  case atStart => exact ⟨0, by omega, rfl, rfl, Below.refl _ _⟩
  case round =>
    rename World => wr
    obtain ⟨k, hk, rfl, rfl, hB⟩ := hrel
    have HBr := Lib.hid hB
    have S2 := Lib.hid (S1.out.later hB)
    have F2 := F1.out.later hB
    have ct := F2.c0
    have ltg := F2.lt
    clear hB F2
    have e1 : IntKind.i64.wrap ((k : Int) + 1) = (k : Int) + 1 := IntWalk.i64_in _ (by omega)
    have e2 : 0 ≤ (k : Int) + 1 := by omega
    have e3 : ((k : Int) + 1).toNat = k + 1 := by omega
    by_cases hlt : k < 8
    · have NS := Lib.hid (show dsp m now tol (k + 1) = dsp m now tol k + dv m now tol k / 2 ^ (k + 1) from rfl)
      have qb := dsp_bd m now tol k
      have db := dv_bd m now tol k
      have hb := half_bd db.1 db.2 (k + 1)
      have DV := Lib.hid (show dv m now tol k = if k < m.length then (if (grow (nth m k) now tol).e = 0 then (grow (nth m k) now tol).p else 16000000000) else 16000000000 from rfl)
      rw [HN.out] at DV
      obtain ⟨Q, eQ⟩ : ∃ Q, dsp m now tol k = Q := ⟨_, rfl⟩
      rw [eQ] at NS qb
      rw [eQ]
      have q0 := qb.1
      have q1 : Q ≤ 72057594037927936 := by omega
      obtain ⟨D, eD⟩ : ∃ D, dv m now tol k = D := ⟨_, rfl⟩
      rw [eD] at NS hb DV
      obtain ⟨H, eH⟩ : ∃ H, D / 2 ^ (k + 1) = H := ⟨_, rfl⟩
      rw [eH] at NS hb
      have b0 := hb.1; have b1 := hb.2
      clear eQ eD qb db hb
      by_cases hkn : k < n
      · obtain ⟨b, o, rfl, lb, x0, x1, x2, x3⟩ := S2.out.elem (i := k) hkn
        change wr.cell? _ = some (.int .i64 (nth m k).o) at x0
        change wr.cell? _ = some (.int .i64 (nth m k).d) at x1
        change wr.cell? _ = some (.int .i64 (nth m k).p) at x2
        change wr.cell? _ = some (.int .i64 (nth m k).t) at x3
        have GR := Lib.hid (fun W => rgrow_any (nth m k).o (nth m k).d (nth m k).p (nth m k).t now tol W)
        have DV2 := Lib.hid (DV.out.trans (if_pos hkn))
        obtain ⟨G, hG⟩ : ∃ G, grow (nth m k) now tol = G := ⟨_, rfl⟩
        rw [hG] at DV2
        have hG2 : Sx.growR (nth m k).o (nth m k).d (nth m k).p (nth m k).t now tol = G := hG
        rw [hG2] at GR
        obtain ⟨x, ex⟩ : ∃ x, nth m k = x := ⟨_, rfl⟩
        rw [ex] at x0 x1 x2 x3 GR
        obtain ⟨xo, xd, xp, xt⟩ := x
        obtain ⟨go, gd, gp, gt, ge⟩ := G
        simp only at x0 x1 x2 x3 DV2
        clear hG hG2 ex DV
        have x0L := World.new_ne wr _ x0; have ctL := World.new_ne wr _ ct
        have lb1 : b < wr.heap.size + 1 := by omega
        have lg1 : g < wr.heap.size + 1 := by omega
        have szr := HBr.out.size
        have BA : Hid (Below wr.heap.size wr wr.drew) := Lib.hid (by (repeat (first | exact Below.refl _ _ | refine Below.drew ?_ | refine Hp.drewN ?_ _ | refine Below.setCell ?_ (by first | (simp; done) | (simp; omega) | omega) _ | refine Below.alloc ?_ (by first | (simp; done) | (simp; omega) | omega) _ | (refine Hp.step ?_ (by assumption)))))
        have BB : Hid (Below wr.heap.size wr (wr.drew.alloc (.cells #[.int .i64 0, .int .i64 0, .int .i64 0, .int .i64 0] 29))) := Lib.hid (by (repeat (first | exact Below.refl _ _ | refine Below.drew ?_ | refine Hp.drewN ?_ _ | refine Below.setCell ?_ (by first | (simp; done) | (simp; omega) | omega) _ | refine Below.alloc ?_ (by first | (simp; done) | (simp; omega) | omega) _ | (refine Hp.step ?_ (by assumption)))))
        have KC := Lib.hid (fun (W' : World) (kb : Below wr.heap.size wr W') =>
          show W'.cell? ⟨b, o + k * 4, none⟩ = some (.int .i64 xo) ∧ W'.cell? ⟨b, o + k * 4 + 1, none⟩ = some (.int .i64 xd) ∧ W'.cell? ⟨b, o + k * 4 + 2, none⟩ = some (.int .i64 xp) ∧ W'.cell? ⟨b, o + k * 4 + 3, none⟩ = some (.int .i64 xt) ∧ W'.cell? ⟨g, 0, none⟩ = some (.int .i64 tol) from
            ⟨(kb.cell (p := ⟨b, o + k * 4, none⟩) lb).trans x0, (kb.cell (p := ⟨b, o + k * 4 + 1, none⟩) lb).trans x1, (kb.cell (p := ⟨b, o + k * 4 + 2, none⟩) lb).trans x2, (kb.cell (p := ⟨b, o + k * 4 + 3, none⟩) lb).trans x3, (kb.cell (p := ⟨g, 0, none⟩) ltg).trans ct⟩)
        have hge : ge = 0 ∨ ge ≠ 0 := by omega
        rcases hge with hge | hge
        all_goals
          first
            | (subst hge; rw [DV2.out.trans (if_pos rfl)] at eH)
            | (rw [DV2.out.trans (if_neg hge)] at eH; have hgq : (ge == 0) = false := by simpa using hge)
          clear DV2
          go_wp2_with (fail)
          go_region_held3 (fun w' => w'.cell? ⟨b, o + k * 4, none⟩ = some (.int .i64 xo) ∧ w'.cell? ⟨b, o + k * 4 + 1, none⟩ = some (.int .i64 xd) ∧ w'.cell? ⟨b, o + k * 4 + 2, none⟩ = some (.int .i64 xp) ∧ w'.cell? ⟨b, o + k * 4 + 3, none⟩ = some (.int .i64 xt) ∧ w'.cell? ⟨g, 0, none⟩ = some (.int .i64 tol)) (go_keep)
            (first
              | (go_at_call 34; (with_reducible refine (GR.out wr.drew).mono ?_); rintro e w3 ⟨rfl, B3⟩; have HB3 := Lib.hid (BA.out.trans B3); obtain ⟨k0, k1, k2, k3, k4⟩ := KC.out _ HB3.out; have sz3 := HB3.out.size; have kL0 := World.new_ne w3 _ k0; have kL4 := World.new_ne w3 _ k4; clear B3)
              | (go_at_call 34; (with_reducible refine (GR.out _).mono ?_); rintro e w3 ⟨rfl, B3⟩; have HB3 := Lib.hid (BB.out.trans (B3.mono BB.out.size)); obtain ⟨k0, k1, k2, k3, k4⟩ := KC.out _ HB3.out; have sz3 := HB3.out.size; obtain ⟨hc3, hf3⟩ := Hp.bcell B3; clear B3))
          all_goals
            go_wp2_with (fail)
            go_roundw
            case rel =>
              have hh := bl_next HBr.out HB3.out
              refine ⟨k + 1, by omega, by go_num, by rw [NS.out], ?_⟩
              (repeat (first | exact hh | refine Below.setCell ?_ (by first | (simp; done) | (simp; omega) | omega) _ | refine Below.alloc ?_ (by first | (simp; done) | (simp; omega) | omega) _))
            case measure => (simp [intOf] <;> omega)
      · have DV2 := Lib.hid (DV.out.trans (if_neg hkn))
        rw [DV2.out] at eH
        clear DV
        go_wp2_with (fail)
        go_roundw
        case rel => exact ⟨k + 1, by omega, by go_num, by rw [NS.out], HBr.out⟩
        case measure => (simp [intOf] <;> omega)
    · obtain rfl : k = 8 := by omega
      go_wp2_with (fail)
      go_ret
      exact ⟨rfl, bl_next HB.out HBr.out⟩
theorem rdisp_any {base g : Nat} {tol : Int} {l : List Sm} {any : Bool} {fr : Int} (V : Val l) (now : Int) (w : World) (F : Ri w base g tol l any fr) :
    Calls Try.prog 18 #[.pointer (some ⟨g, 0, none⟩), .int .i64 now] w fun e w' => e = .returned (.int .i64 (dispV l now tol)) ∧ Below w.heap.size w w' := by
  by_cases h : l = [] ∨ now < lastT l
  · exact rdisp_no V now h w F
  · by_cases h0 : 0 < l.length
    · exact rdisp_ok V now h0 (fun h1 => h (.inr h1)) w F
    · exact absurd (.inl (List.eq_nil_of_length_eq_zero (by omega))) h
end Go.Proofs.Ytdaedhgbkamjpaa.JxW
