/- The law FilterBest of layer 22. -/
import Derived.Test.YtdaedhgbkamjpaaJy
set_option linter.unusedVariables false
set_option linter.unusedSimpArgs false
namespace Go.Proofs.Ytdaedhgbkamjpaa.JxW
open Go.RowKit FxW
open Go.Proofs.Ytdaedhgbkamjpaa.Jx
set_option maxHeartbeats 4000000 in
theorem lbest_tol (tol now : Int) (l : List Sm) (a : Option Addr) (c : Nat) (h : tol < 0 ∨ (0 ≤ tol ∧ 500000 < tol)) (w : World) :
    Calls Try.prog 6 #[.int .i64 tol, .slice a l.length c, .int .i64 now] w fun e w' => e = .returned (.bool true) ∧ Below w.heap.size w w' := by
  go_enter Try.func6, Try.ntmps6
  go_wp2_with (fail)
  refine (new_no tol h _).mono ?_
  rintro en w1 ⟨rfl, rfl⟩
  have HB1 := Lib.hid (Below.refl w.heap.size w)
  go_wp2_with (fail)
  refine (awake22_any _).mono ?_
  rintro en wz ⟨rfl, Bz⟩
  have HBz := Lib.hid (HB1.out.trans (Bz.mono HB1.out.size))
  clear Bz
  go_wp2_with (fail)
  go_ret
  exact ⟨rfl, HBz.out⟩
set_option maxHeartbeats 4000000 in
theorem lbest_long (tol now : Int) (l : List Sm) (a : Option Addr) (c : Nat) (h0 : 0 ≤ tol) (h1 : tol ≤ 500000) (h : 40 < l.length) (w : World) :
    Calls Try.prog 6 #[.int .i64 tol, .slice a l.length c, .int .i64 now] w fun e w' => e = .returned (.bool true) ∧ Below w.heap.size w w' := by
  obtain ⟨n, hn⟩ : ∃ n, l.length = n := ⟨_, rfl⟩
  rw [hn] at h ⊢
  have h' : (40 : Int) < (n : Int) := by omega
  clear hn h
  go_enter Try.func6, Try.ntmps6
  go_wp2_with (fail)
  refine (new_ok tol h0 h1 _).mono ?_
  rintro en w1 ⟨g, hg, rfl, f1, B1⟩
  have HB1 := Lib.hid B1
  clear hg f1 B1
  go_wp2_with (fail)
  refine (awake22_any _).mono ?_
  rintro en wz ⟨rfl, Bz⟩
  have HBz := Lib.hid (HB1.out.trans (Bz.mono HB1.out.size))
  clear Bz
  go_wp2_with (fail)
  go_ret
  exact ⟨rfl, HBz.out⟩
set_option maxHeartbeats 16000000 in
set_option maxRecDepth 4000 in
theorem lbest_main (tol now : Int) (l : List Sm) (a : Option Addr) (c : Nat) (h0 : 0 ≤ tol) (h1 : tol ≤ 500000) (h : l.length ≤ 40) (w : World) (S : Cs w a l.length (zof l)) :
    Calls Try.prog 6 #[.int .i64 tol, .slice a l.length c, .int .i64 now] w fun e w' => e = .returned (.bool true) ∧ Below w.heap.size w w' := by
  obtain ⟨n, hn⟩ : ∃ n, l.length = n := ⟨_, rfl⟩
  rw [hn] at h S ⊢
  have h' : ¬ (40 : Int) < (n : Int) := by omega
  have hS := Lib.hid S
  clear hn S
  go_enter Try.func6, Try.ntmps6
  go_wp2_with (fail)
  refine (new_ok tol h0 h1 _).mono ?_
  rintro en w1 ⟨g, hg, rfl, f1, B1⟩
  have HG := Lib.hid hg; have F1 := Lib.hid f1; have HB1 := Lib.hid B1
  clear hg f1 B1
  go_wp2_with (fail)
  go_loopw [8] (fun vi wr => ∃ i : Nat, i ≤ n ∧ vi = .int .i64 i ∧ Fi wr g tol (run l i) false 0 ∧ Below w.heap.size w wr) (fun vi _ => n - (intOf vi).toNat)
  case atStart => exact ⟨0, by omega, rfl, F1.out, HB1.out⟩
  case round =>
    rename World => wr
    obtain ⟨i, hi, rfl, f, hb⟩ := hrel
    have FR := Lib.hid f; have HR := Lib.hid hb
    by_cases hlt : i < n
    · have Sr := Lib.hid (hS.out.later hb)
      obtain ⟨b, o, rfl, lb, x0, x1, x2, x3⟩ := Sr.out.elem (i := i) hlt
      change wr.cell? _ = some (.int .i64 (nth l i).o) at x0
      change wr.cell? _ = some (.int .i64 (nth l i).d) at x1
      change wr.cell? _ = some (.int .i64 (nth l i).p) at x2
      change wr.cell? _ = some (.int .i64 (nth l i).t) at x3
      have RN := Lib.hid (show run l (i + 1) = addL (run l i) (nth l i) from rfl)
      obtain ⟨x, ex⟩ : ∃ x, nth l i = x := ⟨_, rfl⟩
      rw [ex] at x0 x1 x2 x3 RN
      obtain ⟨xo, xd, xp, xt⟩ := x
      simp only at x0 x1 x2 x3
      obtain ⟨r, hr⟩ : ∃ r, addE (run l i) ⟨xo, xd, xp, xt⟩ = r := ⟨_, rfl⟩
      have HRr := Lib.hid hr
      clear f hb ex hr
      go_wp2_with (fail)
      refine (addf_at (run_val l i) HRr.out rfl _ FR.out).mono ?_
      rintro en w3 ⟨rfl, ad⟩
      have HB3 := Lib.hid (ad.but.toBelow HG.out HR.out HR.out.size); have F3 := Lib.hid ad.fi
      clear ad x0 x1 x2 x3
      go_wp2_with (fail)
      go_roundw
      case rel => exact ⟨i + 1, by omega, by go_num, by rw [RN.out]; exact F3.out, HB3.out⟩
      case measure => (simp [intOf] <;> omega)
    · obtain rfl : n = i := by omega
      have MV := run_val l n
      obtain ⟨m, hm⟩ : ∃ m, run l n = m := ⟨_, rfl⟩
      rw [hm] at MV FR
      have V := Lib.hid MV
      have m8 := MV.len
      clear hlt f hb hm
      by_cases hz : m.length = 0
      · have me : m = [] := List.eq_nil_of_length_eq_zero hz
        subst me
        have R := Lib.hid (bestR_nil now tol)
        have N := Lib.hid (fresh_no (l := []) (any := false) (fr := 0) (now := now) (tol := tol) (by rw [R.out]; decide))
        have N1 := Lib.hid N.out.1; have N2 := Lib.hid N.out.2.1; have N3 := Lib.hid N.out.2.2
        clear hz m8
        go_wp2_with (fail)
        refine (best_at V.out R.out N1.out N2.out N3.out _ FR.out).mono ?_
        rintro en w3 ⟨rfl, ad⟩
        have HB3 := Lib.hid (ad.but.toBelow HG.out HR.out HR.out.size); have F3 := Lib.hid ad.fi
        clear ad
        go_wp2_with (fail)
        obtain ⟨wa, hwa⟩ : ∃ wa, w3.alloc (.cells #[.int .i64 0, .int .i64 0, .int .i64 0, .int .i64 0] 29) = wa := ⟨_, rfl⟩
        have BA : Hid (Below w3.heap.size w3 wa) := Lib.hid (by rw [← hwa]; exact (Below.refl _ _).alloc (Nat.le_refl _) _)
        have k3 : Hid (wa.heap[w3.heap.size]? = some (.cells #[.int .i64 0, .int .i64 0, .int .i64 0, .int .i64 0] 29 (0, 0))) := Lib.hid (by rw [← hwa]; exact Hp.blk_new w3 _)
        have HBa := Lib.hid (HB3.out.trans (BA.out.mono HB3.out.size)); have Fa := Lib.hid (F3.out.later BA.out)
        obtain ⟨gx, hgx⟩ : ∃ gx, w3.heap.size = gx := ⟨_, rfl⟩
        rw [hgx] at k3
        rw [hwa, hgx]
        clear hwa hgx
        refine (samples_any V.out _ Fa.out).mono ?_
        rintro en w4 ⟨v4, rfl, o4, B4⟩
        obtain ⟨a4, c4, rfl, s4⟩ := o4.rd
        have HB4 := Lib.hid (HBa.out.trans (B4.mono HBa.out.size)); have S4 := Lib.hid s4
        have k4 := Lib.hid ((B4.block gx (Hp.blk_lt k3.out)).trans k3.out)
        clear o4 B4 s4
        rw [show (([] : List Sm).length) = 0 from rfl]
        have z0 : w4.cell? ⟨gx, 0, none⟩ = some (.int .i64 0) := Hp.blk_cell k4.out rfl
        have z1 : w4.cell? ⟨gx, 1, none⟩ = some (.int .i64 0) := Hp.blk_cell k4.out rfl
        have z2 : w4.cell? ⟨gx, 2, none⟩ = some (.int .i64 0) := Hp.blk_cell k4.out rfl
        have z3 : w4.cell? ⟨gx, 3, none⟩ = some (.int .i64 0) := Hp.blk_cell k4.out rfl
        go_wp2_with (fail)
        refine (awake22_any _).mono ?_
        rintro en wz ⟨rfl, Bz⟩
        have HBz := Lib.hid (HB4.out.trans (Bz.mono HB4.out.size))
        clear Bz
        go_wp2_with (fail)
        go_ret
        exact ⟨rfl, HBz.out⟩
      · have MB := Lib.hid (fun k => @bst_yes m k); have MC := Lib.hid (fun k => @bst_no m k); have ML := Lib.hid (bst_lt m); have MF := Lib.hid (bst_first V.out (by omega))
        obtain ⟨k, hk⟩ : ∃ k, m.length = k + 1 := ⟨m.length - 1, by omega⟩
        have HK := Lib.hid hk
        have LT := Lib.hid (show (nth m k).t = lastT m by unfold lastT; rw [hk]; rfl)
        have k7 : k < 8 := by omega
        have e1 : IntKind.i64.wrap ((k : Int) + 1) = (k : Int) + 1 := IntWalk.i64_in _ (by omega)
        have hpos := Lib.hid (show 0 < m.length by omega)
        obtain ⟨T, eT⟩ : ∃ T, lastT m = T := ⟨_, rfl⟩
        rw [eT] at LT
        have HT := Lib.hid eT
        obtain ⟨G, hG⟩ : ∃ G, grow (first m) now tol = G := ⟨_, rfl⟩
        have HGG := Lib.hid hG
        obtain ⟨go, gd, gp, gt, ge⟩ := G
        have cs : now < T ∨ (¬ now < T ∧ ge = 0) ∨ (¬ now < T ∧ ge ≠ 0) := by omega
        clear hz m8 hk eT hG
        rcases cs with hc | ⟨hc, hge⟩ | ⟨hc, hge⟩
        · have R := Lib.hid (bestR_early (l := m) (tol := tol) hpos.out (by rw [HT.out]; exact hc))
          have N := Lib.hid (fresh_no (l := m) (any := false) (fr := 0) (now := now) (tol := tol) (by rw [R.out]; decide))
          have N1 := Lib.hid N.out.1; have N2 := Lib.hid N.out.2.1; have N3 := Lib.hid N.out.2.2
          go_wp2_with (fail)
          refine (best_at V.out R.out N1.out N2.out N3.out _ FR.out).mono ?_
          rintro en w3 ⟨rfl, ad⟩
          have HB3 := Lib.hid (ad.but.toBelow HG.out HR.out HR.out.size); have F3 := Lib.hid ad.fi
          clear ad
          go_wp2_with (fail)
          obtain ⟨wa, hwa⟩ : ∃ wa, w3.alloc (.cells #[.int .i64 0, .int .i64 0, .int .i64 0, .int .i64 0] 29) = wa := ⟨_, rfl⟩
          have BA : Hid (Below w3.heap.size w3 wa) := Lib.hid (by rw [← hwa]; exact (Below.refl _ _).alloc (Nat.le_refl _) _)
          have k3 : Hid (wa.heap[w3.heap.size]? = some (.cells #[.int .i64 0, .int .i64 0, .int .i64 0, .int .i64 0] 29 (0, 0))) := Lib.hid (by rw [← hwa]; exact Hp.blk_new w3 _)
          have HBa := Lib.hid (HB3.out.trans (BA.out.mono HB3.out.size)); have Fa := Lib.hid (F3.out.later BA.out)
          obtain ⟨gx, hgx⟩ : ∃ gx, w3.heap.size = gx := ⟨_, rfl⟩
          rw [hgx] at k3
          rw [hwa, hgx]
          clear hwa hgx
          refine (samples_any V.out _ Fa.out).mono ?_
          rintro en w4 ⟨v4, rfl, o4, B4⟩
          obtain ⟨a4, c4, rfl, s4⟩ := o4.rd
          have HB4 := Lib.hid (HBa.out.trans (B4.mono HBa.out.size)); have S4 := Lib.hid s4
          have k4 := Lib.hid ((B4.block gx (Hp.blk_lt k3.out)).trans k3.out)
          clear o4 B4 s4
          rw [HK.out] at S4 ⊢
          have q0 : (((k + 1 : Nat) : Int) == 0) = false := by simp; omega
          go_wp2_with (fail)
          go_loopw [14, 13] (fun vi vb wr => ∃ i : Nat, 1 ≤ i ∧ i ≤ k + 1 ∧ vi = .int .i64 i ∧ vb = .int .i64 (bst m i : Nat) ∧ ∃ q, wr = w4.drewN q) (fun vi _ _ => k + 1 - (intOf vi).toNat)
          case atStart => exact ⟨1, by omega, by omega, rfl, by rw [bst_one] <;> rfl, 0, rfl⟩
          case round =>
            obtain ⟨i, hi1, hi2, rfl, rfl, q, rfl⟩ := hrel
            by_cases hlt : i < k + 1
            · have kl := ML.out i (by omega)
              have MY := Lib.hid (MB.out i (by omega)); have MO := Lib.hid (MC.out i (by omega))
              obtain ⟨j, hj⟩ : ∃ j, bst m i = j := ⟨_, rfl⟩
              rw [hj] at kl MY MO
              rw [hj]
              obtain ⟨b, o, rfl, lb, _, x1, _, _⟩ := S4.out.elem (i := i) hlt
              obtain ⟨b', o', e', _, _, y1, _, _⟩ := S4.out.elem (i := j) (by omega)
              obtain ⟨rfl, rfl⟩ : b = b' ∧ o = o' := by injection e' with e'; injection e' with e1 e2; exact ⟨e1, e2⟩
              change w4.cell? _ = some (.int .i64 (nth m i).d) at x1
              change w4.cell? _ = some (.int .i64 (nth m j).d) at y1
              obtain ⟨X, eX⟩ : ∃ X, (nth m i).d = X := ⟨_, rfl⟩
              obtain ⟨Y, eY⟩ : ∃ X, (nth m j).d = X := ⟨_, rfl⟩
              rw [eX] at x1 MY MO
              rw [eY] at y1 MY MO
              have jn : j < k + 1 := by omega
              have i1 : (i : Int) < (k : Int) + 1 := by omega
              have HI1 := Lib.hid hi1
              clear e' eX eY hj hi1 kl
              by_cases hxy : X ≤ Y
              · have M2 := Lib.hid (MY.out hxy)
                clear MY MO
                go_wp2_with (fail)
                go_quiet (fail)
                go_wp2_with (fail)
                go_roundw
                case rel => exact ⟨i + 1, by omega, by omega, by go_num, by rw [M2.out], _, by first | rfl | exact World.drewN_drewN _ _ _⟩
                case measure => (simp [intOf] <;> omega)
              · have M2 := Lib.hid (MO.out (by omega))
                have hq : decide (X ≤ Y) = false := decide_eq_false hxy
                clear MY MO
                go_wp2_with (fail)
                go_quiet (fail)
                go_wp2_with (fail)
                go_roundw
                case rel => first | exact ⟨i + 1, by omega, by omega, by go_num, by rw [M2.out], _, by first | rfl | exact World.drewN_drewN _ _ _⟩ | ((repeat apply Exists.intro); exact ⟨⟨i + 1, by omega, by omega, by go_num, by rw [M2.out], _, by first | rfl | exact World.drewN_drewN _ _ _⟩, rfl⟩)
                case measure => (simp [intOf] <;> omega)
            · obtain rfl : k + 1 = i := by omega
              obtain ⟨b, o, rfl, lb, _, _, _, tt⟩ := S4.out.elem (i := k) (by omega)
              change w4.cell? _ = some (.int .i64 (nth m k).t) at tt
              rw [LT.out] at tt
              have j2 : (k : Int) + 1 - 1 = k := by omega
              have kn : k < k + 1 := by omega
              have BL := Lib.hid (ML.out (k + 1) (by omega))
              have MFF := MF.out
              rw [HK.out] at MFF
              obtain ⟨j, hj⟩ : ∃ j, bst m (k + 1) = j := ⟨_, rfl⟩
              rw [hj] at BL MFF
              rw [hj]
              have MF2 := Lib.hid MFF
              have HBq := Lib.hid (Hp.drewN HB4.out q)
              clear hi1 hi2 hlt hj MFF
              have z0 : w4.cell? ⟨gx, 0, none⟩ = some (.int .i64 0) := Hp.blk_cell k4.out rfl
              have z1 : w4.cell? ⟨gx, 1, none⟩ = some (.int .i64 0) := Hp.blk_cell k4.out rfl
              have z2 : w4.cell? ⟨gx, 2, none⟩ = some (.int .i64 0) := Hp.blk_cell k4.out rfl
              have z3 : w4.cell? ⟨gx, 3, none⟩ = some (.int .i64 0) := Hp.blk_cell k4.out rfl
              go_wp2_with (fail)
              refine (awake22_any _).mono ?_
              rintro en wz ⟨rfl, Bz⟩
              have HBz := Lib.hid (HBq.out.trans (Bz.mono HBq.out.size))
              clear Bz
              go_wp2_with (fail)
              go_ret
              exact ⟨rfl, HBz.out⟩
        · subst hge
          have R := Lib.hid ((best_grow_eq (m := m) (tol := tol) (now := now) hpos.out (by rw [HT.out]; exact hc)).trans HGG.out)
          have FO := Lib.hid (fresh_ok (l := m) (any := false) (fr := 0) (now := now) (tol := tol) (by rw [R.out]))
          have N1 : Hid (freshB m false 0 now tol = true) := Lib.hid (by rw [FO.out]; rfl)
          have N2 : Hid (anyN m false 0 now tol = true) := Lib.hid (by unfold anyN; rw [N1.out]; rfl)
          have N3 : Hid (frN m false 0 now tol = (first m).t) := Lib.hid (by unfold frN; rw [N1.out]; rfl)
          go_wp2_with (fail)
          refine (best_at V.out R.out N1.out N2.out N3.out _ FR.out).mono ?_
          rintro en w3 ⟨rfl, ad⟩
          have HB3 := Lib.hid (ad.but.toBelow HG.out HR.out HR.out.size); have F3 := Lib.hid ad.fi
          clear ad
          go_wp2_with (fail)
          obtain ⟨wa, hwa⟩ : ∃ wa, w3.alloc (.cells #[.int .i64 go, .int .i64 gd, .int .i64 gp, .int .i64 gt] 29) = wa := ⟨_, rfl⟩
          have BA : Hid (Below w3.heap.size w3 wa) := Lib.hid (by rw [← hwa]; exact (Below.refl _ _).alloc (Nat.le_refl _) _)
          have k3 : Hid (wa.heap[w3.heap.size]? = some (.cells #[.int .i64 go, .int .i64 gd, .int .i64 gp, .int .i64 gt] 29 (0, 0))) := Lib.hid (by rw [← hwa]; exact Hp.blk_new w3 _)
          have HBa := Lib.hid (HB3.out.trans (BA.out.mono HB3.out.size)); have Fa := Lib.hid (F3.out.later BA.out)
          obtain ⟨gx, hgx⟩ : ∃ gx, w3.heap.size = gx := ⟨_, rfl⟩
          rw [hgx] at k3
          rw [hwa, hgx]
          clear hwa hgx
          refine (samples_any V.out _ Fa.out).mono ?_
          rintro en w4 ⟨v4, rfl, o4, B4⟩
          obtain ⟨a4, c4, rfl, s4⟩ := o4.rd
          have HB4 := Lib.hid (HBa.out.trans (B4.mono HBa.out.size)); have S4 := Lib.hid s4
          have k4 := Lib.hid ((B4.block gx (Hp.blk_lt k3.out)).trans k3.out)
          clear o4 B4 s4
          rw [HK.out] at S4 ⊢
          have q0 : (((k + 1 : Nat) : Int) == 0) = false := by simp; omega
          go_wp2_with (fail)
          go_loopw [14, 13] (fun vi vb wr => ∃ i : Nat, 1 ≤ i ∧ i ≤ k + 1 ∧ vi = .int .i64 i ∧ vb = .int .i64 (bst m i : Nat) ∧ ∃ q, wr = w4.drewN q) (fun vi _ _ => k + 1 - (intOf vi).toNat)
          case atStart => exact ⟨1, by omega, by omega, rfl, by rw [bst_one] <;> rfl, 0, rfl⟩
          case round =>
            obtain ⟨i, hi1, hi2, rfl, rfl, q, rfl⟩ := hrel
            by_cases hlt : i < k + 1
            · have kl := ML.out i (by omega)
              have MY := Lib.hid (MB.out i (by omega)); have MO := Lib.hid (MC.out i (by omega))
              obtain ⟨j, hj⟩ : ∃ j, bst m i = j := ⟨_, rfl⟩
              rw [hj] at kl MY MO
              rw [hj]
              obtain ⟨b, o, rfl, lb, _, x1, _, _⟩ := S4.out.elem (i := i) hlt
              obtain ⟨b', o', e', _, _, y1, _, _⟩ := S4.out.elem (i := j) (by omega)
              obtain ⟨rfl, rfl⟩ : b = b' ∧ o = o' := by injection e' with e'; injection e' with e1 e2; exact ⟨e1, e2⟩
              change w4.cell? _ = some (.int .i64 (nth m i).d) at x1
              change w4.cell? _ = some (.int .i64 (nth m j).d) at y1
              obtain ⟨X, eX⟩ : ∃ X, (nth m i).d = X := ⟨_, rfl⟩
              obtain ⟨Y, eY⟩ : ∃ X, (nth m j).d = X := ⟨_, rfl⟩
              rw [eX] at x1 MY MO
              rw [eY] at y1 MY MO
              have jn : j < k + 1 := by omega
              have i1 : (i : Int) < (k : Int) + 1 := by omega
              have HI1 := Lib.hid hi1
              clear e' eX eY hj hi1 kl
              by_cases hxy : X ≤ Y
              · have M2 := Lib.hid (MY.out hxy)
                clear MY MO
                go_wp2_with (fail)
                go_quiet (fail)
                go_wp2_with (fail)
                go_roundw
                case rel => exact ⟨i + 1, by omega, by omega, by go_num, by rw [M2.out], _, by first | rfl | exact World.drewN_drewN _ _ _⟩
                case measure => (simp [intOf] <;> omega)
              · have M2 := Lib.hid (MO.out (by omega))
                have hq : decide (X ≤ Y) = false := decide_eq_false hxy
                clear MY MO
                go_wp2_with (fail)
                go_quiet (fail)
                go_wp2_with (fail)
                go_roundw
                case rel => first | exact ⟨i + 1, by omega, by omega, by go_num, by rw [M2.out], _, by first | rfl | exact World.drewN_drewN _ _ _⟩ | ((repeat apply Exists.intro); exact ⟨⟨i + 1, by omega, by omega, by go_num, by rw [M2.out], _, by first | rfl | exact World.drewN_drewN _ _ _⟩, rfl⟩)
                case measure => (simp [intOf] <;> omega)
            · obtain rfl : k + 1 = i := by omega
              obtain ⟨b, o, rfl, lb, _, _, _, tt⟩ := S4.out.elem (i := k) (by omega)
              change w4.cell? _ = some (.int .i64 (nth m k).t) at tt
              rw [LT.out] at tt
              have j2 : (k : Int) + 1 - 1 = k := by omega
              have kn : k < k + 1 := by omega
              have BL := Lib.hid (ML.out (k + 1) (by omega))
              have MFF := MF.out
              rw [HK.out] at MFF
              obtain ⟨j, hj⟩ : ∃ j, bst m (k + 1) = j := ⟨_, rfl⟩
              rw [hj] at BL MFF
              rw [hj]
              have MF2 := Lib.hid MFF
              have HBq := Lib.hid (Hp.drewN HB4.out q)
              clear hi1 hi2 hlt hj MFF
              obtain ⟨b', o', e', _, y0, y1, y2, y3⟩ := S4.out.elem (i := j) BL.out
              obtain ⟨rfl, rfl⟩ : b = b' ∧ o = o' := by injection e' with e'; injection e' with e1 e2; exact ⟨e1, e2⟩
              change w4.cell? _ = some (.int .i64 (nth m j).o) at y0
              change w4.cell? _ = some (.int .i64 (nth m j).d) at y1
              change w4.cell? _ = some (.int .i64 (nth m j).p) at y2
              change w4.cell? _ = some (.int .i64 (nth m j).t) at y3
              have GR := Lib.hid (fun W => sgrow_any (nth m j).o (nth m j).d (nth m j).p (nth m j).t now tol W)
              have hG2 : Sx.growR (nth m j).o (nth m j).d (nth m j).p (nth m j).t now tol = ⟨go, gd, gp, gt, 0⟩ := by rw [MF2.out]; exact HGG.out
              rw [hG2] at GR
              obtain ⟨y, ey⟩ : ∃ y, nth m j = y := ⟨_, rfl⟩
              rw [ey] at y0 y1 y2 y3 GR
              obtain ⟨yo, yd, yp, yt⟩ := y
              simp only at y0 y1 y2 y3
              have jl := BL.out
              clear hG2 ey e'
              go_wp2_with (fail)
              refine (GR.out _).mono ?_
              rintro en w5 ⟨rfl, B5⟩
              have HB5 := Lib.hid (HBq.out.trans (B5.mono HBq.out.size))
              have k5 := Lib.hid ((B5.block gx (Hp.blk_lt k4.out)).trans k4.out)
              clear B5 y0 y1 y2 y3 tt
              have z0 : w5.cell? ⟨gx, 0, none⟩ = some (.int .i64 go) := Hp.blk_cell k5.out rfl
              have z1 : w5.cell? ⟨gx, 1, none⟩ = some (.int .i64 gd) := Hp.blk_cell k5.out rfl
              have z2 : w5.cell? ⟨gx, 2, none⟩ = some (.int .i64 gp) := Hp.blk_cell k5.out rfl
              have z3 : w5.cell? ⟨gx, 3, none⟩ = some (.int .i64 gt) := Hp.blk_cell k5.out rfl
              have zL := World.new_ne w5 _ z0
              have lz := Hp.blk_lt k5.out
              go_wp2_with (fail)
              have HB6 : Hid (Below w.heap.size w (w5.alloc (.cells #[.int .i64 go, .int .i64 gd, .int .i64 gp, .int .i64 gt] 29))) := Lib.hid (HB5.out.alloc HB5.out.size _)
              refine (awake22_any _).mono ?_
              rintro en wz ⟨rfl, Bz⟩
              have HBz := Lib.hid (HB6.out.trans (Bz.mono HB6.out.size))
              clear Bz
              go_wp2_with (fail)
              go_ret
              exact ⟨rfl, HBz.out⟩
        · have hgq : (ge == 0) = false := by simpa using hge
          have R := Lib.hid ((best_grow_eq (m := m) (tol := tol) (now := now) hpos.out (by rw [HT.out]; exact hc)).trans HGG.out)
          have N := Lib.hid (fresh_no (l := m) (any := false) (fr := 0) (now := now) (tol := tol) (by rw [R.out]; exact hge))
          have N1 := Lib.hid N.out.1; have N2 := Lib.hid N.out.2.1; have N3 := Lib.hid N.out.2.2
          clear hge
          go_wp2_with (fail)
          refine (best_at V.out R.out N1.out N2.out N3.out _ FR.out).mono ?_
          rintro en w3 ⟨rfl, ad⟩
          have HB3 := Lib.hid (ad.but.toBelow HG.out HR.out HR.out.size); have F3 := Lib.hid ad.fi
          clear ad
          go_wp2_with (fail)
          obtain ⟨wa, hwa⟩ : ∃ wa, w3.alloc (.cells #[.int .i64 go, .int .i64 gd, .int .i64 gp, .int .i64 gt] 29) = wa := ⟨_, rfl⟩
          have BA : Hid (Below w3.heap.size w3 wa) := Lib.hid (by rw [← hwa]; exact (Below.refl _ _).alloc (Nat.le_refl _) _)
          have k3 : Hid (wa.heap[w3.heap.size]? = some (.cells #[.int .i64 go, .int .i64 gd, .int .i64 gp, .int .i64 gt] 29 (0, 0))) := Lib.hid (by rw [← hwa]; exact Hp.blk_new w3 _)
          have HBa := Lib.hid (HB3.out.trans (BA.out.mono HB3.out.size)); have Fa := Lib.hid (F3.out.later BA.out)
          obtain ⟨gx, hgx⟩ : ∃ gx, w3.heap.size = gx := ⟨_, rfl⟩
          rw [hgx] at k3
          rw [hwa, hgx]
          clear hwa hgx
          refine (samples_any V.out _ Fa.out).mono ?_
          rintro en w4 ⟨v4, rfl, o4, B4⟩
          obtain ⟨a4, c4, rfl, s4⟩ := o4.rd
          have HB4 := Lib.hid (HBa.out.trans (B4.mono HBa.out.size)); have S4 := Lib.hid s4
          have k4 := Lib.hid ((B4.block gx (Hp.blk_lt k3.out)).trans k3.out)
          clear o4 B4 s4
          rw [HK.out] at S4 ⊢
          have q0 : (((k + 1 : Nat) : Int) == 0) = false := by simp; omega
          go_wp2_with (fail)
          go_loopw [14, 13] (fun vi vb wr => ∃ i : Nat, 1 ≤ i ∧ i ≤ k + 1 ∧ vi = .int .i64 i ∧ vb = .int .i64 (bst m i : Nat) ∧ ∃ q, wr = w4.drewN q) (fun vi _ _ => k + 1 - (intOf vi).toNat)
          case atStart => exact ⟨1, by omega, by omega, rfl, by rw [bst_one] <;> rfl, 0, rfl⟩
          case round =>
            obtain ⟨i, hi1, hi2, rfl, rfl, q, rfl⟩ := hrel
            by_cases hlt : i < k + 1
            · have kl := ML.out i (by omega)
              have MY := Lib.hid (MB.out i (by omega)); have MO := Lib.hid (MC.out i (by omega))
              obtain ⟨j, hj⟩ : ∃ j, bst m i = j := ⟨_, rfl⟩
              rw [hj] at kl MY MO
              rw [hj]
              obtain ⟨b, o, rfl, lb, _, x1, _, _⟩ := S4.out.elem (i := i) hlt
              obtain ⟨b', o', e', _, _, y1, _, _⟩ := S4.out.elem (i := j) (by omega)
              obtain ⟨rfl, rfl⟩ : b = b' ∧ o = o' := by injection e' with e'; injection e' with e1 e2; exact ⟨e1, e2⟩
              change w4.cell? _ = some (.int .i64 (nth m i).d) at x1
              change w4.cell? _ = some (.int .i64 (nth m j).d) at y1
              obtain ⟨X, eX⟩ : ∃ X, (nth m i).d = X := ⟨_, rfl⟩
              obtain ⟨Y, eY⟩ : ∃ X, (nth m j).d = X := ⟨_, rfl⟩
              rw [eX] at x1 MY MO
              rw [eY] at y1 MY MO
              have jn : j < k + 1 := by omega
              have i1 : (i : Int) < (k : Int) + 1 := by omega
              have HI1 := Lib.hid hi1
              clear e' eX eY hj hi1 kl
              by_cases hxy : X ≤ Y
              · have M2 := Lib.hid (MY.out hxy)
                clear MY MO
                go_wp2_with (fail)
                go_quiet (fail)
                go_wp2_with (fail)
                go_roundw
                case rel => exact ⟨i + 1, by omega, by omega, by go_num, by rw [M2.out], _, by first | rfl | exact World.drewN_drewN _ _ _⟩
                case measure => (simp [intOf] <;> omega)
              · have M2 := Lib.hid (MO.out (by omega))
                have hq : decide (X ≤ Y) = false := decide_eq_false hxy
                clear MY MO
                go_wp2_with (fail)
                go_quiet (fail)
                go_wp2_with (fail)
                go_roundw
                case rel => first | exact ⟨i + 1, by omega, by omega, by go_num, by rw [M2.out], _, by first | rfl | exact World.drewN_drewN _ _ _⟩ | ((repeat apply Exists.intro); exact ⟨⟨i + 1, by omega, by omega, by go_num, by rw [M2.out], _, by first | rfl | exact World.drewN_drewN _ _ _⟩, rfl⟩)
                case measure => (simp [intOf] <;> omega)
            · obtain rfl : k + 1 = i := by omega
              obtain ⟨b, o, rfl, lb, _, _, _, tt⟩ := S4.out.elem (i := k) (by omega)
              change w4.cell? _ = some (.int .i64 (nth m k).t) at tt
              rw [LT.out] at tt
              have j2 : (k : Int) + 1 - 1 = k := by omega
              have kn : k < k + 1 := by omega
              have BL := Lib.hid (ML.out (k + 1) (by omega))
              have MFF := MF.out
              rw [HK.out] at MFF
              obtain ⟨j, hj⟩ : ∃ j, bst m (k + 1) = j := ⟨_, rfl⟩
              rw [hj] at BL MFF
              rw [hj]
              have MF2 := Lib.hid MFF
              have HBq := Lib.hid (Hp.drewN HB4.out q)
              clear hi1 hi2 hlt hj MFF
              obtain ⟨b', o', e', _, y0, y1, y2, y3⟩ := S4.out.elem (i := j) BL.out
              obtain ⟨rfl, rfl⟩ : b = b' ∧ o = o' := by injection e' with e'; injection e' with e1 e2; exact ⟨e1, e2⟩
              change w4.cell? _ = some (.int .i64 (nth m j).o) at y0
              change w4.cell? _ = some (.int .i64 (nth m j).d) at y1
              change w4.cell? _ = some (.int .i64 (nth m j).p) at y2
              change w4.cell? _ = some (.int .i64 (nth m j).t) at y3
              have GR := Lib.hid (fun W => sgrow_any (nth m j).o (nth m j).d (nth m j).p (nth m j).t now tol W)
              have hG2 : Sx.growR (nth m j).o (nth m j).d (nth m j).p (nth m j).t now tol = ⟨go, gd, gp, gt, ge⟩ := by rw [MF2.out]; exact HGG.out
              rw [hG2] at GR
              obtain ⟨y, ey⟩ : ∃ y, nth m j = y := ⟨_, rfl⟩
              rw [ey] at y0 y1 y2 y3 GR
              obtain ⟨yo, yd, yp, yt⟩ := y
              simp only at y0 y1 y2 y3
              have jl := BL.out
              clear hG2 ey e'
              go_wp2_with (fail)
              refine (GR.out _).mono ?_
              rintro en w5 ⟨rfl, B5⟩
              have HB5 := Lib.hid (HBq.out.trans (B5.mono HBq.out.size))
              have k5 := Lib.hid ((B5.block gx (Hp.blk_lt k4.out)).trans k4.out)
              clear B5 y0 y1 y2 y3 tt
              have z0 : w5.cell? ⟨gx, 0, none⟩ = some (.int .i64 go) := Hp.blk_cell k5.out rfl
              have z1 : w5.cell? ⟨gx, 1, none⟩ = some (.int .i64 gd) := Hp.blk_cell k5.out rfl
              have z2 : w5.cell? ⟨gx, 2, none⟩ = some (.int .i64 gp) := Hp.blk_cell k5.out rfl
              have z3 : w5.cell? ⟨gx, 3, none⟩ = some (.int .i64 gt) := Hp.blk_cell k5.out rfl
              have zL := World.new_ne w5 _ z0
              have lz := Hp.blk_lt k5.out
              go_wp2_with (fail)
              have HB6 : Hid (Below w.heap.size w (w5.alloc (.cells #[.int .i64 go, .int .i64 gd, .int .i64 gp, .int .i64 gt] 29))) := Lib.hid (HB5.out.alloc HB5.out.size _)
              refine (awake22_any _).mono ?_
              rintro en wz ⟨rfl, Bz⟩
              have HBz := Lib.hid (HB6.out.trans (Bz.mono HB6.out.size))
              clear Bz
              go_wp2_with (fail)
              go_ret
              exact ⟨rfl, HBz.out⟩
theorem law_FilterBest (tol : Int) (a : Option Addr) (n c : Nat) (z : Nat → Nat → Int) (now : Int) (w : World) (S : In.IsStructs [.i64, .i64, .i64, .i64] w a n c z) :
    Calls Try.prog 6 #[.int .i64 tol, .slice a n c, .int .i64 now] w fun e w' => e = .returned (.bool true) ∧ Below w.heap.size w w' := by
  obtain ⟨l, hl, s⟩ := in_smp S
  subst hl
  by_cases h : 0 ≤ tol ∧ tol ≤ 500000
  · by_cases h2 : 40 < l.length
    · exact lbest_long tol now l a c h.1 h.2 h2 w
    · exact lbest_main tol now l a c h.1 h.2 (by omega) w s
  · exact lbest_tol tol now l a c (by omega) w
end Go.Proofs.Ytdaedhgbkamjpaa.JxW
