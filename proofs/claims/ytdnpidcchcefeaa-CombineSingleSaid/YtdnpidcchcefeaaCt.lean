/- The law CombineSingle of layer 26. -/
import Derived.Test.YtdnpidcchcefeaaCn
import Derived.Test.YtdnpidcchcefeaaCs
import Derived.Deep.RegionWith
import Derived.Deep.RegionHeld3
import Derived.Deep.DeepCutAuto
import Derived.Outline
import Derived.Test.YtdnpidcchcefeaaQb
set_option linter.unusedVariables false
set_option linter.unusedSimpArgs false
namespace Go.Proofs.Ytdnpidcchcefeaa.CxW
open Go.RowKit Rw
def one (a b c d e : Int) (_ j : Nat) : Int := ([a, b, c, d, e] : List Int).getD j 0
theorem one_cs {w : World} {g : Nat} {a b c d e : Int} (h : w.heap[g]? = some (.cells #[.int .i64 a, .int .i64 b, .int .i64 c, .int .i64 d, .int .i64 e] 34 (0, 0))) : Cs w (some ⟨g, 0, none⟩) 1 (one a b c d e) := by
  refine ⟨.inr ⟨g, 0, rfl, Hp.blk_lt h, fun i j hi hj => Hp.blk_cell h ?_⟩⟩
  obtain rfl : i = 0 := by omega
  have hj' : j = 0 ∨ j = 1 ∨ j = 2 ∨ j = 3 ∨ j = 4 := by omega
  rcases hj' with rfl | rfl | rfl | rfl | rfl <;> rfl
/-- two blocks known whole -/
structure Tw (w : World) (A : Nat) (c d : Array Value) : Prop where
  b0 : w.heap[A]? = some (.cells c 34 (0, 0))
  b1 : w.heap[A + 1]? = some (.cells d 34 (0, 0))
theorem Tw.later {w w' : World} {A : Nat} {c d : Array Value} (h : Tw w A c d) (k : Below w.heap.size w w') : Tw w' A c d :=
  ⟨(k.block A (Hp.blk_lt h.b0)).trans h.b0, (k.block (A + 1) (Hp.blk_lt h.b1)).trans h.b1⟩
theorem Tw.size {w : World} {A : Nat} {c d : Array Value} (h : Tw w A c d) : A + 1 < w.heap.size := Hp.blk_lt h.b1
theorem Tw.cells0 {w : World} {A : Nat} {a b c d e : Value} {y : Array Value} (h : Tw w A #[a, b, c, d, e] y) :
    w.cell? ⟨A, 0, none⟩ = some a ∧ w.cell? ⟨A, 1, none⟩ = some b ∧ w.cell? ⟨A, 2, none⟩ = some c ∧ w.cell? ⟨A, 3, none⟩ = some d ∧ w.cell? ⟨A, 4, none⟩ = some e :=
  ⟨Hp.blk_cell h.b0 rfl, Hp.blk_cell h.b0 rfl, Hp.blk_cell h.b0 rfl, Hp.blk_cell h.b0 rfl, Hp.blk_cell h.b0 rfl⟩
theorem Tw.cells1 {w : World} {A : Nat} {a b c d e : Value} {x : Array Value} (h : Tw w A x #[a, b, c, d, e]) :
    w.cell? ⟨A + 1, 0, none⟩ = some a ∧ w.cell? ⟨A + 1, 1, none⟩ = some b ∧ w.cell? ⟨A + 1, 2, none⟩ = some c ∧ w.cell? ⟨A + 1, 3, none⟩ = some d ∧ w.cell? ⟨A + 1, 4, none⟩ = some e :=
  ⟨Hp.blk_cell h.b1 rfl, Hp.blk_cell h.b1 rfl, Hp.blk_cell h.b1 rfl, Hp.blk_cell h.b1 rfl, Hp.blk_cell h.b1 rfl⟩
theorem tw_new (w : World) (c d : Array Value) : Tw ((w.alloc (.cells c 34)).alloc (.cells d 34)) w.heap.size c d :=
  ⟨Hp.blk_old (Hp.blk_new _ _), by have := Hp.blk_new (w.alloc (.cells c 34)) (.cells d 34); simpa using this⟩
abbrev O5 (a b c d e : Int) : Obj := .cells #[.int .i64 a, .int .i64 b, .int .i64 c, .int .i64 d, .int .i64 e] 34
theorem check_new (a b c d e : Int) {k : Int} (h : Hid (Cx.chk 1 (one a b c d e) = k)) (w : World) {g : Nat} (hg : g = w.heap.size) :
    Calls Try.prog 19 #[.slice (some ⟨g, 0, none⟩) 1 1] (w.alloc (O5 a b c d e)) fun e' w' => e' = .returned (.int .i64 k) ∧ Below (w.alloc (O5 a b c d e)).heap.size (w.alloc (O5 a b c d e)) w' := by
  subst hg
  have := check_any (some ⟨w.heap.size, 0, none⟩) 1 1 (one a b c d e) _ (one_cs (Hp.blk_new w (O5 a b c d e)))
  rw [h.out] at this; exact this
theorem call_a (a b c d e : Int) (A G : Nat) (b' c' d' e' : Int) (x : Array Value) (w3 wz : World) (S : Hid (Cs w3 (some ⟨G, 0, none⟩) 1 (one a b c d e))) (T : Hid (Tw w3 A x #[.int .i64 a, .int .i64 b', .int .i64 c', .int .i64 d', .int .i64 e'])) (B : Below w3.heap.size w3 wz) :
    Calls Try.prog 13 #[.slice (some ⟨G, 0, none⟩) 1 1] wz fun en w4 => ∃ v, en = .returned v ∧ Hid (Below wz.heap.size wz w4 ∧ Below w3.heap.size w3 w4 ∧ Rd w4 v (Cx.wts 1 (one a b c d e))) ∧ Hid (w3.heap.size ≤ w4.heap.size) ∧
      (w4.cell? ⟨A + 1, 0, none⟩ = some (.int .i64 a) ∧ w4.cell? ⟨A + 1, 1, none⟩ = some (.int .i64 b') ∧ w4.cell? ⟨A + 1, 2, none⟩ = some (.int .i64 c') ∧ w4.cell? ⟨A + 1, 3, none⟩ = some (.int .i64 d') ∧ w4.cell? ⟨A + 1, 4, none⟩ = some (.int .i64 e')) :=
  (weights_any _ 1 1 _ wz (S.out.later B)).mono fun en w4 ⟨v, he, R, B4⟩ => by
    have B34 := Hp.step B B4
    exact ⟨v, he, Lib.hid ⟨B4, B34, Rd.of_row R⟩, Lib.hid B34.size, (T.out.later B34).cells1⟩
theorem call_b (a b c d e : Int) (A g : Nat) (x : Array Value) (w wz : World) (T : Tw w A x #[.int .i64 a, .int .i64 b, .int .i64 c, .int .i64 d, .int .i64 e]) (h : Below w.heap.size w wz) (hb : wz.heap[g]? = some (O5 a b c d e)) :
    Calls Try.prog 13 #[.slice (some ⟨g, 0, none⟩) 1 1] wz fun en w5 => ∃ v, en = .returned v ∧ Hid (Below w.heap.size w w5 ∧ Below wz.heap.size wz w5 ∧ Rd w5 v (Cx.wts 1 (one a b c d e))) ∧
      (w5.cell? ⟨A + 1, 0, none⟩ = some (.int .i64 a) ∧ w5.cell? ⟨A + 1, 1, none⟩ = some (.int .i64 b) ∧ w5.cell? ⟨A + 1, 2, none⟩ = some (.int .i64 c) ∧ w5.cell? ⟨A + 1, 3, none⟩ = some (.int .i64 d) ∧ w5.cell? ⟨A + 1, 4, none⟩ = some (.int .i64 e)) :=
  (weights_any _ 1 1 _ wz (one_cs hb)).mono fun en w5 ⟨v, he, R, B5⟩ => ⟨v, he, Lib.hid ⟨Hp.step h B5, B5, Rd.of_row R⟩, (T.later (Hp.step h B5)).cells1⟩
theorem rd_one {w : World} {v : Value} {z : Nat → Nat → Int} (h : Rd w v (Cx.wtsN z 1)) : ∃ g cap, v = .slice (some ⟨g, 0, none⟩) 1 cap ∧ w.cell? ⟨g, 0, none⟩ = some (.int .i64 (Cx.wt (z 0 2))) := by
  obtain ⟨a, cap, hv, hc⟩ := h
  obtain ⟨g, hg, _, hx⟩ := hc 0 (by rw [Cx.wtsN_len]; omega)
  rw [Cx.wtsN_get z (by omega)] at hx
  rw [Cx.wtsN_len, hg] at hv
  exact ⟨g, cap, hv, hx⟩
theorem jit_call {W : World} {a : Option Addr} {n cap : Nat} {z : Nat → Nat → Int} {r : Int} (S : Hid (Cs W a n z)) (h : Hid (Cx.jit n z = r)) (x : Qb.Later W) :
    Calls Try.prog 15 #[.slice a n cap] x.1 fun e w'' => e = .returned (.int .i64 r) ∧ ∃ y : Qb.Later W, w'' = y.1 := by
  rw [← h.out]; exact Qb.call (jitter_any a n cap z x.1 (S.out.later x.2))
theorem dist_call2 {W : World} {a : Option Addr} {n cap : Nat} {z : Nat → Nat → Int} {r : Int} (S : Hid (Cs W a n z)) (h : Hid (Cx.dist n z = r)) (x : Qb.Later W) :
    Calls Try.prog 17 #[.slice a n cap] x.1 fun e w'' => e = .returned (.int .i64 r) ∧ ∃ y : Qb.Later W, w'' = y.1 := by
  rw [← h.out]; exact Qb.call (dist_any a n cap z x.1 (S.out.later x.2))
def AfterW (w w3 : World) (v1 v2 : Value) (x1 x2 : List Int) (wx : World) : Prop := Below w3.heap.size w3 wx ∧ Rd wx v1 x1 ∧ Rd wx v2 x2
set_option maxHeartbeats 4000000 in
theorem single_no (a b c d e b' c' d' e' k1 k2 : Int) (h1 : Hid (Cx.chk 1 (one a b c d e) = k1)) (h2 : Hid (Cx.chk 1 (one a b' c' d' e') = k2)) (hk : (k1 != 0) = true ∨ ((k1 != 0) = false ∧ (k2 != 0) = true)) (a' : Int) (w : World) :
    Calls Try.prog 7 #[.agg #[.int .i64 a, .int .i64 b, .int .i64 c, .int .i64 d, .int .i64 e], .agg #[.int .i64 a', .int .i64 b', .int .i64 c', .int .i64 d', .int .i64 e']] w fun e w' => e = .returned (.bool true) ∧ Below w.heap.size w w' := by
  have T0 := Lib.hid (tw_new w #[.int .i64 a, .int .i64 b, .int .i64 c, .int .i64 d, .int .i64 e] #[.int .i64 a, .int .i64 b', .int .i64 c', .int .i64 d', .int .i64 e'])
  rcases hk with hk | ⟨hk, hk2⟩
  · go_enter Try.func7, Try.ntmps7
    go_wp2_with (fail)
    refine (check_new a b c d e h1 ((w.alloc (O5 a b c d e)).alloc (O5 a b' c' d' e')) (by simp)).mono ?_
    rintro en w1 ⟨rfl, B1⟩
    have HB1 := Lib.hid ((((Below.refl w.heap.size w).alloc (Nat.le_refl _) (O5 a b c d e)).alloc (by simp) (O5 a b' c' d' e')).alloc (by simp; omega) (O5 a b c d e) |>.trans (B1.mono (by simp; omega)))
    clear B1 T0
    go_wp2_with (fail)
    refine (awake26_any _).mono ?_
    rintro e w2 ⟨rfl, B2⟩
    have HB2 := Lib.hid (HB1.out.trans (B2.mono HB1.out.size))
    clear B2
    go_wp2_with (fail)
    go_ret
    exact ⟨rfl, HB2.out⟩
  · go_enter Try.func7, Try.ntmps7
    go_wp2_with (fail)
    refine (check_new a b c d e h1 ((w.alloc (O5 a b c d e)).alloc (O5 a b' c' d' e')) (by simp)).mono ?_
    rintro en w1 ⟨rfl, B1⟩
    have HT1 := Lib.hid ((T0.out.later ((Below.refl _ _).alloc (Nat.le_refl _) (O5 a b c d e))).later B1)
    have HB1 := Lib.hid ((((Below.refl w.heap.size w).alloc (Nat.le_refl _) (O5 a b c d e)).alloc (by simp) (O5 a b' c' d' e')).alloc (by simp; omega) (O5 a b c d e) |>.trans (B1.mono (by simp; omega)))
    clear B1 T0
    obtain ⟨q0, q1, q2, q3, q4⟩ := HT1.out.cells1
    go_wp2_with (fail)
    refine (check_new a b' c' d' e' h2 w1 rfl).mono ?_
    rintro en w2 ⟨rfl, B2⟩
    have HB2 := Lib.hid ((HB1.out.alloc HB1.out.size (O5 a b' c' d' e')).trans (B2.mono (by have := HB1.out.size; simp; omega)))
    clear B2 q0 q1 q2 q3 q4
    go_wp2_with (fail)
    refine (awake26_any _).mono ?_
    rintro e w3 ⟨rfl, B3⟩
    have HB3 := Lib.hid (HB2.out.trans (B3.mono HB2.out.size))
    clear B3
    go_wp2_with (fail)
    go_ret
    exact ⟨rfl, HB3.out⟩
set_option maxHeartbeats 8000000 in
set_option maxRecDepth 100000 in
theorem single_yes (a b c d e b' c' d' e' : Int) (h1 : Hid (Cx.chk 1 (one a b c d e) = 0)) (h2 : Hid (Cx.chk 1 (one a b' c' d' e') = 0)) (a' : Int) (w : World) :
    Calls Try.prog 7 #[.agg #[.int .i64 a, .int .i64 b, .int .i64 c, .int .i64 d, .int .i64 e], .agg #[.int .i64 a', .int .i64 b', .int .i64 c', .int .i64 d', .int .i64 e']] w fun e w' => e = .returned (.bool true) ∧ Below w.heap.size w w' := by
  have T0 := Lib.hid (tw_new w #[.int .i64 a, .int .i64 b, .int .i64 c, .int .i64 d, .int .i64 e] #[.int .i64 a, .int .i64 b', .int .i64 c', .int .i64 d', .int .i64 e'])
  go_enter Try.func7, Try.ntmps7
  go_wp2_with (fail)
  refine (check_new a b c d e h1 ((w.alloc (O5 a b c d e)).alloc (O5 a b' c' d' e')) (by simp)).mono ?_
  rintro en w1 ⟨rfl, B1⟩
  have HT1 := Lib.hid ((T0.out.later ((Below.refl _ _).alloc (Nat.le_refl _) (O5 a b c d e))).later B1)
  have HB1 := Lib.hid ((((Below.refl w.heap.size w).alloc (Nat.le_refl _) (O5 a b c d e)).alloc (by simp) (O5 a b' c' d' e')).alloc (by simp; omega) (O5 a b c d e) |>.trans (B1.mono (by simp; omega)))
  clear B1 T0
  obtain ⟨q0, q1, q2, q3, q4⟩ := HT1.out.cells1
  go_wp2_with (fail)
  refine (check_new a b' c' d' e' h2 w1 rfl).mono ?_
  rintro en w2 ⟨rfl, B2⟩
  have HT2 := Lib.hid ((HT1.out.later ((Below.refl _ _).alloc (Nat.le_refl _) (O5 a b' c' d' e'))).later B2)
  have HB2 := Lib.hid ((HB1.out.alloc HB1.out.size (O5 a b' c' d' e')).trans (B2.mono (by have := HB1.out.size; simp; omega)))
  clear B2 q0 q1 q2 q3 q4 HB1 HT1
  obtain ⟨q0, q1, q2, q3, q4⟩ := HT2.out.cells0
  go_wp2_with (fail)
  refine (mean_yes (some ⟨w2.heap.size, 0, none⟩) 1 1 (one a b c d e) (w2.alloc (O5 a b c d e)) (one_cs (Hp.blk_new w2 (O5 a b c d e))) h1.out (by omega)).mono ?_
  rw [Cx.one_mean h1.out]
  rintro en w3 ⟨rfl, B3⟩
  have HT3 := Lib.hid ((HT2.out.later ((Below.refl _ _).alloc (Nat.le_refl _) (O5 a b c d e))).later B3)
  have HB3 := Lib.hid ((HB2.out.alloc HB2.out.size (O5 a b c d e)).trans (B3.mono (by have := HB2.out.size; simp; omega)))
  have HS3 := Lib.hid ((one_cs (Hp.blk_new w2 (O5 a b c d e))).later B3)
  have hz3 : w2.heap.size < w3.heap.size := by have := B3.size; simp at this; omega
  clear B3 q0 q1 q2 q3 q4 HB2 HT2
  obtain ⟨q0, q1, q2, q3, q4⟩ := HT3.out.cells1
  go_upto_region 6 with (fail)
  go_cut [8, 9] (fun v1 v2 wx => AfterW w w3 v1 v2 (Cx.wts 1 (one a b c d e)) (Cx.wts 1 (one a b' c' d' e')) wx)
  case first =>
    go_region_held3 (fun w' => w'.cell? ⟨w.heap.size + 1, 0, none⟩ = some (.int .i64 a) ∧ w'.cell? ⟨w.heap.size + 1, 1, none⟩ = some (.int .i64 b') ∧ w'.cell? ⟨w.heap.size + 1, 2, none⟩ = some (.int .i64 c') ∧ w'.cell? ⟨w.heap.size + 1, 3, none⟩ = some (.int .i64 d') ∧ w'.cell? ⟨w.heap.size + 1, 4, none⟩ = some (.int .i64 e')) (first | go_keep | exact HT3.out.cells1 | exact K4 | exact K5) (first | (go_at_call 13; with_reducible refine (call_a a b c d e w.heap.size w2.heap.size b' c' d' e' _ w3 w3.drew HS3 HT3 (Below.drew (Below.refl _ _))).mono ?_; rintro en w4 ⟨v1, rfl, H4, Z4, K4⟩) | (go_at_call 13; with_reducible refine (call_a a b c d e w.heap.size w2.heap.size b' c' d' e' _ w3 (w3.alloc (O5 a b' c' d' e')).drew HS3 HT3 (Below.drew (Below.alloc (Below.refl _ _) (Nat.le_refl _) _))).mono ?_; rintro en w4 ⟨v1, rfl, H4, Z4, K4⟩) | (go_at_call 13; with_reducible refine (call_b a b' c' d' e' w.heap.size w4.heap.size _ w4 (w4.alloc (O5 a b' c' d' e')) (HT3.out.later H4.out.2.1) (Below.alloc (Below.refl _ _) (Nat.le_refl _) _) (Hp.blk_new _ _)).mono ?_; rintro en w5 ⟨v2, rfl, H5, K5⟩) | (go_at_call 13; with_reducible refine (call_b a b' c' d' e' w.heap.size w3.heap.size _ w4 w4 (HT3.out.later H4.out.2.1) (Below.refl _ _) ((H4.out.1.block w3.heap.size (by simp)).trans (Hp.blk_drew (Hp.blk_new w3 _)))).mono ?_; rintro en w5 ⟨v2, rfl, H5, K5⟩))
    all_goals
      go_wp2_with (fail)
      go_meet
      case rel => exact ⟨H4.out.2.1.trans (H5.out.1.mono Z4.out), H4.out.2.2.later H5.out.1, H5.out.2.2⟩
  case rest =>
    obtain ⟨B5, R1, R2⟩ := hcut
    rw [Cx.wts, if_pos h1.out] at R1
    rw [Cx.wts, if_pos h2.out] at R2
    have HT5 := Lib.hid (HT3.out.later B5)
    have HS5 := Lib.hid (HS3.out.later B5)
    have HB5 := Lib.hid (HB3.out.trans (B5.mono HB3.out.size))
    clear B5 q0 q1 q2 q3 q4 HB3 HT3 HS3
    obtain ⟨g1, cap1, rfl, x1⟩ := rd_one R1
    obtain ⟨g2, cap2, rfl, x2⟩ := rd_one R2
    have o1 := (Cx.chk_ok h1.out).2.2
    have o2 := (Cx.chk_ok h2.out).2.2
    have d1 := (o1 0 (by omega)).2.2.2.2.1; have d2 := (o2 0 (by omega)).2.2.2.2.1
    have ec : one a b c d e 0 2 = c := rfl
    have ec' : one a b' c' d' e' 0 2 = c' := rfl
    have eb : one a b c d e 0 1 = b := rfl
    rw [ec] at d1 x1; rw [ec'] at d2 x2
    have p1 := (Cx.wt_bd d1).1
    have le := fun h : c ≤ c' => Cx.wt_le d1 h
    have mj := Cx.one_jit h1.out; have md := Cx.one_dist h1.out
    rw [ec] at md
    obtain ⟨y1, hy1⟩ : ∃ y, Cx.wt c = y := ⟨_, rfl⟩
    obtain ⟨y2, hy2⟩ : ∃ y, Cx.wt c' = y := ⟨_, rfl⟩
    rw [hy1] at x1 p1 le; rw [hy2] at x2 le
    have HMJ := Lib.hid mj; have HMD := Lib.hid md
    have n1 : decide (y1 < 1) = false := by simp; omega
    have c0 := HT5.out.cells0.2.2.1
    have c0b := HT5.out.cells0.2.1
    have c1 := HT5.out.cells1.2.2.1
    have hor : (decide (c ≤ c') = true ∧ decide (y1 < y2) = false) ∨ decide (c ≤ c') = false := by
      by_cases hcc : c ≤ c'
      · have := le hcc
        exact .inl ⟨by simpa using hcc, by simp; omega⟩
      · exact .inr (by simpa using hcc)
    rw [eb]
    clear R1 R2 o1 o2 ec ec' eb hy1 hy2 mj md le
    rcases hor with ⟨hcc, hyy⟩ | hcc
    all_goals
      go_wp2_with (fail)
      go_quiet (fail)
      go_wp2_with (fail)
      have HS6 : Hid (Cs (wc.drewN nq) (some ⟨w2.heap.size, 0, none⟩) 1 (one a b c d e)) := Lib.hid (HS5.out.later (Hp.drewN (Below.refl _ _) nq))
      have HB6 := Lib.hid (Hp.drewN HB5.out nq)
      have lA : w.heap.size < wc.heap.size := by have := HT5.out.size; omega
      refine Qb.region (by kernel_rfl) (by kernel_rfl) ?_
      have k1 := Qb.cell (w := wc.drewN nq) (b := w.heap.size) (o := 1) (v := .int .i64 b) (by simpa using c0b) lA
      have k2 := Qb.cell (w := wc.drewN nq) (b := w.heap.size) (o := 2) (v := .int .i64 c) (by simpa using c0) lA
      repeat (go_big_quiet_step (first | (go_at_call 15; exact jit_call HS6 HMJ _) | (go_at_call 17; exact dist_call2 HS6 HMD _) | (go_at_call 9; exact Qb.call (awake26_any _))))
      refine wpQuiet_nil ?_
      rintro _ ⟨⟨w9, hb9⟩, rfl⟩
      have H9 := Lib.hid hb9
      clear hb9 k1 k2
      go_wp2_with (fail)
      go_ret
      exact ⟨rfl, HB6.out.trans (H9.out.mono HB6.out.size)⟩
theorem law_CombineSingle (a b c d e a' b' c' d' e' : Int) (w : World) :
    Calls Try.prog 7 #[.agg #[.int .i64 a, .int .i64 b, .int .i64 c, .int .i64 d, .int .i64 e], .agg #[.int .i64 a', .int .i64 b', .int .i64 c', .int .i64 d', .int .i64 e']] w fun e w' => e = .returned (.bool true) ∧ Below w.heap.size w w' := by
  by_cases h1 : Cx.chk 1 (one a b c d e) = 0
  · by_cases h2 : Cx.chk 1 (one a b' c' d' e') = 0
    · exact single_yes a b c d e b' c' d' e' h1 h2 a' w
    · exact single_no a b c d e b' c' d' e' _ _ (Lib.hid rfl) (Lib.hid rfl) (.inr ⟨by simpa using h1, by simpa using h2⟩) a' w
  · exact single_no a b c d e b' c' d' e' _ _ (Lib.hid rfl) (Lib.hid rfl) (.inl (by simpa using h1)) a' w
end Go.Proofs.Ytdnpidcchcefeaa.CxW
