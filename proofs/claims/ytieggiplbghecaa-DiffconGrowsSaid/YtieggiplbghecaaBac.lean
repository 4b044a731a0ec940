/- The law DiffconGrows of layer 51 (begun). -/
import Derived.Test.YtieggiplbghecaaBq
import Derived.Test.YtieggiplbghecaaBty
import Derived.Test.YtieggiplbghecaaBaa
import Derived.Test.YtieggiplbghecaaBab
import Derived.Deep.RegionWith
import Derived.Deep.RegionLaw
import Derived.Deep.RegionHeld3
import Derived.Deep.DeepCutAuto
import Derived.Outline
set_option linter.unusedVariables false
set_option linter.unusedSimpArgs false
namespace Go.Proofs.Ytieggiplbghecaa.BxW
open Go.RowKit Ls Orw Rv Rw
/-- the constraints with one more -/
def plus (z : Nat → Nat → Int) (m : Nat) (A B W : Int) (i j : Nat) : Int := if i < m then z i j else if j = 0 then A else if j = 1 then B else W
theorem ss_plus {w : World} {a : Option Addr} {m : Nat} {z : Nat → Nat → Int} {A B W : Int} (S : Ss 3 w a m z) : Ss 3 w a m (plus z m A B W) := by
  rcases S.cells with h | ⟨b, o, ha, hb, hc⟩
  · exact ⟨.inl h⟩
  · exact ⟨.inr ⟨b, o, ha, hb, fun i j hi hj => by unfold plus; rw [if_pos hi]; exact hc i j hi hj⟩⟩
theorem plus_new (z : Nat → Nat → Int) (m : Nat) (A B W : Int) : plus z m A B W m 0 = A ∧ plus z m A B W m 1 = B ∧ plus z m A B W m 2 = W := by
  unfold plus; simp
/-- behind the first statement -/
def AfterA (w : World) (m : Nat) (z : Nat → Nat → Int) (A B W : Int) (v : Value) (wx : World) : Prop := RowC wx w.heap.size v (m + 1) (plus z m A B W) ∧ wx.heap[w.heap.size]? = some (.cells #[.int .i64 A, .int .i64 B, .int .i64 W] 40 (0, 0)) ∧ Below w.heap.size w wx
theorem cell_of_block {w : World} {g : Nat} {A B W : Int} {z : Nat → Nat → Int} {m : Nat} (h : w.heap[g]? = some (.cells #[.int .i64 A, .int .i64 B, .int .i64 W] 40 (0, 0))) (j : Nat) (hj : j < 3) : w.cell? ⟨g, j, none⟩ = some (.int .i64 (plus z m A B W m j)) := by
  obtain ⟨e0, e1, e2⟩ := plus_new z m A B W
  have hj' : j = 0 ∨ j = 1 ∨ j = 2 := by omega
  rcases hj' with rfl | rfl | rfl
  · rw [e0]; exact Hp.blk_cell h rfl
  · rw [e1]; exact Hp.blk_cell h rfl
  · rw [e2]; exact Hp.blk_cell h rfl
theorem mr_nil0 (w : World) (f : Nat → Nat → Int) : Mr w none 0 f := ⟨.inl rfl⟩
theorem mr_drewN {w : World} {a : Option Addr} {n : Nat} {f : Nat → Nat → Int} (h : Mr w a n f) (q : Nat) : Mr (w.drewN q) a n f := h.later (Hp.drewN (Below.refl _ _) q)
def ptrc (G C : Nat → Nat) (n t : Nat) : List Value := (List.range t).map fun k => .slice (some ⟨G k, 0, none⟩) n (C k)
theorem ptrc_len (G C : Nat → Nat) (n t : Nat) : (ptrc G C n t).length = t := by simp [ptrc]
theorem ptrc_more (G C : Nat → Nat) (n t g c : Nat) : ptrc (more G t g) (more C t c) n (t + 1) = ptrc G C n t ++ [.slice (some ⟨g, 0, none⟩) n c] := by
  unfold ptrc
  rw [List.range_succ, List.map_append]
  congr 1
  · refine List.map_congr_left fun k hk => ?_
    have := List.mem_range.1 hk
    unfold more; rw [if_neg (by omega), if_neg (by omega)]
  · simp [more]
/-- clones of the first t rows -/
structure Kp (w : World) (base : Nat) (v : Value) (n t : Nat) (G C : Nat → Nat) (f : Nat → Nat → Int) : Prop where
  row : RowV w base v (ptrc G C n t)
  obs : ∀ k, k < t → Oc w (G k) n (f k)
theorem Kp.later {w w' : World} {base : Nat} {v : Value} {n t : Nat} {G C : Nat → Nat} {f : Nat → Nat → Int} (h : Kp w base v n t G C f) (b : Below w.heap.size w w') : Kp w' base v n t G C f :=
  ⟨h.row.later b, fun k hk => (h.obs k hk).later b⟩
theorem oc_grown {w w' : World} {base g n : Nat} {f : Nat → Int} {v : Value} {zs : List Value} (o : Oc w g n f) (R : RowV w base v zs) (k : w.grownBy w' v.ownBlock) : Oc w' g n f := by
  obtain ⟨cur, h, hc⟩ := o.c
  exact ⟨cur, R.grown h (by decide) k, hc⟩
theorem Kp.mr {w : World} {base : Nat} {v : Value} {n : Nat} {G C : Nat → Nat} {f : Nat → Nat → Int} (h : Kp w base v n n G C f) (hn : 1 ≤ n) : ∃ a c, v = .slice a n c ∧ Mr w a n f := by
  rcases h.row.form with ⟨_, h0⟩ | ⟨g, cap, cur, hv, hg, hh, hc, hcur⟩
  · have := ptrc_len G C n n; rw [h0] at this; simp at this; omega
  · rw [ptrc_len] at hv hcur
    refine ⟨_, cap, hv, ⟨.inr ⟨g, 0, fun i => some ⟨G i, 0, none⟩, C, rfl, Hp.blk_lt hh, fun i hi => ⟨?_, (h.obs i hi).is⟩⟩⟩⟩
    rw [Nat.zero_add]
    exact Hp.blk_cell hh (by rw [hcur i hi]; simp [ptrc, hi])
set_option maxHeartbeats 16000000 in
set_option maxRecDepth 4000 in
theorem grows_start (n : Int) (a : Option Addr) (m cap : Nat) (z : Nat → Nat → Int) (A B W : Int) (w : World) (S : Ss 3 w a m z) (h0 : a = none → m = 0 ∧ cap = 0) (hm : m * 24 ≤ 140737488351232) :
    Calls Try.prog 10 #[.int .i64 n, .slice a m cap, .agg #[.int .i64 A, .int .i64 B, .int .i64 W]] w fun e w' => e = .returned (.bool true) ∧ Below w.heap.size w w' := by
  have hS := Lib.hid (ss_plus (A := A) (B := B) (W := W) S); have H0 := Lib.hid h0
  clear S h0
  go_enter Try.func10, Try.ntmps10
  go_upto_region 1 with (fail)
  have CB := Hp.blk_new w (.cells #[.int .i64 A, .int .i64 B, .int .i64 W] 40)
  have BW : Below w.heap.size w (w.alloc (.cells #[.int .i64 A, .int .i64 B, .int .i64 W] 40)) := by (repeat (first | exact Below.refl _ _ | refine Below.drew ?_ | refine Hp.drewN ?_ _ | refine Below.setCell ?_ (by first | (simp; done) | (simp; omega) | omega) _ | refine Below.alloc ?_ (by first | (simp; done) | (simp; omega) | omega) _ | (refine Hp.step ?_ (by assumption))))
  obtain ⟨ws, hws⟩ : ∃ ws, w.alloc (.cells #[.int .i64 A, .int .i64 B, .int .i64 W] 40) = ws := ⟨_, rfl⟩
  rw [hws] at CB BW
  rw [hws]
  have c0 : ws.cell? ⟨w.heap.size, 0, none⟩ = some (.int .i64 A) := Hp.blk_cell (o := 0) CB rfl
  have c1 : ws.cell? ⟨w.heap.size, 1, none⟩ = some (.int .i64 B) := Hp.blk_cell (o := 1) CB rfl
  have c2 : ws.cell? ⟨w.heap.size, 2, none⟩ = some (.int .i64 W) := Hp.blk_cell (o := 2) CB rfl
  have HCB := Lib.hid CB; have HBW := Lib.hid BW; have S1 := Lib.hid (hS.out.later BW)
  have lc := Hp.blk_lt CB
  have BWW : Below ws.heap.size ws ws := Below.refl _ _
  clear CB BW hws
  go_cut [7] (fun v wx => AfterA w m z A B W v wx)
  case first =>
    go_region_law (first
      | (go_simp; go_at_call 31; refine (clone_con a m cap (plus z m A B W) _ (S1.out.later (by (repeat (first | exact Below.refl _ _ | refine Below.drew ?_ | refine Hp.drewN ?_ _ | refine Below.setCell ?_ (by first | (simp; done) | (simp; omega) | omega) _ | refine Below.alloc ?_ (by first | (simp; done) | (simp; omega) | omega) _ | (refine Hp.step ?_ (by assumption)))))) H0.out (by omega)).mono ?_; rintro en w5 ⟨v, rfl, R5, B5⟩; have HR5 := Lib.hid R5; obtain ⟨hc5, hf5⟩ := Hp.bcell B5; have hs5 := B5.size; (try simp at hs5); have BV : Below ws.heap.size ws w5 := (by (repeat (first | exact Below.refl _ _ | refine Below.drew ?_ | refine Hp.drewN ?_ _ | refine Below.setCell ?_ (by first | (simp; done) | (simp; omega) | omega) _ | refine Below.alloc ?_ (by first | (simp; done) | (simp; omega) | omega) _ | (refine Hp.step ?_ (by assumption))))); have d0 := (BV.cell (p := ⟨w.heap.size, 0, none⟩) lc).trans c0; have d1 := (BV.cell (p := ⟨w.heap.size, 1, none⟩) lc).trans c1; have d2 := (BV.cell (p := ⟨w.heap.size, 2, none⟩) lc).trans c2; have z5 : ws.heap.size ≤ w5.heap.size := BV.size; clear R5)
      | (refine step_append_con (base := ws.heap.size) (n := m) (z := plus z m A B W) rfl (.tmp 21) (.tmp 23) rfl rfl rfl (RowC.later (w := w5) HR5.out (by (repeat (first | exact Below.refl _ _ | refine Below.drew ?_ | refine Hp.drewN ?_ _ | refine Below.setCell ?_ (by first | (simp; done) | (simp; omega) | omega) _ | refine Below.alloc ?_ (by first | (simp; done) | (simp; omega) | omega) _ | (refine Hp.step ?_ (by assumption)))))) w5.heap.size rfl (cell_of_block (Hp.blk_new w5 _)) (by omega) (by simp; omega) ?_; intro v6 w6 R6 G6; have BV6 : Below ws.heap.size ws w6 := (RowC.below (RowC.later (w := w5) HR5.out (by (repeat (first | exact Below.refl _ _ | refine Below.drew ?_ | refine Hp.drewN ?_ _ | refine Below.setCell ?_ (by first | (simp; done) | (simp; omega) | omega) _ | refine Below.alloc ?_ (by first | (simp; done) | (simp; omega) | omega) _ | (refine Hp.step ?_ (by assumption)))))) (by first | exact Nat.le_refl _ | (simp; done) | (simp; omega)) G6.out (by (repeat (first | exact Below.refl _ _ | refine Below.drew ?_ | refine Hp.drewN ?_ _ | refine Below.setCell ?_ (by first | (simp; done) | (simp; omega) | omega) _ | refine Below.alloc ?_ (by first | (simp; done) | (simp; omega) | omega) _ | (refine Hp.step ?_ (by assumption))))) (by first | omega | (simp; omega))); have b6 := Lib.hid ((RowC.mono R6.out (show w.heap.size ≤ _ from (by first | omega | (simp; omega))))); clear G6 R6)
      | (refine step_append_con (n := m) (z := plus z m A B W) rfl (.tmp 21) (.tmp 23) rfl rfl rfl HR5.out ws.heap.size rfl (cell_of_block ((B5.block _ (by simp)).trans (Hp.blk_new _ _))) (by omega) B5.size ?_; intro v6 w6 R6 G6; have BV6 : Below ws.heap.size ws w6 := (RowC.below HR5.out (by first | exact Nat.le_refl _ | (simp; done) | (simp; omega)) G6.out (by (repeat (first | exact Below.refl _ _ | refine Below.drew ?_ | refine Hp.drewN ?_ _ | refine Below.setCell ?_ (by first | (simp; done) | (simp; omega) | omega) _ | refine Below.alloc ?_ (by first | (simp; done) | (simp; omega) | omega) _ | (refine Hp.step ?_ (by assumption))))) z5); have b6 := Lib.hid ((RowC.mono R6.out (show w.heap.size ≤ _ from (by first | omega | (simp; omega))))); clear G6 R6))
    all_goals
      go_wp2_with (fail)
      go_meet
      case rel => exact ⟨b6.out, (BV6.block _ lc).trans HCB.out, bl_next HBW.out BV6⟩
  case rest =>
    obtain ⟨R1, C1, B1⟩ := hcut
    obtain ⟨a7, c7, rfl, S7⟩ := R1.ss
    have HB1 := Lib.hid B1; have HC1 := Lib.hid C1; have HS7 := Lib.hid S7; have SL := Lib.hid (hS.out.later B1)
    have w0 := Hp.blk_cell (o := 0) C1 rfl
    clear R1 C1 B1 S7 c0 c1 c2 BWW w0
    by_cases hm2 : 4096 ≤ m
    · have h4 : (4096 : Int) ≤ (m : Int) := by omega
      go_wp2_with (fail)
      refine (awake51_any _).mono ?_
      rintro en w3 ⟨rfl, B3⟩
      have HB3 := Lib.hid (bl_next HB1.out B3)
      clear B3
      go_wp2_with (fail)
      go_ret
      exact ⟨rfl, HB3.out⟩
    · have h4 : ¬ (4096 : Int) ≤ (m : Int) := by omega
      obtain ⟨r, hr⟩ : ∃ r, Bx.chk n (m + 1) (plus z m A B W) = r := ⟨_, rfl⟩
      have HR := Lib.hid hr
      clear hr
      go_wp2_with (fail)
      refine (check_at HS7.out HR).mono ?_
      rintro en w3 ⟨rfl, B3⟩
      have HB3 := Lib.hid (bl_next HB1.out B3); have S3 := Lib.hid (HS7.out.later B3); have T3 := Lib.hid (SL.out.later B3); have C3 := Lib.hid ((B3.block _ (Hp.blk_lt HC1.out)).trans HC1.out)
      clear B3
      by_cases hr0 : r = 0
      · subst hr0
        obtain ⟨n1, n2, V⟩ := Bx.vs_of HR.out
        obtain ⟨N, rfl⟩ := Int.eq_ofNat_of_zero_le (show 0 ≤ n by omega)
        rw [Int.toNat_natCast] at V
        have hV := Lib.hid V
        clear V
        go_wp2_with (fail)
        by_cases hs : Bx.St N (plus z m A B W) m (N - 1)
        · refine (bounds_ok N a m cap _ hV.out.less hs _ T3.out).mono ?_
          rintro en w4 ⟨g4, rfl, M4, hg4, B4⟩
          have HB4 := Lib.hid (bl_next HB3.out B4); have S4 := Lib.hid (S3.out.later B4); have HM := Lib.hid M4; have C4 := Lib.hid ((B4.block _ (Hp.blk_lt C3.out)).trans C3.out); have HS := Lib.hid hs
          clear M4 B4 hs
          go_wp2_with (fail)
          have key : ∃ (V5 : Value) (E5 : Int) (K5 : Nat), (E5 = 0 ∨ E5 = 20) ∧ (E5 = 0 → Bx.St N (plus z m A B W) (m + 1) (N - 1) ∧ K5 = N) ∧ (E5 = 20 → ¬ Bx.St N (plus z m A B W) (m + 1) (N - 1) ∧ K5 = 0) ∧ Calls Try.prog 13 #[.int .i64 (N : Int), .slice a7 (m + 1) c7] w4 fun e w' => ∃ a5 c5, e = .returned (.tuple #[.slice a5 K5 c5, .int .i64 E5]) ∧ Mr w' a5 K5 (Bx.F (plus z m A B W) (m + 1) N) ∧ Below w4.heap.size w4 w' := by
            by_cases h3 : Bx.St N (plus z m A B W) (m + 1) (N - 1)
            · refine ⟨.nilFunc, 0, N, .inl rfl, fun _ => ⟨h3, rfl⟩, (fun h => absurd h (by decide)), (bounds_ok N a7 (m + 1) c7 _ hV.out h3 _ S4.out).mono ?_⟩
              rintro e w' ⟨g, he, M, _, b⟩
              exact ⟨_, _, he, M.mr, b⟩
            · refine ⟨.nilFunc, 20, 0, .inr rfl, (fun h => absurd h (by decide)), fun _ => ⟨h3, rfl⟩, (bounds_cyc N a7 (m + 1) c7 _ hV.out h3 _ S4.out).mono ?_⟩
              rintro e w' ⟨he, b⟩
              exact ⟨none, 0, he, ⟨.inl rfl⟩, b⟩
          obtain ⟨_, E5, K5, hE5, hEa, hEb, CA⟩ := key
          refine CA.mono ?_
          rintro en w5 ⟨a5, c5, rfl, M5, B5⟩
          have HB5 := Lib.hid (bl_next HB4.out B5); have MW := Lib.hid M5; have HM5 := Lib.hid (HM.out.later B5); have C5 := Lib.hid ((B5.block _ (Hp.blk_lt C4.out)).trans C4.out)
          have HEa := Lib.hid hEa; have HEb := Lib.hid hEb; have HE5 := Lib.hid hE5
          have nn1 := hV.out.n1; have nn2 := hV.out.n2
          clear B5 M5 CA hEa hEb hE5
          go_wp2_with (fail)
          go_loopw [60, 12] (fun c v wr => ∃ (t : Nat) (G C : Nat → Nat), t ≤ N ∧ c = .int .i64 t ∧ Kp wr w5.heap.size v N t G C (Bx.F (plus z m A B W) m N) ∧ Below w5.heap.size w5 wr) (fun c _ _ => N - (intOf c).toNat)
          case atStart => exact ⟨0, fun _ => 0, fun _ => 0, by omega, rfl, ⟨RowV.nil _ _, fun k hk => by omega⟩, Below.refl _ _⟩
          case round =>
            rename World => ws
            obtain ⟨t, G, C, ht, rfl, hK, hb⟩ := hrel
            have HK := Lib.hid hK; have HB6 := Lib.hid hb; have M6 := Lib.hid (HM5.out.later hb)
            have sz6 := hb.size
            clear hK hb
            by_cases hlt : t < N
            · have d1 := M6.out.out hlt hlt
              have d2 := (M6.out.r t hlt).is
              have I6 := Lib.hid d2
              clear d2
              go_wp2_with (fail)
              refine (clone_ints _ N N _ _ I6.out (by omega) (fun h => by cases h)).mono ?_
              rintro en w6 ⟨v6, rfl, R6, B6⟩
              obtain ⟨g6, c6, rfl, o6, hg6⟩ := oc_of_row R6 nn1
              have HB7 := Lib.hid (bl_next HB6.out B6); have HK7 := Lib.hid (HK.out.later B6); have O6 := Lib.hid o6
              have sz7 := B6.size
              have AV := Lib.hid (Av.mk' HK7.out.row (by omega) (.slice (some ⟨g6, 0, none⟩) N c6))
              have BX := Lib.hid (Below.alloc HB7.out (by omega) (.cells #[.slice (some ⟨g6, 0, none⟩) N c6] 32))
              have sm := Lib.hid (show (ptrc G C N t).length ≤ 1000000 by rw [ptrc_len]; omega)
              clear R6 B6 o6
              go_wp2_with (at_builtin; refine append_row rfl (.tmp 64) (.tmp 67) rfl rfl AV.out.row ⟨w6.heap.size, 0, none⟩ rfl AV.out.cell sm.out AV.out.base ?_; intro v8 w8 R8 G8; have HR8 := Lib.hid R8; have HG8 := Lib.hid G8; clear R8 G8)
              go_roundw
              case rel =>
                refine ⟨t + 1, more G t g6, more C t c6, by omega, by go_num, ⟨by rw [ptrc_more]; exact HR8.out, fun k hk => ?_⟩, RowV.below AV.out.row (Nat.le_refl _) HG8.out BX.out AV.out.base⟩
                unfold more
                by_cases e : k = t
                · rw [if_pos e, e]; exact oc_grown ⟨by obtain ⟨cur, h, hc⟩ := O6.out.c; exact ⟨cur, Hp.blk_old h, hc⟩⟩ AV.out.row HG8.out
                · rw [if_neg e]; exact oc_grown ⟨by obtain ⟨cur, h, hc⟩ := (HK7.out.obs k (by omega)).c; exact ⟨cur, Hp.blk_old h, hc⟩⟩ AV.out.row HG8.out
              case measure => (simp [intOf] <;> omega)
            · obtain rfl : N = t := by omega
              obtain ⟨ak, ck, rfl, MK⟩ := HK.out.mr nn1
              have HMK := Lib.hid MK
              have C6 := Lib.hid ((HB6.out.block _ (Hp.blk_lt C5.out)).trans C5.out)
              have x0 := Hp.blk_cell (o := 0) C6.out rfl; have x1 := Hp.blk_cell (o := 1) C6.out rfl; have x2 := Hp.blk_cell (o := 2) C6.out rfl
              clear MK
              go_wp2_with (fail)
              obtain ⟨pn0, pn1, pn2⟩ := plus_new z m A B W
              have okc := hV.out.ok m (by omega)
              rw [pn0, pn1, pn2] at okc
              obtain ⟨A', eA⟩ := Int.eq_ofNat_of_zero_le okc.1
              obtain ⟨B', eB⟩ := Int.eq_ofNat_of_zero_le okc.2.2.1
              have fA : Bx.fr (plus z m A B W) m = A' := by unfold Bx.fr; rw [pn0, eA]; rfl
              have fB : Bx.to (plus z m A B W) m = B' := by unfold Bx.to; rw [pn1, eB]; rfl
              have hA' : A' < N := by omega
              have hB' : B' < N := by omega
              have yp := Bx.pt_of hV.out.less HS.out
              have bm : Bm N (Bx.F (plus z m A B W) m N) := fun u v hu hv => by
                have b1 := Bx.F_bd hV.out.less yp nn2 (k := N) u v
                have y1 := bf_lo hV.out.less u hu; have y2 := bf_lo hV.out.less v hv
                exact ⟨by omega, fun e => by rw [← e]; exact Bx.F_self yp N u⟩
              have FM := Lib.hid (fun (h : Bx.St N (plus z m A B W) (m + 1) (N - 1)) u v => by
                have := Bx.F_more hV.out (Bx.pt_of hV.out h) u v
                rw [fA, fB, pn2] at this; exact this)
              have FN := Lib.hid (fun (h : ¬ Bx.cyc (Bx.F (plus z m A B W) m N) A' B' W) => show Bx.St N (plus z m A B W) (m + 1) (N - 1) from by
                obtain ⟨y', hy'⟩ := Bx.ad_pt hV.out yp (by rw [fA, fB, pn2]; exact h)
                exact Bx.st_of hV.out hy')
              have MW6 := Lib.hid (MW.out.later HB6.out)
              rw [eA, eB]
              refine (add_two _ N N _ A' B' W hA' hB' okc.2.2.2.2.1 okc.2.2.2.2.2 _ M6.out.mr nn2 bm).mono ?_
              rintro en w9 (⟨cy, rfl, B9⟩ | ⟨nc, g9, rfl, M9, hg9, B9⟩)
              · have HB9 := Lib.hid (bl_next (bl_next HB5.out HB6.out) B9); have MM := Lib.hid (M6.out.mr.later B9); have KK := Lib.hid (HMK.out.later B9); have WW := Lib.hid (MW6.out.later B9)
                have h20 : E5 = 20 ∧ K5 = 0 := by
                  rcases HE5.out with h | h
                  · exact absurd cy (FM.out (HEa.out h).1 0 0).2
                  · exact ⟨h, (HEb.out h).2⟩
                obtain ⟨rfl, rfl⟩ := h20
                clear B9 cy bm yp okc pn0 pn1 pn2 fA fB eA eB x0 x1 x2
                go_wp2_with (fail)
                refine (same_eq _ (mr_nil0 _ _) WW.out (by omega)).mono ?_
                rintro en w10 ⟨rfl, q, rfl⟩
                have HB10 := Lib.hid (Hp.drewN HB9.out q)
                go_wp2_with (fail)
                refine (same_eq _ (mr_drewN MM.out q) (mr_drewN KK.out q) (by omega)).mono ?_
                rintro en w10 ⟨rfl, q2, rfl⟩
                go_wp2_with (fail)
                go_loopw [93] (fun c wr => c = .int .i64 0 ∧ ∃ q, wr = w9.drewN q) (fun c _ => 0)
                case atStart => exact ⟨rfl, _, by first | rfl | exact World.drewN_drewN _ _ _⟩
                case round =>
                  obtain ⟨rfl, q3, rfl⟩ := hrel
                  go_wp2_with (fail)
                  refine (same_eq _ (mr_drewN MM.out q3) (mr_drewN KK.out q3) (by omega)).mono ?_
                  rintro en w10 ⟨rfl, q4, rfl⟩
                  go_wp2_with (fail)
                  refine (awake51_any _).mono ?_
                  rintro en w11 ⟨rfl, B11⟩
                  have HB11 := Lib.hid (bl_next (Hp.drewN HB9.out _) B11)
                  clear B11
                  go_wp2_with (fail)
                  go_ret
                  exact ⟨rfl, HB11.out⟩
              · have HB9 := Lib.hid (bl_next (bl_next HB5.out HB6.out) B9); have MM := Lib.hid (M6.out.mr.later B9); have KK := Lib.hid (HMK.out.later B9); have WW := Lib.hid (MW6.out.later B9)
                have h0 : E5 = 0 ∧ K5 = N := by
                  rcases HE5.out with h | h
                  · exact ⟨h, (HEa.out h).2⟩
                  · exact absurd (FN.out nc) (HEb.out h).1
                obtain ⟨rfl, rfl⟩ := h0
                have st9 := (HEa.out rfl).1
                have G9 := Lib.hid ((M9.congr (fun u v _ _ => ((FM.out st9 u v).1).symm)).mr)
                have HM9 := Lib.hid M9; have HBS := Lib.hid B9
                have HW6 := Lib.hid (bl_next HB5.out HB6.out)
                clear B9 nc bm yp okc pn0 pn1 pn2 fA fB eA eB x0 x1 x2 M9
                go_wp2_with (fail)
                refine (same_eq _ G9.out WW.out (by omega)).mono ?_
                rintro en w10 ⟨rfl, q, rfl⟩
                go_wp2_with (fail)
                refine (same_eq _ (mr_drewN MM.out q) (mr_drewN KK.out q) (by omega)).mono ?_
                rintro en w10 ⟨rfl, q2, rfl⟩
                go_wp2_with (fail)
                go_loopw [93] (fun c wr => ∃ k : Nat, k ≤ K5 ∧ c = .int .i64 k ∧ (∃ h, Mo wr g9 K5 K5 h) ∧ Below ws.heap.size ws wr) (fun c _ => K5 - (intOf c).toNat)
                case atStart => exact ⟨0, by omega, rfl, ⟨_, HM9.out.drewN _⟩, Hp.drewN HBS.out _⟩
                case round =>
                  obtain ⟨k, hk, rfl, ⟨h, mo⟩, hb⟩ := hrel
                  have MO := Lib.hid mo; have HBk := Lib.hid hb
                  by_cases hlt9 : k < K5
                  · have e1 := mo.out hlt9 hlt9
                    clear mo hb
                    go_wp2_with (fail)
                    go_loopw [99] (fun c wr => ∃ j : Nat, j ≤ K5 ∧ c = .int .i64 j ∧ (∃ h, Mo wr g9 K5 K5 h) ∧ Below ws.heap.size ws wr) (fun c _ => K5 - (intOf c).toNat)
                    case atStart => exact ⟨0, by omega, rfl, ⟨_, MO.out⟩, HBk.out⟩
                    case round =>
                      obtain ⟨j, hj, rfl, ⟨h2, mo⟩, hb⟩ := hrel
                      have MJ := Lib.hid mo; have HBj := Lib.hid hb
                      have szj := hb.size
                      by_cases hltj : j < K5
                      · have c1 := mo.cell hlt9 hltj
                        have c2 := mo.free hlt9 j
                        obtain ⟨X, eX⟩ : ∃ X, h2 k j = X := ⟨_, rfl⟩
                        rw [eX] at c1
                        clear mo hb eX
                        go_wp2_with (fail)
                        go_roundw
                        case rel => exact ⟨j + 1, by omega, by go_num, ⟨_, MJ.out.set hlt9 j _⟩, by have := HBj.out; (repeat (first | exact Below.refl _ _ | refine Below.drew ?_ | refine Hp.drewN ?_ _ | refine Below.setCell ?_ (by first | (simp; done) | (simp; omega) | omega) _ | refine Below.alloc ?_ (by first | (simp; done) | (simp; omega) | omega) _ | (refine Hp.step ?_ (by assumption))))⟩
                        case measure => (simp [intOf] <;> omega)
                      · obtain rfl : K5 = j := by omega
                        clear mo hb
                        go_wp2_with (fail)
                        go_roundw
                        case rel => exact ⟨k + 1, by omega, by go_num, ⟨_, MJ.out⟩, HBj.out⟩
                        case measure => (simp [intOf] <;> omega)
                  · obtain rfl : K5 = k := by omega
                    have MZ := Lib.hid (M6.out.mr.later hb); have KZ := Lib.hid (HMK.out.later hb)
                    clear mo hb
                    go_wp2_with (fail)
                    refine (same_eq _ MZ.out KZ.out (by omega)).mono ?_
                    rintro en w10 ⟨rfl, q4, rfl⟩
                    go_wp2_with (fail)
                    refine (awake51_any _).mono ?_
                    rintro en w11 ⟨rfl, B11⟩
                    have HB11 := Lib.hid (bl_next (Hp.drewN (bl_next HW6.out HBk.out) _) B11)
                    clear B11
                    go_wp2_with (fail)
                    go_ret
                    exact ⟨rfl, HB11.out⟩
        · refine (bounds_cyc N a m cap _ hV.out.less hs _ T3.out).mono ?_
          rintro en w4 ⟨rfl, B4⟩
          have HB4 := Lib.hid (bl_next HB3.out B4); have S4 := Lib.hid (S3.out.later B4)
          have hs2 : ¬ Bx.St N (plus z m A B W) (m + 1) (N - 1) := fun h => hs (Bx.st_of hV.out.less (Bx.Pt.less (Bx.pt_of hV.out h)))
          have HS := Lib.hid hs2
          clear B4 hs hs2
          go_wp2_with (fail)
          refine (bounds_cyc N a7 (m + 1) c7 _ hV.out HS.out _ S4.out).mono ?_
          rintro en w5 ⟨rfl, B5⟩
          have HB5 := Lib.hid (bl_next HB4.out B5)
          clear B5
          go_wp2_with (fail)
          refine (awake51_any _).mono ?_
          rintro en w6 ⟨rfl, B6⟩
          have HB6 := Lib.hid (bl_next HB5.out B6)
          clear B6
          go_wp2_with (fail)
          go_ret
          exact ⟨rfl, HB6.out⟩
      · have hrb : (r != 0) = true := by simpa using hr0
        clear hr0
        go_wp2_with (fail)
        refine (awake51_any _).mono ?_
        rintro en w4 ⟨rfl, B4⟩
        have HB4 := Lib.hid (bl_next HB3.out B4)
        clear B4
        go_wp2_with (fail)
        go_ret
        exact ⟨rfl, HB4.out⟩
theorem law_DiffconGrows (n : Int) (a : Option Addr) (m cap : Nat) (z : Nat → Nat → Int) (A B W : Int) (w : World) (S : In.IsStructs [.i64, .i64, .i64] w a m cap z) (hm : m * 24 ≤ 140737488351232) :
    Calls Try.prog 10 #[.int .i64 n, .slice a m cap, .agg #[.int .i64 A, .int .i64 B, .int .i64 W]] w fun e w' => e = .returned (.bool true) ∧ Below w.heap.size w w' :=
  grows_start n a m cap z A B W w (ss_of S) (fun h => by
    rcases S with ⟨_, p, q⟩ | ⟨x, hx, _⟩
    · exact ⟨p, q⟩
    · rw [h] at hx; cases hx) hm
end Go.Proofs.Ytieggiplbghecaa.BxW
