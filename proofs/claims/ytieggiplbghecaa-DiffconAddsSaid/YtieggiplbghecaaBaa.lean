/- Contracts of layer 51: bounded, Add (on a matrix that is bounded). -/
import Derived.Test.YtieggiplbghecaaBo
set_option linter.unusedVariables false
set_option linter.unusedSimpArgs false
namespace Go.Proofs.Ytieggiplbghecaa.BxW
open Go.RowKit Ls Orw Rv
/-- a matrix that Add accepts -/
def Bm (n : Nat) (f : Nat → Nat → Int) : Prop := ∀ i j, i < n → j < n → (f i j = 4611686018427387904 ∨ (-2305843009213693952 ≤ f i j ∧ f i j ≤ 2305843009213693952)) ∧ (i = j → f i j = 0)
set_option maxHeartbeats 8000000 in
set_option maxRecDepth 4000 in
theorem bounded_yes (a : Option Addr) (n c : Nat) (f : Nat → Nat → Int) (w : World) (S : Mr w a n f) (h1 : 1 ≤ n) (h2 : n ≤ 160) (hb : Bm n f) :
    Calls Try.prog 41 #[.slice a n c] w fun e w' => e = .returned (.bool true) ∧ Below w.heap.size w w' := by
  have hS := Lib.hid S; have HB := Lib.hid hb
  have i1 : (1 : Int) ≤ (n : Int) := by omega
  have i2 : ¬ (160 : Int) < (n : Int) := by omega
  have i3 : ¬ (n : Int) < 1 := by omega
  clear S hb
  go_enter Try.func41, Try.ntmps41
  go_wp2_with (fail)
  go_loopw [17] (fun c wr => w = wr ∧ ∃ k : Nat, k ≤ n ∧ c = .int .i64 k) (fun c _ => n - (intOf c).toNat)
  case atStart => exact ⟨rfl, 0, by omega, rfl⟩
  case round =>
    obtain ⟨rfl, k, hk, rfl⟩ := hrel
    by_cases hlt : k < n
    · obtain ⟨b, o, A, C, rfl, hbl, r1, I⟩ := hS.out.row hlt
      obtain ⟨b2, o2, rfl, hb2, hc⟩ := I.addr (by omega)
      have HC := Lib.hid hc
      have d := hc k hlt
      rw [(HB.out k k hlt hlt).2 rfl] at d
      clear I hc
      go_wp2_with (fail)
      go_loopw [36] (fun c wr => w = wr ∧ ∃ j : Nat, j ≤ n ∧ c = .int .i64 j) (fun c _ => n - (intOf c).toNat)
      case atStart => exact ⟨rfl, 0, by omega, rfl⟩
      case round =>
        obtain ⟨rfl, j, hj, rfl⟩ := hrel
        by_cases hlt2 : j < n
        · have c1 := HC.out j hlt2
          have bb := (HB.out k j hlt hlt2).1
          obtain ⟨P, eP⟩ : ∃ P, f k j = P := ⟨_, rfl⟩
          rw [eP] at c1 bb
          clear eP
          by_cases hP : P = 4611686018427387904
          · have hP2 : (P != 4611686018427387904) = false := by simpa using hP
            clear bb hP
            go_wp2_with (fail)
            go_roundw
            case rel => exact ⟨by first | rfl | trivial, j + 1, by omega, by go_num⟩
            case measure => (simp [intOf] <;> omega)
          · have hP2 : (P != 4611686018427387904) = true := by simpa using hP
            have p1 : ¬ P < -2305843009213693952 := by omega
            have p2 : ¬ 2305843009213693952 < P := by omega
            clear bb hP
            go_wp2_with (fail)
            go_roundw
            case rel => exact ⟨by first | rfl | trivial, j + 1, by omega, by go_num⟩
            case measure => (simp [intOf] <;> omega)
        · obtain rfl : n = j := by omega
          go_wp2_with (fail)
          go_roundw
          case rel => exact ⟨by first | rfl | trivial, k + 1, by omega, by go_num⟩
          case measure => (simp [intOf] <;> omega)
    · obtain rfl : n = k := by omega
      go_wp2_with (fail)
      go_ret
      exact ⟨rfl, Below.refl _ _⟩
theorem valid_yes {n A B : Nat} {W : Int} (hA : A < n) (hB : B < n) (w1 : -9007199254740992 ≤ W) (w2 : W ≤ 9007199254740992) (w : World) : Calls Try.prog 34 #[.int .i64 n, .agg #[.int .i64 A, .int .i64 B, .int .i64 W]] w fun e w' => e = .returned (.bool true) ∧ Below w.heap.size w w' := by
  have := valid_any n A B W w
  rw [okB_iff.2 (by omega)] at this; exact this
/-- rows being filled: row i up to column j -/
def stA (h : Nat → Nat → Int) (i j i' j' : Nat) : Int := if i' = i then (if j' < j then h i' j' else 0) else h i' j'
theorem stA_set {h : Nat → Nat → Int} {i j : Nat} {v : Int} (e : h i j = v) : updM (stA h i j) i j v = stA h i (j + 1) := by
  funext i' j'; unfold updM stA
  by_cases e1 : i' = i
  · by_cases e2 : j' = j
    · rw [if_pos ⟨e1, e2⟩, if_pos e1, if_pos (by omega), e1, e2, e]
    · rw [if_neg (by omega), if_pos e1, if_pos e1]
      by_cases h2 : j' < j
      · rw [if_pos h2, if_pos (by omega)]
      · rw [if_neg h2, if_neg (by omega)]
  · rw [if_neg (by omega), if_neg e1, if_neg e1]
theorem ad_yes {f : Nat → Nat → Int} {A B i j : Nat} {W v : Int} (h1 : f i A ≠ 4611686018427387904) (h2 : f B j ≠ 4611686018427387904) (h : (if f i A + W + f B j < f i j then f i A + W + f B j else f i j) = v) : Bx.ad f A B W i j = v := by
  subst h; unfold Bx.ad; rw [if_pos ⟨h1, h2⟩]; split <;> omega
theorem ad_none {f : Nat → Nat → Int} {A B i j : Nat} {W : Int} (h : f i A = 4611686018427387904 ∨ f B j = 4611686018427387904) : Bx.ad f A B W i j = f i j := by
  unfold Bx.ad; rw [if_neg (fun g => by rcases h with h | h; exact g.1 h; exact g.2 h)]
set_option maxHeartbeats 16000000 in
set_option maxRecDepth 4000 in
theorem add_two (a : Option Addr) (n c : Nat) (f : Nat → Nat → Int) (A B : Nat) (W : Int) (hA : A < n) (hB : B < n) (w1 : -9007199254740992 ≤ W) (w2 : W ≤ 9007199254740992) (w : World) (S : Mr w a n f) (h2 : n ≤ 160) (hb : Bm n f) :
    Calls Try.prog 29 #[.slice a n c, .agg #[.int .i64 A, .int .i64 B, .int .i64 W]] w fun e w' => (Bx.cyc f A B W ∧ ErrPost 20 w e w') ∨ (¬ Bx.cyc f A B W ∧ MatPost n (Bx.ad f A B W) w e w') := by
  have hmk := fun W => make_run n _ rfl (by omega) W
  have hmo := fun W => make_outer n _ rfl (by omega) W
  have hS := Lib.hid S; have HBm := Lib.hid hb
  have BA := Lib.hid (Below.alloc (Below.refl w.heap.size w) (Nat.le_refl _) (.cells #[.int .i64 (A : Int), .int .i64 (B : Int), .int .i64 W] 40))
  have CB : Hid ((w.alloc (.cells #[.int .i64 (A : Int), .int .i64 (B : Int), .int .i64 W] 40)).heap[w.heap.size]? = some (.cells #[.int .i64 (A : Int), .int .i64 (B : Int), .int .i64 W] 40 (0, 0))) := Lib.hid (Hp.blk_new _ _)
  clear S hb
  go_enter Try.func29, Try.ntmps29
  go_wp2_with (fail)
  refine (bounded_yes a n c f _ (hS.out.later BA.out) (by omega) h2 HBm.out).mono ?_
  rintro en w3 ⟨rfl, B3⟩
  have HB3 := Lib.hid (BA.out.trans (B3.mono BA.out.size)); have C3 := Lib.hid ((B3.block _ (Hp.blk_lt CB.out)).trans CB.out)
  have q0 := Hp.blk_cell (o := 0) C3.out rfl; have q1 := Hp.blk_cell (o := 1) C3.out rfl; have q2 := Hp.blk_cell (o := 2) C3.out rfl
  clear B3
  go_wp2_with (fail)
  refine (valid_yes hA hB w1 w2 _).mono ?_
  rintro en w4 ⟨rfl, B4⟩
  have HB4 := Lib.hid (bl_next HB3.out B4); have C4 := Lib.hid ((B4.block _ (Hp.blk_lt C3.out)).trans C3.out)
  have M4 := Lib.hid (hS.out.later HB4.out)
  have p0 := Hp.blk_cell (o := 0) C4.out rfl; have p1 := Hp.blk_cell (o := 1) C4.out rfl; have p2 := Hp.blk_cell (o := 2) C4.out rfl
  have lc := Hp.blk_lt C4.out
  clear B4 q0 q1 q2
  obtain ⟨b, o, RA, RC, rfl, hbl, r1, I⟩ := M4.out.row hB
  obtain ⟨b2, o2, rfl, hb2, hc⟩ := I.addr (by omega)
  have x1 := hc A hA
  have HCB := Lib.hid hc
  obtain ⟨X, eX⟩ : ∃ X, f B A = X := ⟨_, rfl⟩
  have HX := Lib.hid eX
  have bx := (HBm.out B A hB hA).1
  rw [eX] at x1 bx
  clear I hc eX
  by_cases hcy : X ≠ 4611686018427387904 ∧ X + W < 0
  · have hP2 : (X != 4611686018427387904) = true := by simpa using hcy.1
    have hn := hcy.2
    have x3 : -2305843009213693952 ≤ X := by omega
    have CY := Lib.hid (show Bx.cyc f A B W from by unfold Bx.cyc; rw [HX.out]; exact hcy)
    clear hcy bx
    go_wp2_with (fail)
    go_quiet (fail)
    go_wp2_with (fail)
    go_ret2
    exact .inl ⟨CY.out, rfl, Hp.drewN HB4.out _⟩
  have NC := Lib.hid (show ¬ Bx.cyc f A B W from by unfold Bx.cyc; rw [HX.out]; exact hcy)
  have key : (X != 4611686018427387904) = false ∨ ((X != 4611686018427387904) = true ∧ ¬ X + W < 0 ∧ -2305843009213693952 ≤ X ∧ X ≤ 2305843009213693952) := by
    by_cases h : X = 4611686018427387904
    · left; simpa using h
    · right; exact ⟨by simpa using h, fun g => hcy ⟨h, g⟩, by omega, by omega⟩
  clear hcy bx
  rcases key with hk | ⟨hk, hk2, hk3, hk4⟩
  all_goals
    go_wp2_with (fail)
    go_quiet (fail)
    go_wp2_with (fail)
    go_loopw [45] (fun c wr => ∃ i : Nat, i ≤ n ∧ c = .int .i64 i ∧ Mo wr w4.heap.size n i (Bx.ad f A B W) ∧ wr.heap.size = w4.heap.size + 1 + i ∧ Below w4.heap.size w4 wr) (fun c _ => n - (intOf c).toNat)
    case atStart => exact ⟨0, by omega, rfl, by first | exact Mo.made _ _ _ | exact (Mo.made w4 n _).drewN _, by simp, by (repeat (first | exact Below.refl _ _ | refine Below.drew ?_ | refine Hp.drewN ?_ _ | refine Below.setCell ?_ (by first | (simp; done) | (simp; omega) | omega) _ | refine Below.alloc ?_ (by first | (simp; done) | (simp; omega) | omega) _ | (refine Hp.step ?_ (by assumption))))⟩
    case round =>
      rename World => ws
      obtain ⟨i, hi, rfl, mo, hz, hb⟩ := hrel
      have MO := Lib.hid mo; have HB := Lib.hid hb
      have sz := hb.size
      have M5 := M4.out.later hb
      clear mo hb
      by_cases hlt : i < n
      · obtain ⟨b', o', RI, CI, hbo, _, ri, Ii⟩ := M4.out.row hlt
        replace ri := (HB.out.cell (p := ⟨b', o' + i, none⟩) (by cases hbo; exact hbl)).trans ri
        obtain ⟨rfl, rfl⟩ : b = b' ∧ o = o' := by injection hbo with e1; injection e1 with e1 e2; exact ⟨e1, e2⟩
        obtain ⟨b3, o3, rfl, hb3, hci⟩ := Ii.addr (by omega)
        have HCI := Lib.hid hci
        have fr0 := (MO.out.alloc (.cells (row (fun _ => 0) n) 3)).ofree i
        have ce0 := Hp.blk_cell (o := i) (MO.out.alloc (.cells (row (fun _ => 0) n) 3)).o (outer_get _ hlt)
        unfold slot at ce0
        rw [if_neg (by omega)] at ce0
        have gB : w4.heap.size < ws.heap.size := by omega
        have M1 := Lib.hid ((MO.out.congr (f' := stA (Bx.ad f A B W) i 0) (fun i' j' h1 _ => by unfold stA; rw [if_neg (by omega)])).next hz (fun j => by unfold stA; simp))
        have HB1 : Hid (Below w4.heap.size w4 ((ws.alloc (.cells (row (fun _ => 0) n) 3)).setCell ⟨w4.heap.size, i, none⟩ (.slice (some ⟨w4.heap.size + 1 + i, 0, none⟩) n n))) := Lib.hid (by have := HB.out; (repeat (first | exact Below.refl _ _ | refine Below.drew ?_ | refine Hp.drewN ?_ _ | refine Below.setCell ?_ (by first | (simp; done) | (simp; omega) | omega) _ | refine Below.alloc ?_ (by first | (simp; done) | (simp; omega) | omega) _ | (refine Hp.step ?_ (by assumption)))))
        have BS : Hid (Below ws.heap.size ws (ws.alloc (.cells (row (fun _ => 0) n) 3))) := Lib.hid (by (repeat (first | exact Below.refl _ _ | refine Below.drew ?_ | refine Hp.drewN ?_ _ | refine Below.setCell ?_ (by first | (simp; done) | (simp; omega) | omega) _ | refine Below.alloc ?_ (by first | (simp; done) | (simp; omega) | omega) _ | (refine Hp.step ?_ (by assumption)))))
        have hz1 : ((ws.alloc (.cells (row (fun _ => 0) n) 3)).setCell ⟨w4.heap.size, i, none⟩ (.slice (some ⟨w4.heap.size + 1 + i, 0, none⟩) n n)).heap.size = w4.heap.size + 1 + (i + 1) := by simp; omega
        have HZ1 := Lib.hid hz1
        have kb := (HB.out.cell (p := ⟨b, o + B, none⟩) hbl).trans r1
        have k0 := (HB.out.cell (p := ⟨w.heap.size, 0, none⟩) lc).trans p0; have k1 := (HB.out.cell (p := ⟨w.heap.size, 1, none⟩) lc).trans p1; have k2 := (HB.out.cell (p := ⟨w.heap.size, 2, none⟩) lc).trans p2
        clear hz1 hci Ii M5 hbo
        go_wp2_with (fail)
        go_loopw [58] (fun c wr => ∃ j : Nat, j ≤ n ∧ c = .int .i64 j ∧ Mo wr w4.heap.size n (i + 1) (stA (Bx.ad f A B W) i j) ∧ wr.heap.size = w4.heap.size + 1 + (i + 1) ∧ Below w4.heap.size w4 wr) (fun c _ => n - (intOf c).toNat)
        case atStart => exact ⟨0, by omega, rfl, M1.out, HZ1.out, HB1.out⟩
        case round =>
          obtain ⟨j, hj, rfl, mo, hz2, hb⟩ := hrel
          have M2 := Lib.hid mo; have HB2 := Lib.hid hb
          have sz2 := hb.size
          have e1 := (hb.cell (p := ⟨b3, o3 + A, none⟩) hb3).trans (HCI.out A hA)
          have t0 := (hb.cell (p := ⟨b, o + B, none⟩) hbl).trans r1
          have t1 := (hb.cell (p := ⟨w.heap.size, 0, none⟩) lc).trans p0; have t2 := (hb.cell (p := ⟨w.heap.size, 1, none⟩) lc).trans p1; have t3 := (hb.cell (p := ⟨w.heap.size, 2, none⟩) lc).trans p2
          clear mo
          by_cases hlt2 : j < n
          · have e2 := (hb.cell (p := ⟨b3, o3 + j, none⟩) hb3).trans (HCI.out j hlt2)
            have e4 := (hb.cell (p := ⟨b2, o2 + j, none⟩) hb2).trans (HCB.out j hlt2)
            have d1 := M2.out.out (i := i) (by omega) hlt
            have d2 := M2.out.cell (i := i) (by omega) hlt2
            have d3 := M2.out.free (i := i) (by omega) j
            have bp := (HBm.out i A hlt hA).1; have bt := (HBm.out B j hB hlt2).1
            have SA := Lib.hid (fun (v : Int) (h : Bx.ad f A B W i j = v) => @stA_set (Bx.ad f A B W) i j v h)
            have AY := Lib.hid (fun (v : Int) => @ad_yes f A B i j W v); have AN := Lib.hid (@ad_none f A B i j W)
            have g5 : b < wr.heap.size := by omega
            have g6 : b2 < wr.heap.size := by omega
            have g7 : b3 < wr.heap.size := by omega
            have g8 : w.heap.size < wr.heap.size := by omega
            obtain ⟨P, eP⟩ : ∃ P, f i A = P := ⟨_, rfl⟩
            rw [eP] at e1 bp AY AN
            obtain ⟨T, eT⟩ : ∃ P, f B j = P := ⟨_, rfl⟩
            rw [eT] at e4 bt AY AN
            obtain ⟨Y, eY⟩ : ∃ P, f i j = P := ⟨_, rfl⟩
            rw [eY] at e2 AY AN
            obtain ⟨Z, eZ⟩ : ∃ P, stA (Bx.ad f A B W) i j i j = P := ⟨_, rfl⟩
            rw [eZ] at d2
            clear eP eT eY eZ hb
            by_cases hP : P = 4611686018427387904
            · have hP2 : (P != 4611686018427387904) = false := by simpa using hP
              have U := Lib.hid (SA.out _ (AN.out (.inl hP)))
              clear SA AY AN bp bt hP
              go_wp2_with (fail)
              go_roundw
              case rel => exact ⟨j + 1, by omega, by go_num, by rw [← U.out]; exact M2.out.set (by omega) j Y, by simp; omega, by have := HB2.out; (repeat (first | exact Below.refl _ _ | refine Below.drew ?_ | refine Hp.drewN ?_ _ | refine Below.setCell ?_ (by first | (simp; done) | (simp; omega) | omega) _ | refine Below.alloc ?_ (by first | (simp; done) | (simp; omega) | omega) _ | (refine Hp.step ?_ (by assumption))))⟩
              case measure => (simp [intOf] <;> omega)
            · have hP2 : (P != 4611686018427387904) = true := by simpa using hP
              by_cases hT : T = 4611686018427387904
              · have hT2 : (T != 4611686018427387904) = false := by simpa using hT
                have U := Lib.hid (SA.out _ (AN.out (.inr hT)))
                clear SA AY AN bp bt hP hT
                go_wp2_with (fail)
                go_roundw
                case rel => exact ⟨j + 1, by omega, by go_num, by rw [← U.out]; exact M2.out.set (by omega) j Y, by simp; omega, by have := HB2.out; (repeat (first | exact Below.refl _ _ | refine Below.drew ?_ | refine Hp.drewN ?_ _ | refine Below.setCell ?_ (by first | (simp; done) | (simp; omega) | omega) _ | refine Below.alloc ?_ (by first | (simp; done) | (simp; omega) | omega) _ | (refine Hp.step ?_ (by assumption))))⟩
                case measure => (simp [intOf] <;> omega)
              · have hT2 : (T != 4611686018427387904) = true := by simpa using hT
                obtain ⟨v, hv⟩ : ∃ v, (if P + W + T < Y then P + W + T else Y) = v := ⟨_, rfl⟩
                have HV := Lib.hid hv
                have U := Lib.hid (SA.out v (AY.out v hP hT hv))
                have s1 : -2305843009213693952 ≤ P := by omega
                have s2 : P ≤ 2305843009213693952 := by omega
                have s3 : -2305843009213693952 ≤ T := by omega
                have s4 : T ≤ 2305843009213693952 := by omega
                clear SA AY AN bp bt hP hT hv
                go_wp2_with (fail)
                go_quiet ((go_at_call 42; exact (lesser_at HV _).mono fun _ _ ⟨h1, h2⟩ => ⟨h1, _, h2⟩))
                go_wp2_with (fail)
                go_roundw
                case rel => exact ⟨j + 1, by omega, by go_num, by rw [← U.out]; first | exact (M2.out.drewN _).set (by omega) j v | exact (M2.out.set (by omega) j v).drewN _, by simp; omega, by have := HB2.out; (repeat (first | exact Below.refl _ _ | refine Below.drew ?_ | refine Hp.drewN ?_ _ | refine Below.setCell ?_ (by first | (simp; done) | (simp; omega) | omega) _ | refine Below.alloc ?_ (by first | (simp; done) | (simp; omega) | omega) _ | (refine Hp.step ?_ (by assumption))))⟩
                case measure => (simp [intOf] <;> omega)
          · obtain rfl : n = j := by omega
            clear hb
            go_wp2_with (fail)
            go_roundw
            case rel => exact ⟨i + 1, by omega, by go_num, M2.out.congr (fun i' j' h1 h2 => by
              unfold stA
              by_cases e : i' = i
              · rw [if_pos e, if_pos h2]
              · rw [if_neg e]), by omega, HB2.out⟩
            case measure => (simp [intOf] <;> omega)
      · obtain rfl : n = i := by omega
        clear M5
        go_wp2_with (fail)
        go_ret2
        exact .inr ⟨NC.out, _, rfl, MO.out, HB4.out.size, bl_next HB4.out HB.out⟩
end Go.Proofs.Ytieggiplbghecaa.BxW
