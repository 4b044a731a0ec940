/- Contracts of layer 51: the reference's Bounds. -/
import Derived.Test.YtieggiplbghecaaBs
set_option linter.unusedVariables false
set_option linter.unusedSimpArgs false
namespace Go.Proofs.Ytieggiplbghecaa.BxW
open Go.RowKit Ls Orw Rv Rw
theorem F_yes {z : Nat → Nat → Int} {m k i j : Nat} (h1 : Bx.F z m k i k ≠ 4611686018427387904) (h2 : Bx.F z m k k j ≠ 4611686018427387904) (h : Bx.F z m k i k + Bx.F z m k k j < Bx.F z m k i j) : Bx.F z m (k + 1) i j = Bx.F z m k i k + Bx.F z m k k j := by
  simp only [Bx.F]; rw [if_pos ⟨h1, h2, h⟩]
theorem F_not {z : Nat → Nat → Int} {m k i j : Nat} (h : ¬ Bx.F z m k i k + Bx.F z m k k j < Bx.F z m k i j) : Bx.F z m (k + 1) i j = Bx.F z m k i j := by
  simp only [Bx.F]; rw [if_neg fun g => h g.2.2]
theorem M0_no (z : Nat → Nat → Int) (c : Nat) (h : ¬ z c 2 < Bx.M0 z c (Bx.fr z c) (Bx.to z c)) : Bx.M0 z (c + 1) = Bx.M0 z c := by
  funext i j; simp only [Bx.M0]; rw [if_neg]
  rintro ⟨⟨rfl, rfl⟩, g⟩; exact h g
set_option maxHeartbeats 4000000 in
set_option maxRecDepth 4000 in
theorem rbounds_bad (n : Int) (a : Option Addr) (m cap : Nat) (z : Nat → Nat → Int) {r : Int} (hc : Hid (Bx.chk n m z = r)) (hr : (r != 0) = true) (w : World) (S : Ss 3 w a m z) :
    Calls Try.prog 14 #[.int .i64 n, .slice a m cap] w (ErrPost r w) := by
  have hS := Lib.hid S
  clear S
  go_enter Try.func14, Try.ntmps14
  go_wp2_with (fail)
  refine (rsolve_bad n a m cap z hc hr _ hS.out).mono ?_
  rintro en w1 ⟨rfl, B1⟩
  have HB := Lib.hid B1
  clear B1
  go_wp2_with (fail)
  go_ret2
  exact ⟨rfl, HB.out⟩
set_option maxHeartbeats 16000000 in
set_option maxRecDepth 4000 in
theorem rbounds_two (n : Nat) (a : Option Addr) (m cap : Nat) (z : Nat → Nat → Int) (V : Bx.Vs n m z) (w : World) (S : Ss 3 w a m z) :
    Calls Try.prog 14 #[.int .i64 n, .slice a m cap] w fun e w' => (Bx.St n z m (n - 1) ∧ MatPost n (Bx.F z m n) w e w') ∨ (¬ Bx.St n z m (n - 1) ∧ ErrPost 20 w e w') := by
  have n1 := V.n1; have n2 := V.n2; have m2 := V.m2
  have hS := Lib.hid S; have hV := Lib.hid V
  clear S V
  have hmk := fun W => make_run n _ rfl (by omega) W
  have hmo := fun W => make_outer n _ rfl (by omega) W
  have i1 : (1 : Int) ≤ (n : Int) := by omega
  have i2 : (n : Int) ≤ 160 := by omega
  go_enter Try.func14, Try.ntmps14
  go_wp2_with (fail)
  refine (rsolve_two n a m cap z hV.out _ hS.out).mono ?_
  rintro en w1 (⟨st, g0, c0, rfl, _, B1⟩ | ⟨st, rfl, B1⟩)
  rotate_left
  · have HB := Lib.hid B1; have ST := Lib.hid st
    clear B1 st
    go_wp2_with (fail)
    go_ret2
    exact .inr ⟨ST.out, rfl, HB.out⟩
  have HW := Lib.hid B1; have S1 := Lib.hid (hS.out.later B1); have ST := Lib.hid st
  have HY := Lib.hid (Bx.pt_of hV.out st); have YL := Lib.hid (bf_lo hV.out)
  clear B1 st
  go_wp2_with (fail)
  go_loopw [9] (fun c wr => ∃ i : Nat, i ≤ n ∧ c = .int .i64 i ∧ Mo wr w1.heap.size n i (Bx.M0 z 0) ∧ wr.heap.size = w1.heap.size + 1 + i ∧ Below w1.heap.size w1 wr) (fun c _ => n - (intOf c).toNat)
  case atStart => exact ⟨0, by omega, rfl, Mo.made _ _ _, by simp, by (repeat (first | exact Below.refl _ _ | refine Below.drew ?_ | refine Hp.drewN ?_ _ | refine Below.setCell ?_ (by first | (simp; done) | (simp; omega) | omega) _ | refine Below.alloc ?_ (by first | (simp; done) | (simp; omega) | omega) _ | (refine Hp.step ?_ (by assumption))))⟩
  case round =>
    rename World => ws
    obtain ⟨i, hi, rfl, mo, hz, hb⟩ := hrel
    have MO := Lib.hid mo; have HB := Lib.hid hb
    have sz := hb.size
    clear mo hb
    by_cases hlt : i < n
    · have fr0 := (MO.out.alloc (.cells (row (fun _ => 0) n) 3)).ofree i
      have ce0 := Hp.blk_cell (o := i) (MO.out.alloc (.cells (row (fun _ => 0) n) 3)).o (outer_get _ hlt)
      unfold slot at ce0
      rw [if_neg (by omega)] at ce0
      have gB : w1.heap.size < ws.heap.size := by omega
      have M1 := Lib.hid ((MO.out.congr (f' := stM z i 0) (fun i' j' h1 _ => by unfold stM; rw [if_neg (by omega)])).next hz (fun j => by unfold stM; simp))
      have HB1 : Hid (Below w1.heap.size w1 ((ws.alloc (.cells (row (fun _ => 0) n) 3)).setCell ⟨w1.heap.size, i, none⟩ (.slice (some ⟨w1.heap.size + 1 + i, 0, none⟩) n n))) := Lib.hid (by have := HB.out; (repeat (first | exact Below.refl _ _ | refine Below.drew ?_ | refine Hp.drewN ?_ _ | refine Below.setCell ?_ (by first | (simp; done) | (simp; omega) | omega) _ | refine Below.alloc ?_ (by first | (simp; done) | (simp; omega) | omega) _ | (refine Hp.step ?_ (by assumption)))))
      have hz1 : ((ws.alloc (.cells (row (fun _ => 0) n) 3)).setCell ⟨w1.heap.size, i, none⟩ (.slice (some ⟨w1.heap.size + 1 + i, 0, none⟩) n n)).heap.size = w1.heap.size + 1 + (i + 1) := by simp; omega
      have HZ1 := Lib.hid hz1
      clear hz1
      go_wp2_with (fail)
      go_loopw [10] (fun c wr => ∃ j : Nat, j ≤ n ∧ c = .int .i64 j ∧ Mo wr w1.heap.size n (i + 1) (stM z i j) ∧ wr.heap.size = w1.heap.size + 1 + (i + 1) ∧ Below w1.heap.size w1 wr) (fun c _ => n - (intOf c).toNat)
      case atStart => exact ⟨0, by omega, rfl, M1.out, HZ1.out, HB1.out⟩
      case round =>
        obtain ⟨j, hj, rfl, mo, hz2, hb⟩ := hrel
        have M2 := Lib.hid mo; have HB2 := Lib.hid hb
        have sz2 := hb.size
        clear mo hb
        by_cases hlt2 : j < n
        · have d1 := M2.out.out (i := i) (by omega) hlt
          have d2 := M2.out.cell (i := i) (by omega) hlt2
          have d3 := M2.out.free (i := i) (by omega) j
          obtain ⟨X, eX⟩ : ∃ X, stM z i j i j = X := ⟨_, rfl⟩
          rw [eX] at d2
          clear eX
          go_wp2_with (fail)
          go_roundw
          case rel => exact ⟨j + 1, by omega, by go_num, by rw [← stM_set]; exact M2.out.set (by omega) j _, by simp; omega, by have := HB2.out; (repeat (first | exact Below.refl _ _ | refine Below.drew ?_ | refine Hp.drewN ?_ _ | refine Below.setCell ?_ (by first | (simp; done) | (simp; omega) | omega) _ | refine Below.alloc ?_ (by first | (simp; done) | (simp; omega) | omega) _ | (refine Hp.step ?_ (by assumption))))⟩
          case measure => (simp [intOf] <;> omega)
        · obtain rfl : n = j := by omega
          have d1 := M2.out.out (i := i) (by omega) hlt
          have d2 := M2.out.cell (i := i) (by omega) hlt
          have d3 := M2.out.free (i := i) (by omega) i
          obtain ⟨X, eX⟩ : ∃ X, stM z i n i i = X := ⟨_, rfl⟩
          rw [eX] at d2
          clear eX
          go_wp2_with (fail)
          go_roundw
          case rel => exact ⟨i + 1, by omega, by go_num, (M2.out.set (i := i) (by omega) i 0).congr (fun i' j' _ h2 => stM_diag z h2), by simp; omega, by have := HB2.out; (repeat (first | exact Below.refl _ _ | refine Below.drew ?_ | refine Hp.drewN ?_ _ | refine Below.setCell ?_ (by first | (simp; done) | (simp; omega) | omega) _ | refine Below.alloc ?_ (by first | (simp; done) | (simp; omega) | omega) _ | (refine Hp.step ?_ (by assumption))))⟩
          case measure => (simp [intOf] <;> omega)
    · obtain rfl : n = i := by omega
      have hgz : w1.heap.size + n < ws.heap.size := by omega
      go_wp2_with (fail)
      go_loopw [11] (fun c wr => ∃ k : Nat, k ≤ m ∧ c = .int .i64 k ∧ Mo wr w1.heap.size n n (Bx.M0 z k) ∧ Below w1.heap.size w1 wr) (fun c _ => m - (intOf c).toNat)
      case atStart => exact ⟨0, by omega, rfl, MO.out, HB.out⟩
      case round =>
        obtain ⟨k, hk, rfl, mo, hb⟩ := hrel
        have M2 := Lib.hid mo; have HB2 := Lib.hid hb
        have sz2 := hb.size
        clear mo hb
        by_cases hlt3 : k < m
        · obtain ⟨b, o, rfl, hbl, c0, c1, c2⟩ := (S1.out.later HB2.out).elem3 hlt3
          have zo := hV.out.ok k hlt3
          have hp := hV.out.fr_lt hlt3; have hr := hV.out.to_lt hlt3
          have MU := Lib.hid (fun v => @M0_upd z k v); have MN := Lib.hid (M0_no z k)
          have l0 := M2.out.out hp hp
          have l1 := M2.out.cell hp hr
          have f1 := M2.out.free hp (Bx.to z k)
          have g0 := M2.out.lt; have g1 := M2.out.rlt hp
          obtain ⟨p, ep⟩ : ∃ p, Bx.fr z k = p := ⟨_, rfl⟩
          obtain ⟨r, er⟩ : ∃ r, Bx.to z k = r := ⟨_, rfl⟩
          have e0 : z k 0 = (p : Int) := by unfold Bx.fr at ep; omega
          have e1 : z k 1 = (r : Int) := by unfold Bx.to at er; omega
          rw [ep] at hp l0 l1 f1 g1 MU MN; rw [er] at hr l1 f1 MU MN
          rw [e0] at c0; rw [e1] at c1
          obtain ⟨W, eW⟩ : ∃ W, z k 2 = W := ⟨_, rfl⟩
          rw [eW] at c2 MU MN
          obtain ⟨X, eX⟩ : ∃ X, Bx.M0 z k p r = X := ⟨_, rfl⟩
          rw [eX] at l1 MU MN
          clear ep er e0 e1 eW eX zo
          by_cases hc : W < X
          · have U := Lib.hid (MU.out W (if_pos hc))
            clear MU MN
            go_wp2_with (fail)
            go_quiet (fail)
            go_wp2_with (fail)
            go_region
            all_goals go_wp2_with (fail)
            all_goals go_roundw
            case rel => exact ⟨k + 1, by omega, by go_num, by rw [← U.out]; first | exact ((M2.out.set hp r W).alloc _).drewN _ | exact ((M2.out.alloc _).drewN _).set hp r W, by have := HB2.out; (repeat (first | exact Below.refl _ _ | refine Below.drew ?_ | refine Hp.drewN ?_ _ | refine Below.setCell ?_ (by first | (simp; done) | (simp; omega) | omega) _ | refine Below.alloc ?_ (by first | (simp; done) | (simp; omega) | omega) _ | (refine Hp.step ?_ (by assumption))))⟩
            case measure => (simp [intOf] <;> omega)
          · have U := Lib.hid (MN.out hc)
            clear MU MN
            go_wp2_with (fail)
            go_quiet (fail)
            go_wp2_with (fail)
            go_roundw
            case rel => exact ⟨k + 1, by omega, by go_num, by rw [U.out]; exact (M2.out.alloc _).drewN _, by have := HB2.out; (repeat (first | exact Below.refl _ _ | refine Below.drew ?_ | refine Hp.drewN ?_ _ | refine Below.setCell ?_ (by first | (simp; done) | (simp; omega) | omega) _ | refine Below.alloc ?_ (by first | (simp; done) | (simp; omega) | omega) _ | (refine Hp.step ?_ (by assumption))))⟩
            case measure => (simp [intOf] <;> omega)
        · obtain rfl : m = k := by omega
          go_wp2_with (fail)
          go_loopw [13] (fun c wr => ∃ k : Nat, k ≤ n ∧ c = .int .i64 k ∧ Mo wr w1.heap.size n n (Bx.F z m k) ∧ Below w1.heap.size w1 wr) (fun c _ => n - (intOf c).toNat)
          case atStart => exact ⟨0, by omega, rfl, M2.out, HB2.out⟩
          case round =>
            obtain ⟨k, hk, rfl, mo, hb⟩ := hrel
            have M3 := Lib.hid mo; have HB3 := Lib.hid hb
            have sz3 := hb.size
            clear mo hb
            by_cases hlt4 : k < n
            · go_wp2_with (fail)
              go_loopw [14] (fun c wr => ∃ i : Nat, i ≤ n ∧ c = .int .i64 i ∧ Mo wr w1.heap.size n n (Bx.mid z m k i 0) ∧ Below w1.heap.size w1 wr) (fun c _ => n - (intOf c).toNat)
              case atStart => exact ⟨0, by omega, rfl, by rw [Bx.mid_start]; exact M3.out, HB3.out⟩
              case round =>
                obtain ⟨i, hi, rfl, mo, hb⟩ := hrel
                have M4 := Lib.hid mo; have HB4 := Lib.hid hb
                have sz4 := hb.size
                clear mo hb
                by_cases hlt5 : i < n
                · go_wp2_with (fail)
                  go_loopw [15] (fun c wr => ∃ j : Nat, j ≤ n ∧ c = .int .i64 j ∧ Mo wr w1.heap.size n n (Bx.mid z m k i j) ∧ Below w1.heap.size w1 wr) (fun c _ => n - (intOf c).toNat)
                  case atStart => exact ⟨0, by omega, rfl, M4.out, HB4.out⟩
                  case round =>
                    obtain ⟨j, hj, rfl, mo, hb⟩ := hrel
                    have M5 := Lib.hid mo; have HB5 := Lib.hid hb
                    have sz5 := hb.size
                    clear mo hb
                    by_cases hlt6 : j < n
                    · have e1 := M5.out.out hlt5 hlt5
                      have e2 := M5.out.out hlt4 hlt4
                      have e3 := M5.out.cell hlt5 hlt4
                      rw [Bx.mid_col HY.out] at e3
                      have e4 := M5.out.cell hlt4 hlt6
                      rw [Bx.mid_row HY.out] at e4
                      have e5 := M5.out.cell hlt5 hlt6
                      rw [Bx.mid_at] at e5
                      have e6 := M5.out.free hlt5 j
                      have g2 := M5.out.lt; have g3 := M5.out.rlt hlt5; have g4 := M5.out.rlt hlt4
                      have bd := Bx.F_bd hV.out HY.out (k := k) (by omega) i k
                      have bq := Bx.F_bd hV.out HY.out (k := k) (by omega) k j
                      have KP := Lib.hid (mid_keep z m k i j); have UP := Lib.hid (fun v => @mid_upd z m k i j v)
                      have FN0 := Lib.hid (fun h => @F_none z m k i j (.inl h))
                      have FN1 := Lib.hid (fun h => @F_none z m k i j (.inr h))
                      have FY := Lib.hid (@F_yes z m k i j); have FX := Lib.hid (@F_not z m k i j)
                      have y1 := YL.out i hlt5; have y2 := YL.out j hlt6; have y3 := YL.out k hlt4
                      obtain ⟨P, eP⟩ : ∃ P, Bx.F z m k i k = P := ⟨_, rfl⟩
                      rw [eP] at e3 bd FN0 FY FX
                      obtain ⟨T, eT⟩ : ∃ T, Bx.F z m k k j = T := ⟨_, rfl⟩
                      rw [eT] at e4 bq FN1 FY FX
                      obtain ⟨X, eX⟩ : ∃ X, Bx.F z m k i j = X := ⟨_, rfl⟩
                      rw [eX] at e5 FN0 FN1 FY FX KP
                      clear eT eX eP
                      by_cases hP : P = 4611686018427387904
                      · have hP2 : (P != 4611686018427387904) = false := by simpa using hP
                        have KP2 := Lib.hid (KP.out (FN0.out hP))
                        clear FN0 FN1 FY FX UP KP bd bq hP y1 y2 y3
                        go_wp2_with (fail)
                        go_quiet (fail)
                        go_wp2_with (fail)
                        go_roundw
                        case rel => exact ⟨j + 1, by omega, by go_num, by rw [KP2.out]; exact M5.out.drewN _, Hp.drewN HB5.out _⟩
                        case measure => (simp [intOf] <;> omega)
                      · have hP2 : (P != 4611686018427387904) = true := by simpa using hP
                        by_cases hT : T = 4611686018427387904
                        · have hT2 : (T != 4611686018427387904) = false := by simpa using hT
                          have KP2 := Lib.hid (KP.out (FN1.out hT))
                          clear FN0 FN1 FY FX UP KP bd bq hP hT y1 y2 y3
                          go_wp2_with (fail)
                          go_quiet (fail)
                          go_wp2_with (fail)
                          go_roundw
                          case rel => exact ⟨j + 1, by omega, by go_num, by rw [KP2.out]; exact M5.out.drewN _, Hp.drewN HB5.out _⟩
                          case measure => (simp [intOf] <;> omega)
                        · have hT2 : (T != 4611686018427387904) = true := by simpa using hT
                          have s1 : -9223372036854775808 ≤ P + T := by omega
                          have s2 : P + T ≤ 9223372036854775807 := by omega
                          by_cases hc : P + T < X
                          · have U := Lib.hid (UP.out _ (FY.out hP hT hc))
                            clear FN0 FN1 FY FX UP KP bd bq hP hT y1 y2 y3
                            go_wp2_with (fail)
                            go_quiet (fail)
                            go_wp2_with (fail)
                            refine wp_region_still_tail 21 (by kernel_rfl) (by kernel_rfl) ?_
                            simp only [List.take_succ_cons, List.take_zero, List.drop_succ_cons, List.drop_zero]
                            change wpStill _ _ (World.drew _) _ _ _
                            repeat still_step
                            refine wpStill_nil ?_
                            rw [show IntKind.i64.wrap (P + T) = P + T from wrap_ok s1 s2]
                            change wpList _ _ _ _ _ (World.drew _)
                            go_wp2_with (fail)
                            go_roundw
                            case rel => exact ⟨j + 1, by omega, by go_num, by rw [← U.out]; first | exact ((M5.out.drewN _).drew).set hlt5 j _ | exact ((M5.out.drewN _).set hlt5 j _).drew | exact (M5.out.set hlt5 j _).drewN _, by have := HB5.out; (repeat (first | exact Below.refl _ _ | refine Below.drew ?_ | refine Hp.drewN ?_ _ | refine Below.setCell ?_ (by first | (simp; done) | (simp; omega) | omega) _ | refine Below.alloc ?_ (by first | (simp; done) | (simp; omega) | omega) _ | (refine Hp.step ?_ (by assumption))))⟩
                            case measure => (simp [intOf] <;> omega)
                          · have KP2 := Lib.hid (KP.out (FX.out hc))
                            clear FN0 FN1 FY FX UP KP bd bq hP hT y1 y2 y3
                            go_wp2_with (fail)
                            go_quiet (fail)
                            go_wp2_with (fail)
                            go_roundw
                            case rel => exact ⟨j + 1, by omega, by go_num, by rw [KP2.out]; exact M5.out.drewN _, Hp.drewN HB5.out _⟩
                            case measure => (simp [intOf] <;> omega)
                    · obtain rfl : n = j := by omega
                      go_wp2_with (fail)
                      go_roundw
                      case rel => exact ⟨i + 1, by omega, by go_num, M5.out.congr fun i' j' _ h2 => Bx.mid_rowend z m k i h2, HB5.out⟩
                      case measure => (simp [intOf] <;> omega)
                · obtain rfl : n = i := by omega
                  go_wp2_with (fail)
                  go_roundw
                  case rel => exact ⟨k + 1, by omega, by go_num, M4.out.congr fun i' j' h1 _ => Bx.mid_end z m k h1 j', HB4.out⟩
                  case measure => (simp [intOf] <;> omega)
            · obtain rfl : n = k := by omega
              go_wp2_with (fail)
              go_ret2
              exact .inl ⟨ST.out, _, rfl, M3.out, HW.out.size, bl_next HW.out HB3.out⟩
end Go.Proofs.Ytieggiplbghecaa.BxW
