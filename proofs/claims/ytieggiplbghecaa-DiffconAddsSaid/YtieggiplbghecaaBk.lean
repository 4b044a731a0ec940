/- Contracts of layer 51: matrix. -/
import Derived.Test.YtieggiplbghecaaBj
import Derived.StillTailTactics
set_option linter.unusedVariables false
set_option linter.unusedSimpArgs false
namespace Go.Proofs.Ytieggiplbghecaa.BxW
open Go.RowKit Ls Orw Rv
/-- rows being filled: row i up to column j -/
def stM (z : Nat → Nat → Int) (i j i' j' : Nat) : Int := if i' = i then (if j' < j then 4611686018427387904 else 0) else Bx.M0 z 0 i' j'
theorem stM_set (z : Nat → Nat → Int) (i j : Nat) : updM (stM z i j) i j 4611686018427387904 = stM z i (j + 1) := by
  funext i' j'; unfold updM stM
  by_cases e : i' = i
  · by_cases e2 : j' = j
    · rw [if_pos ⟨e, e2⟩, if_pos e, if_pos (by omega)]
    · rw [if_neg (by omega), if_pos e, if_pos e]
      by_cases h : j' < j
      · rw [if_pos h, if_pos (by omega)]
      · rw [if_neg h, if_neg (by omega)]
  · rw [if_neg (by omega), if_neg e, if_neg e]
theorem stM_diag (z : Nat → Nat → Int) {n i i' j' : Nat} (hj : j' < n) : updM (stM z i n) i i 0 i' j' = Bx.M0 z 0 i' j' := by
  unfold updM stM
  by_cases e : i' = i
  · by_cases e2 : j' = i
    · rw [if_pos ⟨e, e2⟩]; simp only [Bx.M0]; rw [if_pos (by omega)]
    · rw [if_neg (by omega), if_pos e, if_pos hj]; simp only [Bx.M0]; rw [if_neg (by omega)]
  · rw [if_neg (by omega), if_neg e]
theorem M0_upd (z : Nat → Nat → Int) (c : Nat) {v : Int} (h : (if z c 2 < Bx.M0 z c (Bx.fr z c) (Bx.to z c) then z c 2 else Bx.M0 z c (Bx.fr z c) (Bx.to z c)) = v) : updM (Bx.M0 z c) (Bx.fr z c) (Bx.to z c) v = Bx.M0 z (c + 1) := by
  subst h
  funext i j; unfold updM
  simp only [Bx.M0]
  by_cases e : i = Bx.fr z c ∧ j = Bx.to z c
  · obtain ⟨rfl, rfl⟩ := e
    rw [if_pos ⟨rfl, rfl⟩]
    by_cases h : z c 2 < Bx.M0 z c (Bx.fr z c) (Bx.to z c)
    · rw [if_pos h, if_pos ⟨⟨rfl, rfl⟩, h⟩]
    · rw [if_neg h, if_neg (fun g => h g.2)]
  · rw [if_neg e, if_neg (fun g => e ⟨g.1.1.symm, g.1.2.symm⟩)]
theorem mid_upd (z : Nat → Nat → Int) (m k i j : Nat) {v : Int} (h : Bx.F z m (k + 1) i j = v) : updM (Bx.mid z m k i j) i j v = Bx.mid z m k i (j + 1) := by
  funext i' j'; rw [Bx.mid_next, h]; unfold updM; rfl
theorem mid_keep (z : Nat → Nat → Int) (m k i j : Nat) (h : Bx.F z m (k + 1) i j = Bx.F z m k i j) : Bx.mid z m k i (j + 1) = Bx.mid z m k i j := by
  funext i' j'; rw [Bx.mid_next]
  by_cases e : i' = i ∧ j' = j
  · rw [if_pos e, h, e.1, e.2, Bx.mid_at]
  · rw [if_neg e]
theorem F_less {z : Nat → Nat → Int} {m k i j : Nat} {v : Int} (h1 : Bx.F z m k i k ≠ 4611686018427387904) (h2 : Bx.F z m k k j ≠ 4611686018427387904) (h : (if Bx.F z m k i k + Bx.F z m k k j < Bx.F z m k i j then Bx.F z m k i k + Bx.F z m k k j else Bx.F z m k i j) = v) : Bx.F z m (k + 1) i j = v := by
  subst h; simp only [Bx.F]
  by_cases g : Bx.F z m k i k + Bx.F z m k k j < Bx.F z m k i j
  · rw [if_pos ⟨h1, h2, g⟩, if_pos g]
  · rw [if_neg (fun q => g q.2.2), if_neg g]
theorem F_none {z : Nat → Nat → Int} {m k i j : Nat} (h2 : Bx.F z m k i k = 4611686018427387904 ∨ Bx.F z m k k j = 4611686018427387904) : Bx.F z m (k + 1) i j = Bx.F z m k i j := by
  simp only [Bx.F]
  rw [if_neg]
  rintro ⟨q1, q2, _⟩
  rcases h2 with h2 | h2
  · exact q1 h2
  · exact q2 h2
theorem wrap_ok {a : Int} (h1 : -9223372036854775808 ≤ a) (h2 : a ≤ 9223372036854775807) : IntKind.i64.wrap a = a := by
  rw [IntKind.wrap_i64]; omega
theorem lesser_at {a b v : Int} (h : Hid ((if b < a then b else a) = v)) (w : World) : Calls Try.prog 42 #[.int .i64 a, .int .i64 b] w fun e w' => e = .returned (.int .i64 v) ∧ w' = w := by
  rw [← h.out]; exact (lesser_any a b w).mono fun _ _ ⟨h1, h2⟩ => ⟨h1, h2.symm⟩
set_option maxHeartbeats 16000000 in
set_option maxRecDepth 4000 in
theorem matrix_any (n : Nat) (a : Option Addr) (m cap : Nat) (z : Nat → Nat → Int) (y : Nat → Int) (V : Bx.Vs n m z) (hy : Bx.Pt m z y) (yl : ∀ i, i < n → -1441151880758558720 ≤ y i ∧ y i ≤ 0) (w : World) (S : Ss 3 w a m z) :
    Calls Try.prog 33 #[.int .i64 n, .slice a m cap] w fun e w' => e = .returned (.slice (some ⟨w.heap.size, 0, none⟩) n n) ∧ Mo w' w.heap.size n n (Bx.F z m n) ∧ Below w.heap.size w w' := by
  have n1 := V.n1; have n2 := V.n2; have m2 := V.m2
  have hV := Lib.hid V; have hS := Lib.hid S; have HY := Lib.hid hy; have YL := Lib.hid yl
  clear V S hy yl
  have hmk := fun W => make_run n _ rfl (by omega) W
  have hmo := fun W => make_outer n _ rfl (by omega) W
  have i1 : (1 : Int) ≤ (n : Int) := by omega
  have i2 : (n : Int) ≤ 160 := by omega
  go_enter Try.func33, Try.ntmps33
  go_wp2_with (fail)
  go_loopw [17] (fun c wr => ∃ i : Nat, i ≤ n ∧ c = .int .i64 i ∧ Mo wr w.heap.size n i (Bx.M0 z 0) ∧ wr.heap.size = w.heap.size + 1 + i ∧ Below w.heap.size w wr) (fun c _ => n - (intOf c).toNat)
  case atStart => exact ⟨0, by omega, rfl, Mo.made _ _ _, by simp, by (repeat (first | exact Below.refl _ _ | refine Below.drew ?_ | refine Hp.drewN ?_ _ | refine Below.setCell ?_ (by first | (simp; done) | (simp; omega) | omega) _ | refine Below.alloc ?_ (by first | (simp; done) | (simp; omega) | omega) _ | (refine Hp.step ?_ (by assumption))))⟩
  case round =>
    rename World => ws
    obtain ⟨i, hi, rfl, mo, hz, hb⟩ := hrel
    have MO := Lib.hid mo; have HB := Lib.hid hb
    have sz := hb.size
    clear mo hb
    by_cases hlt : i < n
    · have fr0 := (MO.out.alloc (.cells (row (fun _ => 0) n) 3)).ofree i
      have ce0 := Hp.blk_cell (o := i) (MO.out.alloc (.cells (row (fun _ => 0) n) 3)).o (outer_get _ hlt)
      unfold slot at ce0
      rw [if_neg (by omega)] at ce0
      have gB : w.heap.size < ws.heap.size := by omega
      have M1 := Lib.hid ((MO.out.congr (f' := stM z i 0) (fun i' j' h1 _ => by unfold stM; rw [if_neg (by omega)])).next hz (fun j => by unfold stM; simp))
      have HB1 : Hid (Below w.heap.size w ((ws.alloc (.cells (row (fun _ => 0) n) 3)).setCell ⟨w.heap.size, i, none⟩ (.slice (some ⟨w.heap.size + 1 + i, 0, none⟩) n n))) := Lib.hid (by have := HB.out; (repeat (first | exact Below.refl _ _ | refine Below.drew ?_ | refine Hp.drewN ?_ _ | refine Below.setCell ?_ (by first | (simp; done) | (simp; omega) | omega) _ | refine Below.alloc ?_ (by first | (simp; done) | (simp; omega) | omega) _ | (refine Hp.step ?_ (by assumption)))))
      have hz1 : ((ws.alloc (.cells (row (fun _ => 0) n) 3)).setCell ⟨w.heap.size, i, none⟩ (.slice (some ⟨w.heap.size + 1 + i, 0, none⟩) n n)).heap.size = w.heap.size + 1 + (i + 1) := by simp; omega
      have HZ1 := Lib.hid hz1
      clear hz1
      go_wp2_with (fail)
      go_loopw [30] (fun c wr => ∃ j : Nat, j ≤ n ∧ c = .int .i64 j ∧ Mo wr w.heap.size n (i + 1) (stM z i j) ∧ wr.heap.size = w.heap.size + 1 + (i + 1) ∧ Below w.heap.size w wr) (fun c _ => n - (intOf c).toNat)
      case atStart => exact ⟨0, by omega, rfl, M1.out, HZ1.out, HB1.out⟩
      case round =>
        obtain ⟨j, hj, rfl, mo, hz2, hb⟩ := hrel
        have M2 := Lib.hid mo; have HB2 := Lib.hid hb
        have sz2 := hb.size
        clear mo hb
        by_cases hlt2 : j < n
        · have d1 := M2.out.out (i := i) (by omega) hlt
          have d2 := M2.out.cell (i := i) (by omega) hlt2
          have d3 := M2.out.free (i := i) (by omega) j
          obtain ⟨X, eX⟩ : ∃ X, stM z i j i j = X := ⟨_, rfl⟩
          rw [eX] at d2
          clear eX
          go_wp2_with (fail)
          go_roundw
          case rel => exact ⟨j + 1, by omega, by go_num, by rw [← stM_set]; exact M2.out.set (by omega) j _, by simp; omega, by have := HB2.out; (repeat (first | exact Below.refl _ _ | refine Below.drew ?_ | refine Hp.drewN ?_ _ | refine Below.setCell ?_ (by first | (simp; done) | (simp; omega) | omega) _ | refine Below.alloc ?_ (by first | (simp; done) | (simp; omega) | omega) _ | (refine Hp.step ?_ (by assumption))))⟩
          case measure => simp [intOf]; omega
        · obtain rfl : n = j := by omega
          have d1 := M2.out.out (i := i) (by omega) hlt
          have d2 := M2.out.cell (i := i) (by omega) hlt
          have d3 := M2.out.free (i := i) (by omega) i
          obtain ⟨X, eX⟩ : ∃ X, stM z i n i i = X := ⟨_, rfl⟩
          rw [eX] at d2
          clear eX
          go_wp2_with (fail)
          go_roundw
          case rel => exact ⟨i + 1, by omega, by go_num, (M2.out.set (i := i) (by omega) i 0).congr (fun i' j' _ h2 => stM_diag z h2), by simp; omega, by have := HB2.out; (repeat (first | exact Below.refl _ _ | refine Below.drew ?_ | refine Hp.drewN ?_ _ | refine Below.setCell ?_ (by first | (simp; done) | (simp; omega) | omega) _ | refine Below.alloc ?_ (by first | (simp; done) | (simp; omega) | omega) _ | (refine Hp.step ?_ (by assumption))))⟩
          case measure => simp [intOf]; omega
    · obtain rfl : n = i := by omega
      have hgz : w.heap.size + n < ws.heap.size := by omega
      go_wp2_with (fail)
      go_loopw [49] (fun c wr => ∃ k : Nat, k ≤ m ∧ c = .int .i64 k ∧ Mo wr w.heap.size n n (Bx.M0 z k) ∧ Below w.heap.size w wr) (fun c _ => m - (intOf c).toNat)
      case atStart => exact ⟨0, by omega, rfl, MO.out, HB.out⟩
      case round =>
        obtain ⟨k, hk, rfl, mo, hb⟩ := hrel
        have M2 := Lib.hid mo; have HB2 := Lib.hid hb
        have sz2 := hb.size
        clear mo hb
        by_cases hlt3 : k < m
        · obtain ⟨b, o, rfl, hbl, c0, c1, c2⟩ := (hS.out.later HB2.out).elem3 hlt3
          have zo := hV.out.ok k hlt3
          have hp := hV.out.fr_lt hlt3; have hr := hV.out.to_lt hlt3
          have MU := Lib.hid (fun v => @M0_upd z k v)
          have l0 := M2.out.out hp hp
          have l1 := M2.out.cell hp hr
          have f1 := M2.out.free hp (Bx.to z k)
          have g0 := M2.out.lt; have g1 := M2.out.rlt hp
          obtain ⟨p, ep⟩ : ∃ p, Bx.fr z k = p := ⟨_, rfl⟩
          obtain ⟨r, er⟩ : ∃ r, Bx.to z k = r := ⟨_, rfl⟩
          have e0 : z k 0 = (p : Int) := by unfold Bx.fr at ep; omega
          have e1 : z k 1 = (r : Int) := by unfold Bx.to at er; omega
          rw [ep] at hp l0 l1 f1 g1 MU; rw [er] at hr l1 f1 MU
          rw [e0] at c0; rw [e1] at c1
          obtain ⟨W, eW⟩ : ∃ W, z k 2 = W := ⟨_, rfl⟩
          rw [eW] at c2 MU
          obtain ⟨X, eX⟩ : ∃ X, Bx.M0 z k p r = X := ⟨_, rfl⟩
          rw [eX] at l1 MU
          obtain ⟨v, hv⟩ : ∃ v, (if W < X then W else X) = v := ⟨_, rfl⟩
          have HV := Lib.hid hv
          have U := Lib.hid (MU.out v hv)
          clear ep er e0 e1 eW eX zo hv MU
          go_wp2_with (fail)
          refine wp_region_still_tail 20 (by kernel_rfl) (by kernel_rfl) ?_
          simp only [List.take_succ_cons, List.take_zero, List.drop_succ_cons, List.drop_zero]
          change wpStill _ _ (wr.alloc (.cells #[.int .i64 p, .int .i64 r, .int .i64 W] 40)).drew _ _ _
          repeat still_step
          still_call (lesser_at HV _)
          repeat still_step
          refine wpStill_nil ?_
          change wpList _ _ _ _ _ (World.drew (wr.alloc (.cells #[.int .i64 p, .int .i64 r, .int .i64 W] 40)))
          go_wp2_with (fail)
          go_roundw
          case rel => exact ⟨k + 1, by omega, by go_num, by rw [← U.out]; exact ((M2.out.set hp r v).alloc _).drew, by have := HB2.out; (repeat (first | exact Below.refl _ _ | refine Below.drew ?_ | refine Hp.drewN ?_ _ | refine Below.setCell ?_ (by first | (simp; done) | (simp; omega) | omega) _ | refine Below.alloc ?_ (by first | (simp; done) | (simp; omega) | omega) _ | (refine Hp.step ?_ (by assumption))))⟩
          case measure => simp [intOf]; omega
        · obtain rfl : m = k := by omega
          go_wp2_with (fail)
          go_loopw [75] (fun c wr => ∃ k : Nat, k ≤ n ∧ c = .int .i64 k ∧ Mo wr w.heap.size n n (Bx.F z m k) ∧ Below w.heap.size w wr) (fun c _ => n - (intOf c).toNat)
          case atStart => exact ⟨0, by omega, rfl, M2.out, HB2.out⟩
          case round =>
            obtain ⟨k, hk, rfl, mo, hb⟩ := hrel
            have M3 := Lib.hid mo; have HB3 := Lib.hid hb
            have sz3 := hb.size
            clear mo hb
            by_cases hlt4 : k < n
            · go_wp2_with (fail)
              go_loopw [79] (fun c wr => ∃ i : Nat, i ≤ n ∧ c = .int .i64 i ∧ Mo wr w.heap.size n n (Bx.mid z m k i 0) ∧ Below w.heap.size w wr) (fun c _ => n - (intOf c).toNat)
              case atStart => exact ⟨0, by omega, rfl, by rw [Bx.mid_start]; exact M3.out, HB3.out⟩
              case round =>
                obtain ⟨i, hi, rfl, mo, hb⟩ := hrel
                have M4 := Lib.hid mo; have HB4 := Lib.hid hb
                have sz4 := hb.size
                clear mo hb
                by_cases hlt5 : i < n
                · have d1 := M4.out.out hlt5 hlt5
                  have d2 := M4.out.cell hlt5 hlt4
                  rw [Bx.mid_col HY.out] at d2
                  have g0 := M4.out.lt; have g1 := M4.out.rlt hlt5
                  have bd := Bx.F_bd hV.out HY.out (k := k) (by omega) i k
                  have FN := Lib.hid (fun j h => @F_none z m k i j (.inl h))
                  have FL := Lib.hid (fun j v => @F_less z m k i j v)
                  have MS := Lib.hid (fun h i' j' => @Bx.mid_skip n z m k i h i' j')
                  obtain ⟨P, eP⟩ : ∃ P, Bx.F z m k i k = P := ⟨_, rfl⟩
                  rw [eP] at d2 FL MS FN bd
                  have HP := Lib.hid eP
                  clear eP
                  by_cases hP : P = 4611686018427387904
                  · have MS2 := Lib.hid (MS.out hP)
                    clear MS FL FN bd
                    subst hP
                    go_wp2_with (fail)
                    go_roundw
                    case rel => exact ⟨i + 1, by omega, by go_num, M4.out.congr fun i' j' _ _ => (MS2.out i' j').symm, HB4.out⟩
                    case measure => simp [intOf]; omega
                  · have hP2 : (P == 4611686018427387904) = false := by simpa using hP
                    have yb := HY.out
                    have b1 : P ≤ 1459166279268040704 := by omega
                    go_wp2_with (fail)
                    go_loopw [91] (fun c wr => ∃ j : Nat, j ≤ n ∧ c = .int .i64 j ∧ Mo wr w.heap.size n n (Bx.mid z m k i j) ∧ Below w.heap.size w wr) (fun c _ => n - (intOf c).toNat)
                    case atStart => exact ⟨0, by omega, rfl, M4.out, HB4.out⟩
                    case round =>
                      obtain ⟨j, hj, rfl, mo, hb⟩ := hrel
                      have M5 := Lib.hid mo; have HB5 := Lib.hid hb
                      have sz5 := hb.size
                      clear mo hb
                      by_cases hlt6 : j < n
                      · have e1 := M5.out.out hlt5 hlt5
                        have e2 := M5.out.out hlt4 hlt4
                        have e3 := M5.out.cell hlt5 hlt4
                        rw [Bx.mid_col HY.out, HP.out] at e3
                        have e4 := M5.out.cell hlt4 hlt6
                        rw [Bx.mid_row HY.out] at e4
                        have e5 := M5.out.cell hlt5 hlt6
                        rw [Bx.mid_at] at e5
                        have e6 := M5.out.free hlt5 j
                        have g2 := M5.out.lt; have g3 := M5.out.rlt hlt5; have g4 := M5.out.rlt hlt4
                        have bq := Bx.F_bd hV.out HY.out (k := k) (by omega) k j
                        have lo1 := Bx.F_lo HY.out k i k; have lo2 := Bx.F_lo HY.out k k j
                        have KP := Lib.hid (mid_keep z m k i j); have UP := Lib.hid (fun v => @mid_upd z m k i j v)
                        have FN1 := Lib.hid (fun h => @F_none z m k i j (.inr h))
                        have FL1 := Lib.hid (FL.out j)
                        obtain ⟨T, eT⟩ : ∃ T, Bx.F z m k k j = T := ⟨_, rfl⟩
                        rw [eT] at e4 bq FL1 FN1 lo2
                        obtain ⟨X, eX⟩ : ∃ X, Bx.F z m k i j = X := ⟨_, rfl⟩
                        rw [eX] at e5 FL1 FN1 KP
                        clear eT eX
                        by_cases hT : T = 4611686018427387904
                        · have KP2 := Lib.hid (KP.out (FN1.out hT))
                          clear FN1 FL1 UP KP lo1 lo2 bq
                          subst hT
                          go_wp2_with (fail)
                          go_roundw
                          case rel => exact ⟨j + 1, by omega, by go_num, by rw [KP2.out]; exact M5.out, HB5.out⟩
                          case measure => simp [intOf]; omega
                        · have hT2 : (T != 4611686018427387904) = true := by simpa using hT
                          obtain ⟨v, hv⟩ : ∃ v, (if P + T < X then P + T else X) = v := ⟨_, rfl⟩
                          have HV := Lib.hid hv
                          have U := Lib.hid (UP.out v (FL1.out v hP hT hv))
                          have s1 : -9223372036854775808 ≤ P + T := by
                            rw [HP.out] at lo1
                            have := lo1 hP; have := lo2 hT
                            have := YL.out i hlt5; have := YL.out j hlt6
                            omega
                          have s2 : P + T ≤ 9223372036854775807 := by omega
                          clear FN1 FL1 UP KP lo1 lo2 bq hv
                          go_wp2_with (fail)
                          refine wp_region_still_tail 29 (by kernel_rfl) (by kernel_rfl) ?_
                          simp only [List.take_succ_cons, List.take_zero, List.drop_succ_cons, List.drop_zero]
                          change wpStill _ _ wr.drew _ _ _
                          iterate 27 still_step
                          rw [show IntKind.i64.wrap (P + T) = P + T from wrap_ok s1 s2]
                          still_call (lesser_at HV _)
                          repeat still_step
                          refine wpStill_nil ?_
                          change wpList _ _ _ _ _ (World.drew wr)
                          go_wp2_with (fail)
                          go_roundw
                          case rel => exact ⟨j + 1, by omega, by go_num, by rw [← U.out]; exact (M5.out.set hlt5 j v).drew, by have := HB5.out; (repeat (first | exact Below.refl _ _ | refine Below.drew ?_ | refine Hp.drewN ?_ _ | refine Below.setCell ?_ (by first | (simp; done) | (simp; omega) | omega) _ | refine Below.alloc ?_ (by first | (simp; done) | (simp; omega) | omega) _ | (refine Hp.step ?_ (by assumption))))⟩
                          case measure => simp [intOf]; omega
                      · obtain rfl : n = j := by omega
                        go_wp2_with (fail)
                        go_roundw
                        case rel => exact ⟨i + 1, by omega, by go_num, M5.out.congr fun i' j' _ h2 => Bx.mid_rowend z m k i h2, HB5.out⟩
                        case measure => simp [intOf]; omega
                · obtain rfl : n = i := by omega
                  go_wp2_with (fail)
                  go_roundw
                  case rel => exact ⟨k + 1, by omega, by go_num, M4.out.congr fun i' j' h1 _ => Bx.mid_end z m k h1 j', HB4.out⟩
                  case measure => simp [intOf]; omega
            · obtain rfl : n = k := by omega
              go_wp2_with (fail)
              go_ret
              exact ⟨rfl, M3.out, HB3.out⟩
end Go.Proofs.Ytieggiplbghecaa.BxW
