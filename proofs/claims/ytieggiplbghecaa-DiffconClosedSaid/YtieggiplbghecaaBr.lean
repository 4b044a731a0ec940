/- The law DiffconClosed of layer 51. -/
import Derived.Test.YtieggiplbghecaaBq
set_option linter.unusedVariables false
set_option linter.unusedSimpArgs false
namespace Go.Proofs.Ytieggiplbghecaa.BxW
open Go.RowKit Ls Orw Rv Rw
set_option maxHeartbeats 4000000 in
/-- what ends each law that does not ask of the system: too many constraints, or a system that is not valid -/
theorem closed_no (n : Int) (a : Option Addr) (m cap : Nat) (z : Nat → Nat → Int) (w : World) (S : Ss 3 w a m z) {r : Int} (hr : Hid (Bx.chk n m z = r)) (h : 4100 < m ∨ (m ≤ 4100 ∧ (r != 0) = true)) :
    Calls Try.prog 6 #[.int .i64 n, .slice a m cap] w fun e w' => e = .returned (.bool true) ∧ Below w.heap.size w w' := by
  have hS := Lib.hid S
  clear S
  rcases h with h | ⟨h, h2⟩
  · have d : decide (4100 < m) = true := decide_eq_true h
    have L := Lib.hid (fun w => d ▸ long_any a m cap w)
    clear d
    go_enter Try.func6, Try.ntmps6
    go_wp2_with (fail)
    refine (L.out _).mono ?_
    rintro en w1 ⟨rfl, rfl⟩
    go_wp2_with (fail)
    refine (awake51_any _).mono ?_
    rintro en w3 ⟨rfl, B3⟩
    have HB3 := Lib.hid B3
    clear B3
    go_wp2_with (fail)
    go_ret
    exact ⟨rfl, HB3.out⟩
  · have d : decide (4100 < m) = false := decide_eq_false (by omega)
    have L := Lib.hid (fun w => d ▸ long_any a m cap w)
    clear d
    go_enter Try.func6, Try.ntmps6
    go_wp2_with (fail)
    refine (L.out _).mono ?_
    rintro en w1 ⟨rfl, rfl⟩
    go_wp2_with (fail)
    refine (check_at hS.out hr).mono ?_
    rintro en w1 ⟨rfl, B1⟩
    have HB1 := Lib.hid B1
    clear B1
    go_wp2_with (fail)
    refine (awake51_any _).mono ?_
    rintro en w3 ⟨rfl, B3⟩
    have HB3 := Lib.hid (bl_next HB1.out B3)
    clear B3
    go_wp2_with (fail)
    go_ret
    exact ⟨rfl, HB3.out⟩
set_option maxHeartbeats 16000000 in
set_option maxRecDepth 4000 in
theorem closed_yes (n : Nat) (a : Option Addr) (m cap : Nat) (z : Nat → Nat → Int) (w : World) (S : Ss 3 w a m z) (V : Bx.Vs n m z) :
    Calls Try.prog 6 #[.int .i64 n, .slice a m cap] w fun e w' => e = .returned (.bool true) ∧ Below w.heap.size w w' := by
  have n1 := V.n1; have n2 := V.n2; have m2 := V.m2
  have hS := Lib.hid S; have hV := Lib.hid V
  have d : decide (4100 < m) = false := decide_eq_false (by omega)
  have L := Lib.hid (fun w => d ▸ long_any a m cap w)
  clear S V d
  go_enter Try.func6, Try.ntmps6
  go_wp2_with (fail)
  refine (L.out _).mono ?_
  rintro en w1 ⟨rfl, rfl⟩
  go_wp2_with (fail)
  refine (check_at hS.out (Lib.hid (chk_vs hV.out))).mono ?_
  rintro en w1 ⟨rfl, B1⟩
  have HB1 := Lib.hid B1; have S1 := Lib.hid (hS.out.later B1)
  clear B1
  go_wp2_with (fail)
  by_cases hs : Bx.St n z m (n - 1)
  · refine (bounds_ok n a m cap z hV.out hs _ S1.out).mono ?_
    rintro en w2 ⟨g, rfl, M, hg, B2⟩
    have HM := Lib.hid M; have HB2 := Lib.hid (bl_next HB1.out B2); have S2 := Lib.hid (S1.out.later B2)
    have hy := Bx.pt_of hV.out hs
    have FS := Lib.hid (fun i => Bx.F_self hy n i)
    have FT := Lib.hid (fun a i j h1 h2 => Bx.F_tri hV.out hy a i j h1 h2)
    have ylo := bf_lo hV.out
    have FB := Lib.hid (fun (i j : Nat) (hi : i < n) (hj : j < n) => show Bx.F z m n i j = 4611686018427387904 ∨ (-1441151880758558720 ≤ Bx.F z m n i j ∧ Bx.F z m n i j ≤ 1459166279268040704) by
      have := Bx.F_bd hV.out hy n2 (k := n) i j; have := ylo i hi; have := ylo j hj; omega)
    have gl := M.lt
    clear M B2 hs hy ylo
    go_wp2_with (fail)
    go_loopw [49] (fun c wr => ∃ k : Nat, k ≤ n ∧ c = .int .i64 k ∧ Below w2.heap.size w2 wr) (fun c _ => n - (intOf c).toNat)
    case atStart => exact ⟨0, by omega, rfl, Below.refl _ _⟩
    case round =>
      obtain ⟨k, hk, rfl, hb⟩ := hrel
      have HB3 := Lib.hid hb; have M3 := Lib.hid (HM.out.later hb)
      clear hb
      by_cases hlt : k < n
      · have e1 := M3.out.out hlt hlt
        have e2 := M3.out.cell hlt hlt
        rw [FS.out] at e2
        go_wp2_with (fail)
        go_roundw
        case rel => exact ⟨k + 1, by omega, by go_num, HB3.out⟩
        case measure => (simp [intOf] <;> omega)
      · obtain rfl : n = k := by omega
        go_wp2_with (fail)
        go_loopw [68] (fun c wr => ∃ k : Nat, k ≤ m ∧ c = .int .i64 k ∧ Below w2.heap.size w2 wr) (fun c _ => m - (intOf c).toNat)
        case atStart => exact ⟨0, by omega, rfl, HB3.out⟩
        case round =>
          obtain ⟨k, hk, rfl, hb⟩ := hrel
          have HB4 := Lib.hid hb; have M4 := Lib.hid (HM.out.later hb)
          have sz4 := hb.size
          clear hb
          by_cases hlt3 : k < m
          · obtain ⟨b, o, rfl, hbl, c0, c1, c2⟩ := (S2.out.later HB4.out).elem3 hlt3
            have zo := hV.out.ok k hlt3
            have hp := hV.out.fr_lt hlt3; have hr := hV.out.to_lt hlt3
            have fe := (Bx.F_edge hV.out hlt3 n).1
            have l0 := M4.out.out hp hp
            have l1 := M4.out.cell hp hr
            have g0 := M4.out.lt; have g1 := M4.out.rlt hp
            obtain ⟨p, ep⟩ : ∃ p, Bx.fr z k = p := ⟨_, rfl⟩
            obtain ⟨r, er⟩ : ∃ r, Bx.to z k = r := ⟨_, rfl⟩
            have e0 : z k 0 = (p : Int) := by unfold Bx.fr at ep; omega
            have e1 : z k 1 = (r : Int) := by unfold Bx.to at er; omega
            rw [ep] at hp l0 l1 g1 fe; rw [er] at hr l1 fe
            rw [e0] at c0; rw [e1] at c1
            obtain ⟨W, eW⟩ : ∃ W, z k 2 = W := ⟨_, rfl⟩
            rw [eW] at c2 fe
            obtain ⟨X, eX⟩ : ∃ X, Bx.F z m n p r = X := ⟨_, rfl⟩
            rw [eX] at l1 fe
            have nb : ¬ W < X := by omega
            clear ep er e0 e1 eW eX zo fe
            go_wp2_with (fail)
            go_quiet (fail)
            go_wp2_with (fail)
            go_roundw
            case rel => exact ⟨k + 1, by omega, by go_num, by have := HB4.out; (repeat (first | exact Below.refl _ _ | refine Below.drew ?_ | refine Hp.drewN ?_ _ | refine Below.setCell ?_ (by first | (simp; done) | (simp; omega) | omega) _ | refine Below.alloc ?_ (by first | (simp; done) | (simp; omega) | omega) _ | (refine Hp.step ?_ (by assumption))))⟩
            case measure => (simp [intOf] <;> omega)
          · obtain rfl : m = k := by omega
            go_wp2_with (fail)
            go_loopw [87] (fun c wr => ∃ k : Nat, k ≤ n ∧ c = .int .i64 k ∧ Below w2.heap.size w2 wr) (fun c _ => n - (intOf c).toNat)
            case atStart => exact ⟨0, by omega, rfl, HB4.out⟩
            case round =>
              obtain ⟨i, hi, rfl, hb⟩ := hrel
              have HB5 := Lib.hid hb; have M5 := Lib.hid (HM.out.later hb)
              clear hb
              by_cases hlti : i < n
              · have e1 := M5.out.out hlti hlti
                go_wp2_with (fail)
                go_loopw [93] (fun c wr => ∃ k : Nat, k ≤ n ∧ c = .int .i64 k ∧ Below w2.heap.size w2 wr) (fun c _ => n - (intOf c).toNat)
                case atStart => exact ⟨0, by omega, rfl, HB5.out⟩
                case round =>
                  obtain ⟨k, hk, rfl, hb⟩ := hrel
                  have HB6 := Lib.hid hb; have M6 := Lib.hid (HM.out.later hb)
                  clear hb
                  by_cases hltk : k < n
                  · have e2 := M6.out.out hltk hltk
                    go_wp2_with (fail)
                    go_loopw [101] (fun c wr => ∃ k : Nat, k ≤ n ∧ c = .int .i64 k ∧ Below w2.heap.size w2 wr) (fun c _ => n - (intOf c).toNat)
                    case atStart => exact ⟨0, by omega, rfl, HB6.out⟩
                    case round =>
                      obtain ⟨j, hj, rfl, hb⟩ := hrel
                      have HB7 := Lib.hid hb; have M7 := Lib.hid (HM.out.later hb)
                      clear hb
                      by_cases hltj : j < n
                      · have f1 := M7.out.cell hlti hltk
                        have f2 := M7.out.cell hltk hltj
                        have f3 := M7.out.cell hlti hltj
                        have b1 := FB.out i k hlti hltk; have b2 := FB.out k j hltk hltj; have b3 := FB.out i j hlti hltj
                        have tr := FT.out k i j
                        have g7 := M7.out.rlt hlti; have g8 := M7.out.rlt hltk
                        obtain ⟨P, eP⟩ : ∃ X, Bx.F z m n i k = X := ⟨_, rfl⟩
                        obtain ⟨X, eX⟩ : ∃ X, Bx.F z m n k j = X := ⟨_, rfl⟩
                        obtain ⟨Y, eY⟩ : ∃ X, Bx.F z m n i j = X := ⟨_, rfl⟩
                        rw [eP] at f1 b1 tr; rw [eX] at f2 b2 tr; rw [eY] at f3 b3 tr
                        clear eP eX eY
                        by_cases hP : P = 4611686018427387904
                        · have hP2 : (P != 4611686018427387904) = false := by simpa using hP
                          clear b1 b2 b3 tr hP
                          go_wp2_with (fail)
                          go_quiet (fail)
                          go_wp2_with (fail)
                          go_roundw
                          case rel => exact ⟨j + 1, by omega, by go_num, Hp.drewN HB7.out _⟩
                          case measure => (simp [intOf] <;> omega)
                        · have hP2 : (P != 4611686018427387904) = true := by simpa using hP
                          by_cases hX : X = 4611686018427387904
                          · have hX2 : (X != 4611686018427387904) = false := by simpa using hX
                            clear b1 b2 b3 tr hP hX
                            go_wp2_with (fail)
                            go_quiet (fail)
                            go_wp2_with (fail)
                            go_roundw
                            case rel => exact ⟨j + 1, by omega, by go_num, Hp.drewN HB7.out _⟩
                            case measure => (simp [intOf] <;> omega)
                          · have hX2 : (X != 4611686018427387904) = true := by simpa using hX
                            have t2 := tr hP hX
                            have nt : ¬ P + X < Y := by omega
                            have p1 : -1441151880758558720 ≤ P := by omega
                            have p2 : P ≤ 1459166279268040704 := by omega
                            have x1 : -1441151880758558720 ≤ X := by omega
                            have x2 : X ≤ 1459166279268040704 := by omega
                            clear b1 b2 b3 tr hP hX t2
                            go_wp2_with (fail)
                            go_quiet (fail)
                            go_wp2_with (fail)
                            go_roundw
                            case rel => exact ⟨j + 1, by omega, by go_num, Hp.drewN HB7.out _⟩
                            case measure => (simp [intOf] <;> omega)
                      · obtain rfl : n = j := by omega
                        go_wp2_with (fail)
                        go_roundw
                        case rel => exact ⟨k + 1, by omega, by go_num, HB7.out⟩
                        case measure => (simp [intOf] <;> omega)
                  · obtain rfl : n = k := by omega
                    go_wp2_with (fail)
                    go_roundw
                    case rel => exact ⟨i + 1, by omega, by go_num, HB6.out⟩
                    case measure => (simp [intOf] <;> omega)
              · obtain rfl : n = i := by omega
                go_wp2_with (fail)
                refine (awake51_any _).mono ?_
                rintro en w9 ⟨rfl, B9⟩
                have HB9 := Lib.hid (bl_next (bl_next HB2.out HB5.out) B9)
                clear B9
                go_wp2_with (fail)
                go_ret
                exact ⟨rfl, HB9.out⟩
  · refine (bounds_cyc n a m cap z hV.out hs _ S1.out).mono ?_
    rintro en w2 ⟨rfl, B2⟩
    have HB2 := Lib.hid (bl_next HB1.out B2)
    clear B2
    go_wp2_with (fail)
    refine (awake51_any _).mono ?_
    rintro en w3 ⟨rfl, B3⟩
    have HB3 := Lib.hid (bl_next HB2.out B3)
    clear B3
    go_wp2_with (fail)
    go_ret
    exact ⟨rfl, HB3.out⟩
theorem law_DiffconClosed (n : Int) (a : Option Addr) (m cap : Nat) (z : Nat → Nat → Int) (w : World) (S : In.IsStructs [.i64, .i64, .i64] w a m cap z) :
    Calls Try.prog 6 #[.int .i64 n, .slice a m cap] w fun e w' => e = .returned (.bool true) ∧ Below w.heap.size w w' := by
  by_cases h : 4100 < m
  · exact closed_no n a m cap z w (ss_of S) (Lib.hid rfl) (.inl h)
  · by_cases hc : Bx.chk n m z = 0
    · obtain ⟨n1, n2, V⟩ := Bx.vs_of hc
      obtain ⟨k, rfl⟩ := Int.eq_ofNat_of_zero_le (show 0 ≤ n by omega)
      exact closed_yes k a m cap z w (ss_of S) (by simpa using V)
    · exact closed_no n a m cap z w (ss_of S) (Lib.hid rfl) (.inr ⟨by omega, by simpa using hc⟩)
end Go.Proofs.Ytieggiplbghecaa.BxW
