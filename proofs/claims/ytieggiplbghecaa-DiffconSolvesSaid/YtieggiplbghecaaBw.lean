/- Contracts of layer 51: the reference's Tight. -/
import Derived.Test.YtieggiplbghecaaBv
set_option linter.unusedVariables false
set_option linter.unusedSimpArgs false
namespace Go.Proofs.Ytieggiplbghecaa.BxW
open Go.RowKit Ls Orw Rv Rw
set_option maxHeartbeats 4000000 in
set_option maxRecDepth 4000 in
theorem rtight_bad (n : Int) (a : Option Addr) (m cap : Nat) (z : Nat → Nat → Int) {r : Int} (hc : Hid (Bx.chk n m z = r)) (hr : (r != 0) = true) (i j : Int) (w : World) (S : Ss 3 w a m z) :
    Calls Try.prog 21 #[.int .i64 n, .slice a m cap, .int .i64 i, .int .i64 j] w (ErrPost r w) := by
  have hS := Lib.hid S
  clear S
  go_enter Try.func21, Try.ntmps21
  go_wp2_with (fail)
  refine (rcheck_at hS.out hc).mono ?_
  rintro en w1 ⟨rfl, B1⟩
  have HB := Lib.hid B1
  clear B1
  go_wp2_with (fail)
  go_ret2
  exact ⟨rfl, HB.out⟩
set_option maxHeartbeats 4000000 in
set_option maxRecDepth 4000 in
theorem rtight_range (n : Nat) (a : Option Addr) (m cap : Nat) (z : Nat → Nat → Int) (V : Bx.Vs n m z) (i j : Int) (h : i < 0 ∨ (0 ≤ i ∧ (n : Int) ≤ i) ∨ (0 ≤ i ∧ i < (n : Int) ∧ j < 0) ∨ (0 ≤ i ∧ i < (n : Int) ∧ 0 ≤ j ∧ (n : Int) ≤ j)) (w : World) (S : Ss 3 w a m z) :
    Calls Try.prog 21 #[.int .i64 n, .slice a m cap, .int .i64 i, .int .i64 j] w (ErrPost 3 w) := by
  have hS := Lib.hid S; have hV := Lib.hid V
  clear S V
  rcases h with h | ⟨h, h2⟩ | ⟨h, h2, h3⟩ | ⟨h, h2, h3, h4⟩
  all_goals
    go_enter Try.func21, Try.ntmps21
    go_wp2_with (fail)
    refine (rcheck_at hS.out (Lib.hid (chk_vs hV.out))).mono ?_
    rintro en w1 ⟨rfl, B1⟩
    have HB := Lib.hid B1
    clear B1
    go_wp2_with (fail)
    go_ret2
    exact ⟨rfl, HB.out⟩
/-- what the reference's Tight returns -/
def RtPost (n m : Nat) (z : Nat → Nat → Int) (i j : Nat) (w : World) (e : Ending) (w' : World) : Prop :=
  (¬ Bx.St n z m (n - 1) ∧ ErrPost 20 w e w') ∨ (Bx.St n z m (n - 1) ∧ Bx.F z m n i j = 4611686018427387904 ∧ ErrPost 11 w e w') ∨
  (Bx.St n z m (n - 1) ∧ Bx.F z m n i j ≠ 4611686018427387904 ∧ OwnPost n (Bx.tx z m (Bx.F z m n i) (Bx.bf z m (n - 1))) w e w')
theorem tk_max {z : Nat → Nat → Int} {b y : Nat → Int} {c : Nat} (h1 : b (Bx.fr z c) = 4611686018427387904) (h2 : b (Bx.to z c) ≠ 4611686018427387904) :
    (Bx.tk z b y c < b (Bx.to z c) - y (Bx.fr z c) - z c 2 → Bx.tk z b y (c + 1) = b (Bx.to z c) - y (Bx.fr z c) - z c 2) ∧ (¬ Bx.tk z b y c < b (Bx.to z c) - y (Bx.fr z c) - z c 2 → Bx.tk z b y (c + 1) = Bx.tk z b y c) := by
  rw [tk_yes h1 h2]; omega
/-- the first v numbers of a tight solution -/
def txR (z : Nat → Nat → Int) (m : Nat) (b y : Nat → Int) (j i : Nat) : Int := if i < j then Bx.tx z m b y i else 0
theorem txR_set {z : Nat → Nat → Int} {m : Nat} {b y : Nat → Int} {j : Nat} {v : Int} (h : Bx.tx z m b y j = v) : upd (txR z m b y j) j v = txR z m b y (j + 1) := by
  funext i; unfold upd txR
  by_cases e : i = j
  · rw [if_pos e, if_pos (by omega), e, h]
  · rw [if_neg e]
    by_cases h2 : i < j
    · rw [if_pos h2, if_pos (by omega)]
    · rw [if_neg h2, if_neg (by omega)]
theorem upd_upd (f : Nat → Int) (j : Nat) (a b : Int) : upd (upd f j a) j b = upd f j b := by
  funext i; unfold upd
  by_cases e : i = j
  · rw [if_pos e, if_pos e]
  · rw [if_neg e, if_neg e, if_neg e]
set_option maxHeartbeats 16000000 in
set_option maxRecDepth 4000 in
theorem rtight_any (n : Nat) (a : Option Addr) (m cap : Nat) (z : Nat → Nat → Int) (V : Bx.Vs n m z) (i j : Nat) (hi : i < n) (hj : j < n) (w : World) (S : Ss 3 w a m z) :
    Calls Try.prog 21 #[.int .i64 n, .slice a m cap, .int .i64 i, .int .i64 j] w (RtPost n m z i j w) := by
  have n1 := V.n1; have n2 := V.n2; have m2 := V.m2
  have hS := Lib.hid S; have hV := Lib.hid V
  clear S V
  have hmk := fun W => make_run n _ rfl (by omega) W
  have q1 : ¬ (i : Int) < 0 := by omega
  have q2 : ¬ (n : Int) ≤ (i : Int) := by omega
  have q3 : ¬ (j : Int) < 0 := by omega
  have q4 : ¬ (n : Int) ≤ (j : Int) := by omega
  go_enter Try.func21, Try.ntmps21
  go_wp2_with (fail)
  refine (rcheck_at hS.out (Lib.hid (chk_vs hV.out))).mono ?_
  rintro en w1 ⟨rfl, B1⟩
  have HB1 := Lib.hid B1; have S1 := Lib.hid (hS.out.later B1)
  clear B1
  go_wp2_with (fail)
  refine (rbounds_two n a m cap z hV.out _ S1.out).mono ?_
  rintro en w2 (⟨st, g, rfl, M, hg, B2⟩ | ⟨st, rfl, B2⟩)
  rotate_left
  · have HB2 := Lib.hid (bl_next HB1.out B2); have ST := Lib.hid st
    clear B2 st
    go_wp2_with (fail)
    go_ret2
    exact .inl ⟨ST.out, rfl, HB2.out⟩
  have HB2 := Lib.hid (bl_next HB1.out B2); have S2 := Lib.hid (S1.out.later B2); have ST := Lib.hid st; have HM := Lib.hid M
  have e1 := M.out hi hi
  have e2 := M.cell hi hj
  have g1 := M.rlt hi; have g0 := M.lt
  obtain ⟨X, hX⟩ : ∃ X, Bx.F z m n i j = X := ⟨_, rfl⟩
  have HX := Lib.hid hX
  rw [hX] at e2
  clear B2 st M hX
  by_cases hN : X = 4611686018427387904
  · subst hN
    go_wp2_with (fail)
    go_ret2
    exact .inr (.inl ⟨ST.out, HX.out, rfl, HB2.out⟩)
  have hX2 : (X == 4611686018427387904) = false := by simpa using hN
  have HN := Lib.hid hN
  clear hN
  go_wp2_with (fail)
  refine (rsolve_two n a m cap z hV.out _ S2.out).mono ?_
  rintro en w3 (⟨_, gy, cy, rfl, OY, B3⟩ | ⟨hn, _⟩)
  rotate_left
  · exact absurd ST.out hn
  have HB3 := Lib.hid (bl_next HB2.out B3); have S3 := Lib.hid (S2.out.later B3); have M3 := Lib.hid (HM.out.later B3); have HO := Lib.hid OY
  clear B3 OY e1 e2 g0 g1
  obtain ⟨b, hb⟩ : ∃ b, Bx.F z m n i = b := ⟨_, rfl⟩
  have HBb := Lib.hid hb
  have bbd := fun v => Bx.F_bd hV.out (Bx.pt_of hV.out ST.out) n2 (k := n) i v
  have ylo := bf_lo hV.out
  have hyb : ∀ v, -1441151880758558720 ≤ Bx.bf z m (n - 1) v := fun v => by
    have := Bx.bf_bd hV.out (n - 1) v; omega
  obtain ⟨y, hy⟩ : ∃ y, Bx.bf z m (n - 1) = y := ⟨_, rfl⟩
  have HYy := Lib.hid hy
  rw [hb] at bbd; rw [hy] at bbd HO ylo hyb
  have bq : ∀ v, v < n → b v = 4611686018427387904 ∨ (-1441151880758558720 ≤ b v ∧ b v ≤ 1459166279268040704) := fun v hv => by
    have := bbd v; have := ylo i hi; have := ylo v hv; omega
  have tkb := fun c hc => Bx.tk_bd (b := b) (y := y) hV.out (fun v => by have := bbd v; omega) hyb c hc
  have BQ := Lib.hid bq; have TK := Lib.hid tkb; have YL := Lib.hid ylo
  clear hb hy bbd bq tkb ylo hyb
  go_wp2_with (fail)
  go_loopw [15, 14] (fun c d wr => ∃ k : Nat, k ≤ m ∧ c = .int .i64 k ∧ d = .int .i64 (Bx.tk z b y k) ∧ Below w3.heap.size w3 wr) (fun c _ _ => m - (intOf c).toNat)
  case atStart => exact ⟨0, by omega, rfl, rfl, Below.refl _ _⟩
  case round =>
    obtain ⟨k, hk, rfl, rfl, hb⟩ := hrel
    have HB5 := Lib.hid hb
    have sz5 := hb.size
    have M5 := Lib.hid (M3.out.later hb); have OO := Lib.hid (HO.out.later hb)
    have r1 := M5.out.out hi hi
    have g0 := M5.out.lt; have g1 := M5.out.rlt hi; have g4 := OO.out.lt
    clear hb
    by_cases hlt : k < m
    · obtain ⟨b', o, rfl, hbl, c0, c1, c2⟩ := (S3.out.later HB5.out).elem3 hlt
      have zo := hV.out.ok k hlt
      have hp := hV.out.fr_lt hlt; have hr := hV.out.to_lt hlt
      have TM := Lib.hid (@tk_max z b y k); have TN := Lib.hid (@tk_no z b y k)
      have tb := TK.out k (by omega)
      have bp := BQ.out _ hp; have br := BQ.out _ hr; have yp := YL.out _ hp
      have l0 := M5.out.cell hi hp; have l1 := M5.out.cell hi hr; have l2 := OO.out.cell hp
      rw [HBb.out] at l0 l1
      obtain ⟨p, ep⟩ : ∃ p, Bx.fr z k = p := ⟨_, rfl⟩
      obtain ⟨r, er⟩ : ∃ r, Bx.to z k = r := ⟨_, rfl⟩
      have e0 : z k 0 = (p : Int) := by unfold Bx.fr at ep; omega
      have e1 : z k 1 = (r : Int) := by unfold Bx.to at er; omega
      rw [ep] at hp l0 l2 bp yp TM TN; rw [er] at hr l1 br TM TN
      rw [e0] at c0; rw [e1] at c1
      obtain ⟨W, eW⟩ : ∃ W, z k 2 = W := ⟨_, rfl⟩
      obtain ⟨P, eP⟩ : ∃ P, b p = P := ⟨_, rfl⟩
      obtain ⟨R, eR⟩ : ∃ P, b r = P := ⟨_, rfl⟩
      obtain ⟨Y, eY⟩ : ∃ P, y p = P := ⟨_, rfl⟩
      obtain ⟨T, eT⟩ : ∃ P, Bx.tk z b y k = P := ⟨_, rfl⟩
      rw [eW] at c2 zo TM; rw [eP] at l0 bp TM TN; rw [eR] at l1 br TM TN; rw [eY] at l2 yp TM; rw [eT] at tb TM TN
      rw [eT]
      have w1' := zo.2.2.2.2.1; have w2' := zo.2.2.2.2.2
      have y1 := yp.1; have y2 := yp.2; have t1 := tb.1; have t2 := tb.2
      clear ep er e0 e1 eW eP eR eY eT zo yp tb
      by_cases h1 : P = 4611686018427387904
      · have h1' : (P == 4611686018427387904) = true := by simpa using h1
        by_cases h2 : R = 4611686018427387904
        · have h2' : (R != 4611686018427387904) = false := by simpa using h2
          have N := Lib.hid (TN.out (fun g => g.2 h2))
          clear TM TN bp br h1 h2
          go_wp2_with (fail)
          go_quiet (fail)
          go_wp2_with (fail)
          go_roundw
          case rel => exact ⟨k + 1, by omega, by go_num, by rw [N.out], by have := HB5.out; (repeat (first | exact Below.refl _ _ | refine Below.drew ?_ | refine Hp.drewN ?_ _ | refine Below.setCell ?_ (by first | (simp; done) | (simp; omega) | omega) _ | refine Below.alloc ?_ (by first | (simp; done) | (simp; omega) | omega) _ | (refine Hp.step ?_ (by assumption))))⟩
          case measure => (simp [intOf] <;> omega)
        · have N := Lib.hid (TM.out h1 h2)
          have h2' : (R != 4611686018427387904) = true := by simpa using h2
          have r1' : -1441151880758558720 ≤ R := by omega
          have r2' : R ≤ 1459166279268040704 := by omega
          clear TM TN bp br h2 h1
          by_cases hc : T < R - Y - W
          · have N2 := Lib.hid (N.out.1 hc)
            go_wp2_with (fail)
            go_quiet (fail)
            go_wp2_with (fail)
            go_quiet (fail)
            go_wp2_with (fail)
            go_roundw
            case rel => exact ⟨k + 1, by omega, by go_num, by rw [N2.out], by have := HB5.out; (repeat (first | exact Below.refl _ _ | refine Below.drew ?_ | refine Hp.drewN ?_ _ | refine Below.setCell ?_ (by first | (simp; done) | (simp; omega) | omega) _ | refine Below.alloc ?_ (by first | (simp; done) | (simp; omega) | omega) _ | (refine Hp.step ?_ (by assumption))))⟩
            case measure => (simp [intOf] <;> omega)
          · have N2 := Lib.hid (N.out.2 hc)
            go_wp2_with (fail)
            go_quiet (fail)
            go_wp2_with (fail)
            go_roundw
            case rel => exact ⟨k + 1, by omega, by go_num, by rw [N2.out], by have := HB5.out; (repeat (first | exact Below.refl _ _ | refine Below.drew ?_ | refine Hp.drewN ?_ _ | refine Below.setCell ?_ (by first | (simp; done) | (simp; omega) | omega) _ | refine Below.alloc ?_ (by first | (simp; done) | (simp; omega) | omega) _ | (refine Hp.step ?_ (by assumption))))⟩
            case measure => (simp [intOf] <;> omega)
      · have h1' : (P == 4611686018427387904) = false := by simpa using h1
        have N := Lib.hid (TN.out (fun g => h1 g.1))
        clear TM TN bp br h1
        go_wp2_with (fail)
        go_quiet (fail)
        go_wp2_with (fail)
        go_roundw
        case rel => exact ⟨k + 1, by omega, by go_num, by rw [N.out], by have := HB5.out; (repeat (first | exact Below.refl _ _ | refine Below.drew ?_ | refine Hp.drewN ?_ _ | refine Below.setCell ?_ (by first | (simp; done) | (simp; omega) | omega) _ | refine Below.alloc ?_ (by first | (simp; done) | (simp; omega) | omega) _ | (refine Hp.step ?_ (by assumption))))⟩
        case measure => (simp [intOf] <;> omega)
    · obtain rfl : m = k := by omega
      rename World => ws
      obtain ⟨T, eT⟩ : ∃ P, Bx.tk z b y m = P := ⟨_, rfl⟩
      have HT := Lib.hid eT
      have tb := TK.out m (by omega)
      rw [eT] at tb
      rw [eT]
      have t1 := tb.1; have t2 := tb.2
      have NB := Lib.hid (Ob.made ws n)
      clear eT tb r1
      go_wp2_with (fail)
      go_loopw [18] (fun c wr => ∃ v : Nat, v ≤ n ∧ c = .int .i64 v ∧ Ob wr ws.heap.size n (txR z m b y v) ∧ Below ws.heap.size ws wr) (fun c _ => n - (intOf c).toNat)
      case atStart => exact ⟨0, by omega, rfl, NB.out.congr (fun i _ => by unfold txR; rw [if_neg (by omega)]), by (repeat (first | exact Below.refl _ _ | refine Below.drew ?_ | refine Hp.drewN ?_ _ | refine Below.setCell ?_ (by first | (simp; done) | (simp; omega) | omega) _ | refine Below.alloc ?_ (by first | (simp; done) | (simp; omega) | omega) _ | (refine Hp.step ?_ (by assumption))))⟩
      case round =>
        obtain ⟨v, hv, rfl, o, hb⟩ := hrel
        have O7 := Lib.hid o; have HB7 := Lib.hid hb
        have sz7 := hb.size
        have OO7 := Lib.hid (OO.out.later hb); have M7 := Lib.hid (M5.out.later hb)
        have g7 := o.lt
        clear o hb
        by_cases hlt2 : v < n
        · have r1 := M7.out.out hi hi
          have c1 := M7.out.cell hi hlt2
          rw [HBb.out] at c1
          have c2 := OO7.out.cell hlt2
          have c3 := O7.out.cell hlt2
          have cf := O7.out.free v
          have g8 : w.heap.size ≤ w.heap.size := Nat.le_refl _
          have ge : g ≠ ws.heap.size := by omega
          have ge1 : g + 1 + i ≠ ws.heap.size := by omega
          have gye : gy ≠ ws.heap.size := by omega
          have bv := BQ.out v hlt2; have yv := YL.out v hlt2
          have TS := Lib.hid (fun (u : Int) (h : Bx.tx z m b y v = u) => @txR_set z m b y v u h)
          have tx : Bx.tx z m b y v = if b v = 4611686018427387904 then y v + T else b v := by unfold Bx.tx; rw [HT.out]
          obtain ⟨P, eP⟩ : ∃ P, b v = P := ⟨_, rfl⟩
          obtain ⟨Y, eY⟩ : ∃ P, y v = P := ⟨_, rfl⟩
          obtain ⟨Z, eZ⟩ : ∃ P, txR z m b y v v = P := ⟨_, rfl⟩
          rw [eP] at c1 bv tx; rw [eY] at c2 yv tx; rw [eZ] at c3
          have y1 := yv.1; have y2 := yv.2
          have TX := Lib.hid tx
          clear eP eY eZ tx yv
          by_cases h1 : P = 4611686018427387904
          · have U := Lib.hid (TS.out _ (TX.out.trans (if_pos h1)))
            clear TS bv
            subst h1
            go_wp2_with (fail)
            go_roundw
            case rel => exact ⟨v + 1, by omega, by go_num, by rw [← U.out, ← upd_upd _ v 4611686018427387904]; first | exact (O7.out.set v _).set v _ | (rw [upd_upd]; exact O7.out.set v _), by have := HB7.out; (repeat (first | exact Below.refl _ _ | refine Below.drew ?_ | refine Hp.drewN ?_ _ | refine Below.setCell ?_ (by first | (simp; done) | (simp; omega) | omega) _ | refine Below.alloc ?_ (by first | (simp; done) | (simp; omega) | omega) _ | (refine Hp.step ?_ (by assumption))))⟩
            case measure => (simp [intOf] <;> omega)
          · have U := Lib.hid (TS.out _ (TX.out.trans (if_neg h1)))
            have h1' : (P == 4611686018427387904) = false := by simpa using h1
            clear TS bv h1
            go_wp2_with (fail)
            go_roundw
            case rel => exact ⟨v + 1, by omega, by go_num, by rw [← U.out]; exact O7.out.set v _, by have := HB7.out; (repeat (first | exact Below.refl _ _ | refine Below.drew ?_ | refine Hp.drewN ?_ _ | refine Below.setCell ?_ (by first | (simp; done) | (simp; omega) | omega) _ | refine Below.alloc ?_ (by first | (simp; done) | (simp; omega) | omega) _ | (refine Hp.step ?_ (by assumption))))⟩
            case measure => (simp [intOf] <;> omega)
        · obtain rfl : n = v := by omega
          go_wp2_with (fail)
          go_ret2
          refine .inr (.inr ⟨ST.out, by rw [HX.out]; exact HN.out, _, rfl, O7.out.congr (fun u hu => by unfold txR; rw [if_pos hu, HBb.out, HYy.out]), ?_, ?_⟩)
          · have := HB3.out.size; have := HB5.out.size; omega
          · exact bl_next (bl_next HB3.out HB5.out) HB7.out
end Go.Proofs.Ytieggiplbghecaa.BxW
