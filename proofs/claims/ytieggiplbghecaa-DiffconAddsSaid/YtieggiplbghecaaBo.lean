/- Contracts of layer 51: same; Tight (with a solution). -/
import Derived.Test.YtieggiplbghecaaBl
import Derived.Test.YtieggiplbghecaaLe
set_option linter.unusedVariables false
set_option linter.unusedSimpArgs false
namespace Go.Proofs.Ytieggiplbghecaa.BxW
open Go.RowKit Ls Orw Rv
set_option maxHeartbeats 4000000 in
theorem eqf_same {a b : Option Addr} {n ca cb : Nat} {f : Nat → Nat → Int} (w : World) (h1 : Mr w a n f) (h2 : Mr w b n f) (hl : n ≤ 9223372036854775807) :
    Calls Try.prog 36 #[.slice a n ca, .slice b n cb, .func (.func 22) #[] #[]] w fun e w' => e = .returned (.bool true) ∧ ∃ q, w' = w.drewN q := by
  have H1 := Lib.hid h1; have H2 := Lib.hid h2
  clear h1 h2
  go_enter Try.func36, Try.ntmps36
  go_wp2_with (fail)
  go_loopw [17] (fun c wr => ∃ k : Nat, k ≤ n ∧ c = .int .i64 k ∧ ∃ q, wr = w.drewN q) (fun c _ => n - (intOf c).toNat)
  case atStart => exact ⟨0, by omega, rfl, 0, rfl⟩
  case round =>
    obtain ⟨k, hk, rfl, q, rfl⟩ := hrel
    by_cases hlt : k < n
    · obtain ⟨b1, o1, A1, C1, rfl, _, r1, I1⟩ := H1.out.row hlt
      obtain ⟨b2, o2, A2, C2, rfl, _, r2, I2⟩ := H2.out.row hlt
      have HI1 := Lib.hid (I1.drewN q); have HI2 := Lib.hid (I2.drewN q)
      clear I1 I2
      go_wp2_with (fail)
      refine (equal_same _ HI1.out HI2.out hl).mono ?_
      rintro en w' ⟨rfl, q2, rfl⟩
      go_wp2_with (fail)
      go_roundw
      case rel => exact ⟨k + 1, by omega, by go_num, q + q2, by simp [World.drewN_drewN]⟩
      case measure => (simp [intOf] <;> omega)
    · obtain rfl : n = k := by omega
      go_wp2_with (fail)
      go_ret
      exact ⟨rfl, q, rfl⟩
theorem same_eq {a b : Option Addr} {n ca cb : Nat} {f : Nat → Nat → Int} (w : World) (h1 : Mr w a n f) (h2 : Mr w b n f) (hl : n ≤ 9223372036854775807) :
    Calls Try.prog 17 #[.slice a n ca, .slice b n cb] w fun e w' => e = .returned (.bool true) ∧ ∃ q, w' = w.drewN q := by
  have H1 := Lib.hid h1; have H2 := Lib.hid h2
  clear h1 h2
  go_enter Try.func17, Try.ntmps17
  go_wp2_with (fail)
  refine (eqf_same _ H1.out H2.out hl).mono ?_
  rintro en w' ⟨rfl, q2, rfl⟩
  go_wp2_with (fail)
  go_ret
  exact ⟨rfl, q2, rfl⟩
/-- the tight solution up to variable j -/
def txN (z : Nat → Nat → Int) (m : Nat) (b y : Nat → Int) (j i : Nat) : Int := if i < j then Bx.tx z m b y i else b i
theorem txN_set {z : Nat → Nat → Int} {m : Nat} {b y : Nat → Int} {j : Nat} {v : Int} (h : Bx.tx z m b y j = v) : upd (txN z m b y j) j v = txN z m b y (j + 1) := by
  funext i; unfold upd txN
  by_cases e : i = j
  · rw [if_pos e, if_pos (by omega), e, h]
  · rw [if_neg e]
    by_cases h2 : i < j
    · rw [if_pos h2, if_pos (by omega)]
    · rw [if_neg h2, if_neg (by omega)]
theorem txN_keep {z : Nat → Nat → Int} {m : Nat} {b y : Nat → Int} {j : Nat} (h : Bx.tx z m b y j = b j) : txN z m b y (j + 1) = txN z m b y j := by
  funext i; unfold txN
  by_cases e : i = j
  · rw [if_pos (by omega), if_neg (by omega), e, h]
  · by_cases h2 : i < j
    · rw [if_pos h2, if_pos (by omega)]
    · rw [if_neg h2, if_neg (by omega)]
theorem tk_yes {z : Nat → Nat → Int} {b y : Nat → Int} {c : Nat} (h1 : b (Bx.fr z c) = 4611686018427387904) (h2 : b (Bx.to z c) ≠ 4611686018427387904) : Bx.tk z b y (c + 1) = max (Bx.tk z b y c) (b (Bx.to z c) - z c 2 - y (Bx.fr z c)) := by simp only [Bx.tk]; rw [if_pos ⟨h1, h2⟩]
theorem tk_no {z : Nat → Nat → Int} {b y : Nat → Int} {c : Nat} (h : ¬ (b (Bx.fr z c) = 4611686018427387904 ∧ b (Bx.to z c) ≠ 4611686018427387904)) : Bx.tk z b y (c + 1) = Bx.tk z b y c := by simp only [Bx.tk]; rw [if_neg h]
theorem int_eq {k : IntKind} {a b : Int} (h : a = b) : Value.int k a = Value.int k b := by rw [h]
/-- a list of the call's own behind other memory -/
def TightPost (n : Nat) (f : Nat → Int) (w : World) (e : Ending) (w' : World) : Prop := ∃ g, e = .returned (.tuple #[.slice (some ⟨g, 0, none⟩) n n, .int .i64 0]) ∧ Ob w' g n f ∧ w.heap.size ≤ g ∧ Below w.heap.size w w'
set_option maxHeartbeats 16000000 in
set_option maxRecDepth 4000 in
theorem tight_ok (n : Nat) (a : Option Addr) (m cap : Nat) (z : Nat → Nat → Int) (V : Bx.Vs n m z) (hs : Bx.St n z m (n - 1)) (i j : Nat) (hi : i < n) (hj : j < n) (hf : Bx.F z m n i j ≠ 4611686018427387904) (w : World) (S : Ss 3 w a m z) :
    Calls Try.prog 20 #[.int .i64 n, .slice a m cap, .int .i64 i, .int .i64 j] w (TightPost n (Bx.tx z m (Bx.F z m n i) (Bx.bf z m (n - 1))) w) := by
  have n1 := V.n1; have n2 := V.n2; have m2 := V.m2
  have hS := Lib.hid S; have hV := Lib.hid V; have HS := Lib.hid hs; have HF := Lib.hid hf
  clear S V hs hf
  have q1 : ¬ (i : Int) < 0 := by omega
  have q2 : ¬ (n : Int) ≤ (i : Int) := by omega
  have q3 : ¬ (j : Int) < 0 := by omega
  have q4 : ¬ (n : Int) ≤ (j : Int) := by omega
  go_enter Try.func20, Try.ntmps20
  go_wp2_with (fail)
  refine (check_at hS.out (Lib.hid (chk_vs hV.out))).mono ?_
  rintro en w1 ⟨rfl, B1⟩
  have HB := Lib.hid B1; have S1 := Lib.hid (hS.out.later B1)
  clear B1
  go_wp2_with (fail)
  refine (explore_any n a m cap z hV.out _ S1.out).mono ?_
  rintro en w2 ⟨gl, lv, G, E, rfl, hE, hgl, O2, L2, B2⟩
  obtain rfl := end_st hE HS.out hV.out.n1
  obtain ⟨go, co, rfl⟩ := L2.row.at0 (k := n) (ptrs_len _ _ _) hV.out.n1
  obtain ⟨ws, hws⟩ : ∃ ws, w2.alloc (.cells #[.slice (some ⟨gl, 0, none⟩) n n, .slice (some ⟨go, 0, none⟩) n co, .int .i64 (-1)] 52) = ws := ⟨_, rfl⟩
  have HB2 := Lib.hid (bl_next HB.out B2)
  have HB3 : Hid (Below w.heap.size w ws) := Lib.hid (by have := HB2.out; have := HB2.out.size; rw [← hws]; (repeat (first | exact Below.refl _ _ | refine Below.drew ?_ | refine Hp.drewN ?_ _ | refine Below.setCell ?_ (by first | (simp; done) | (simp; omega) | omega) _ | refine Below.alloc ?_ (by first | (simp; done) | (simp; omega) | omega) _ | (refine Hp.step ?_ (by assumption)))))
  have BA : Hid (Below w2.heap.size w2 ws) := Lib.hid (by rw [← hws]; (repeat (first | exact Below.refl _ _ | refine Below.drew ?_ | refine Hp.drewN ?_ _ | refine Below.setCell ?_ (by first | (simp; done) | (simp; omega) | omega) _ | refine Below.alloc ?_ (by first | (simp; done) | (simp; omega) | omega) _ | (refine Hp.step ?_ (by assumption)))))
  have S2 := Lib.hid ((S1.out.later B2).later BA.out); have HO := Lib.hid (O2.later BA.out)
  have sb : ws.heap[w2.heap.size]? = some (.cells #[.slice (some ⟨gl, 0, none⟩) n n, .slice (some ⟨go, 0, none⟩) n co, .int .i64 (-1)] 52 (0, 0)) := by rw [← hws]; exact Hp.blk_new _ _
  have s0 := Hp.blk_cell (o := 0) sb rfl; have s2 := Hp.blk_cell (o := 2) sb rfl
  have HW := Lib.hid hws
  have wlt : w2.heap.size < ws.heap.size := Hp.blk_lt sb
  have glt := HO.out.lt
  clear B2 hE L2 O2 sb
  go_wp2_with (fail)
  refine (matrix_any n a m cap z _ hV.out (Bx.pt_of hV.out HS.out) (bf_lo hV.out) _ S2.out).mono ?_
  rintro en w3 ⟨rfl, M, B3⟩
  have HM := Lib.hid M; have HBm := Lib.hid B3
  have HB4 := Lib.hid (bl_next HB3.out B3)
  have e1 := M.out hi hi
  have e2 := M.cell hi hj
  have g1 := M.rlt hi
  obtain ⟨X, hX⟩ : ∃ X, Bx.F z m n i j = X := ⟨_, rfl⟩
  have hX2 : (X == 4611686018427387904) = false := by rw [← hX]; simpa using HF.out
  rw [hX] at e2
  have HR := Lib.hid (M.r i hi)
  obtain ⟨b, hb⟩ : ∃ b, Bx.F z m n i = b := ⟨_, rfl⟩
  have HBb := Lib.hid hb
  have bbd := fun v => Bx.F_bd hV.out (Bx.pt_of hV.out HS.out) n2 (k := n) i v
  have ylo := bf_lo hV.out
  have hyb : ∀ v, -1441151880758558720 ≤ Bx.bf z m (n - 1) v := fun v => by
    have := Bx.bf_bd hV.out (n - 1) v; omega
  obtain ⟨y, hy⟩ : ∃ y, Bx.bf z m (n - 1) = y := ⟨_, rfl⟩
  have HYy := Lib.hid hy
  rw [hb] at HR bbd; rw [hy] at bbd HO ylo hyb
  have bq : ∀ v, v < n → b v = 4611686018427387904 ∨ (-1441151880758558720 ≤ b v ∧ b v ≤ 1459166279268040704) := fun v hv => by
    have := bbd v; have := ylo i hi; have := ylo v hv; omega
  have tkb := fun c hc => Bx.tk_bd (b := b) (y := y) hV.out (fun v => by have := bbd v; omega) hyb c hc
  have BQ := Lib.hid bq; have TK := Lib.hid tkb; have YL := Lib.hid ylo
  rw [hb, hy]
  clear M B3 hX hb hy bbd bq tkb ylo hyb
  go_wp2_with (fail)
  go_loopw [58, 13] (fun c d wr => ∃ k : Nat, k ≤ m ∧ c = .int .i64 k ∧ d = .int .i64 (Bx.tk z b y k) ∧ Below w3.heap.size w3 wr) (fun c _ _ => m - (intOf c).toNat)
  case atStart => exact ⟨0, by omega, rfl, rfl, Below.refl _ _⟩
  case round =>
    obtain ⟨k, hk, rfl, rfl, hb⟩ := hrel
    have HB5 := Lib.hid hb
    have sz5 := hb.size; have sz4 := HBm.out.size
    have B6 := HBm.out.trans (hb.mono sz4)
    have HB6 := Lib.hid B6
    have RR := Lib.hid (HR.out.below hb g1)
    have OO := Lib.hid (HO.out.below B6 glt)
    have t0 := (B6.cell (p := ⟨w2.heap.size, 0, none⟩) wlt).trans s0
    clear hb B6
    by_cases hlt : k < m
    · obtain ⟨b', o, rfl, hbl, c0, c1, c2⟩ := (S2.out.later HB6.out).elem3 hlt
      have zo := hV.out.ok k hlt
      have hp := hV.out.fr_lt hlt; have hr := hV.out.to_lt hlt
      have TY := Lib.hid (@tk_yes z b y k); have TN := Lib.hid (@tk_no z b y k)
      have tb := TK.out k (by omega); have tb1 := TK.out (k + 1) hlt
      have bp := BQ.out _ hp; have br := BQ.out _ hr; have yp := YL.out _ hp
      have l0 := RR.out.cell hp; have l1 := RR.out.cell hr; have l2 := OO.out.cell hp
      have g3 := RR.out.lt; have g4 := OO.out.lt
      have g5 : w2.heap.size < wr.heap.size := by omega
      obtain ⟨p, ep⟩ : ∃ p, Bx.fr z k = p := ⟨_, rfl⟩
      obtain ⟨r, er⟩ : ∃ r, Bx.to z k = r := ⟨_, rfl⟩
      have e0 : z k 0 = (p : Int) := by unfold Bx.fr at ep; omega
      have e1 : z k 1 = (r : Int) := by unfold Bx.to at er; omega
      rw [ep] at hp l0 l2 bp yp TY TN; rw [er] at hr l1 br TY TN
      rw [e0] at c0; rw [e1] at c1
      obtain ⟨W, eW⟩ : ∃ W, z k 2 = W := ⟨_, rfl⟩
      obtain ⟨P, eP⟩ : ∃ P, b p = P := ⟨_, rfl⟩
      obtain ⟨R, eR⟩ : ∃ P, b r = P := ⟨_, rfl⟩
      obtain ⟨Y, eY⟩ : ∃ P, y p = P := ⟨_, rfl⟩
      obtain ⟨T, eT⟩ : ∃ P, Bx.tk z b y k = P := ⟨_, rfl⟩
      rw [eW] at c2 zo TY; rw [eP] at l0 bp TY TN; rw [eR] at l1 br TY TN; rw [eY] at l2 yp TY; rw [eT] at tb TY TN
      rw [eT]
      have w1' := zo.2.2.2.2.1; have w2' := zo.2.2.2.2.2
      have y1 := yp.1; have y2 := yp.2; have t1 := tb.1; have t2 := tb.2
      clear ep er e0 e1 eW eP eR eY eT zo yp tb tb1
      by_cases h1 : P = 4611686018427387904
      · by_cases h2 : R = 4611686018427387904
        · have N := Lib.hid (TN.out (fun g => g.2 h2))
          clear TY TN bp br
          subst h1 h2
          go_wp2_with (fail)
          go_roundw
          case rel => exact ⟨k + 1, by omega, by go_num, by rw [N.out], by have := HB5.out; (repeat (first | exact Below.refl _ _ | refine Below.drew ?_ | refine Hp.drewN ?_ _ | refine Below.setCell ?_ (by first | (simp; done) | (simp; omega) | omega) _ | refine Below.alloc ?_ (by first | (simp; done) | (simp; omega) | omega) _ | (refine Hp.step ?_ (by assumption))))⟩
          case measure => (simp [intOf] <;> omega)
        · have N := Lib.hid (TY.out h1 h2)
          have h2' : (R != 4611686018427387904) = true := by simpa using h2
          have r1 : -1441151880758558720 ≤ R := by omega
          have r2 : R ≤ 1459166279268040704 := by omega
          clear TY TN bp br h2
          subst h1
          go_wp2_with (fail)
          go_quiet (fail)
          go_wp2_with (fail)
          go_roundw
          case rel => exact ⟨k + 1, by omega, by go_num, by rw [N.out]; exact int_eq (by split <;> omega), by have := HB5.out; (repeat (first | exact Below.refl _ _ | refine Below.drew ?_ | refine Hp.drewN ?_ _ | refine Below.setCell ?_ (by first | (simp; done) | (simp; omega) | omega) _ | refine Below.alloc ?_ (by first | (simp; done) | (simp; omega) | omega) _ | (refine Hp.step ?_ (by assumption))))⟩
          case measure => (simp [intOf] <;> omega)
      · have h1' : (P == 4611686018427387904) = false := by simpa using h1
        have N := Lib.hid (TN.out (fun g => h1 g.1))
        clear TY TN bp br h1
        go_wp2_with (fail)
        go_roundw
        case rel => exact ⟨k + 1, by omega, by go_num, by rw [N.out], by have := HB5.out; (repeat (first | exact Below.refl _ _ | refine Below.drew ?_ | refine Hp.drewN ?_ _ | refine Below.setCell ?_ (by first | (simp; done) | (simp; omega) | omega) _ | refine Below.alloc ?_ (by first | (simp; done) | (simp; omega) | omega) _ | (refine Hp.step ?_ (by assumption))))⟩
        case measure => (simp [intOf] <;> omega)
    · obtain rfl : m = k := by omega
      obtain ⟨T, eT⟩ : ∃ P, Bx.tk z b y m = P := ⟨_, rfl⟩
      have HT := Lib.hid eT
      have tb := TK.out m (by omega)
      rw [eT] at tb
      rw [eT]
      have t1 := tb.1; have t2 := tb.2
      have gw : ws.heap.size + 1 + i < wr.heap.size := by omega
      have R0 := RR.out
      have HRw := Lib.hid R0
      clear eT tb R0
      go_wp2_with (fail)
      go_loopw [96] (fun c wr => ∃ v : Nat, v ≤ n ∧ c = .int .i64 v ∧ Ob wr (ws.heap.size + 1 + i) n (txN z m b y v) ∧ Below ws.heap.size ws wr) (fun c _ => n - (intOf c).toNat)
      case atStart => exact ⟨0, by omega, rfl, HRw.out.congr (fun i _ => by unfold txN; rw [if_neg (by omega)]), HB6.out⟩
      case round =>
        obtain ⟨v, hv, rfl, o, hb⟩ := hrel
        have O7 := Lib.hid o; have HB7 := Lib.hid hb
        have sz7 := hb.size
        have OO7 := Lib.hid (HO.out.below hb glt)
        have t7 := (hb.cell (p := ⟨w2.heap.size, 0, none⟩) wlt).trans s0
        have g7 := o.lt
        clear o hb
        by_cases hlt2 : v < n
        · have c1 := O7.out.cell hlt2
          have c2 := OO7.out.cell hlt2
          have cf := O7.out.free v
          have bv := BQ.out v hlt2; have yv := YL.out v hlt2
          have TS := Lib.hid (fun (u : Int) (h : Bx.tx z m b y v = u) => @txN_set z m b y v u h); have TK2 := Lib.hid (@txN_keep z m b y v)
          have xe : txN z m b y v v = b v := by unfold txN; rw [if_neg (by omega)]
          have tx : Bx.tx z m b y v = if b v = 4611686018427387904 then y v + T else b v := by unfold Bx.tx; rw [HT.out]
          rw [xe] at c1
          obtain ⟨P, eP⟩ : ∃ P, b v = P := ⟨_, rfl⟩
          obtain ⟨Y, eY⟩ : ∃ P, y v = P := ⟨_, rfl⟩
          rw [eP] at c1 bv TK2 tx; rw [eY] at c2 yv tx
          have y1 := yv.1; have y2 := yv.2
          have TX := Lib.hid tx
          clear eP eY xe tx yv
          by_cases h1 : P = 4611686018427387904
          · have U := Lib.hid (TS.out _ (TX.out.trans (if_pos h1)))
            clear TS TK2 bv
            subst h1
            go_wp2_with (fail)
            go_roundw
            case rel => exact ⟨v + 1, by omega, by go_num, by rw [← U.out]; exact O7.out.set v _, by have := HB7.out; (repeat (first | exact Below.refl _ _ | refine Below.drew ?_ | refine Hp.drewN ?_ _ | refine Below.setCell ?_ (by first | (simp; done) | (simp; omega) | omega) _ | refine Below.alloc ?_ (by first | (simp; done) | (simp; omega) | omega) _ | (refine Hp.step ?_ (by assumption))))⟩
            case measure => (simp [intOf] <;> omega)
          · have U := Lib.hid (TK2.out (TX.out.trans (if_neg h1)))
            have h1' : (P == 4611686018427387904) = false := by simpa using h1
            clear TS TK2 bv h1
            go_wp2_with (fail)
            go_roundw
            case rel => exact ⟨v + 1, by omega, by go_num, by rw [U.out]; exact O7.out, HB7.out⟩
            case measure => (simp [intOf] <;> omega)
        · obtain rfl : n = v := by omega
          go_wp2_with (fail)
          go_ret2
          exact ⟨_, rfl, O7.out.congr (fun u hu => by unfold txN; rw [if_pos hu, HBb.out, HYy.out]), by have := HB3.out.size; omega, bl_next HB3.out HB7.out⟩
end Go.Proofs.Ytieggiplbghecaa.BxW
