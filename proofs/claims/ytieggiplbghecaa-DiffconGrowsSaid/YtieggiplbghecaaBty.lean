/- The law DiffconTight of layer 51. -/
import Derived.Test.YtieggiplbghecaaBq
import Derived.Test.YtieggiplbghecaaBv
import Derived.Test.YtieggiplbghecaaQb
import Derived.Test.YtieggiplbghecaaShelf
set_option linter.unusedVariables false
set_option linter.unusedSimpArgs false
namespace Go.Proofs.Ytieggiplbghecaa.BxW
open Go.RowKit Ls Orw Rv Rw
set_option maxHeartbeats 4000000 in
set_option maxRecDepth 4000 in
theorem tl_no (n : Int) (a : Option Addr) (m cap : Nat) (z : Nat → Nat → Int) (av bv : Int) (ya : Option Addr) (yn yc : Nat) (w : World) (S : Ss 3 w a m z) {r : Int} (hr : Hid (Bx.chk n m z = r)) (h : 4100 < m ∨ (m ≤ 4100 ∧ (r != 0) = true)) :
    Calls Try.prog 7 #[.int .i64 n, .slice a m cap, .int .u8 av, .int .u8 bv, .slice ya yn yc] w fun e w' => e = .returned (.bool true) ∧ Below w.heap.size w w' := by
  have hS := Lib.hid S
  clear S
  rcases h with h | ⟨h, h2⟩
  · have d : decide (4100 < m) = true := decide_eq_true h
    have L := Lib.hid (fun w => d ▸ long_any a m cap w)
    clear d
    go_enter Try.func7, Try.ntmps7
    go_wp2_with (fail)
    refine (L.out _).mono ?_
    rintro en w1 ⟨rfl, rfl⟩
    go_wp2_with (fail)
    refine (awake51_any _).mono ?_
    rintro en w3 ⟨rfl, B3⟩
    have HB3 := Lib.hid B3
    clear B3
    go_wp2_with (fail)
    go_ret
    exact ⟨rfl, HB3.out⟩
  · have d : decide (4100 < m) = false := decide_eq_false (by omega)
    have L := Lib.hid (fun w => d ▸ long_any a m cap w)
    clear d
    go_enter Try.func7, Try.ntmps7
    go_wp2_with (fail)
    refine (L.out _).mono ?_
    rintro en w1 ⟨rfl, rfl⟩
    go_wp2_with (fail)
    refine (check_at hS.out hr).mono ?_
    rintro en w1 ⟨rfl, B1⟩
    have HB1 := Lib.hid B1
    clear B1
    go_wp2_with (fail)
    refine (awake51_any _).mono ?_
    rintro en w3 ⟨rfl, B3⟩
    have HB3 := Lib.hid (bl_next HB1.out B3)
    clear B3
    go_wp2_with (fail)
    go_ret
    exact ⟨rfl, HB3.out⟩
/-- a list that slices.Clone returns -/
theorem clone_ints (a : Option Addr) (k c : Nat) (x : Nat → Int) (w : World) (S : Is w a k x) (hk : k ≤ 1000) (h0 : a = none → k = 0) :
    Calls Try.prog 25 #[.slice a k c] w fun e w' => ∃ v, e = .returned v ∧ Row w' w.heap.size v ((List.range k).map x) ∧ Below w.heap.size w w' := by
  rcases a with _ | ad
  · obtain rfl := h0 rfl
    exact (Try.slices_Clone_int_nil 0 c w).mono fun e w' ⟨h1, h2⟩ => ⟨_, h1, Row.nil _ _, by rw [h2]; exact Below.refl _ _⟩
  · by_cases hz : k = 0
    · subst hz
      exact (Try.slices_Clone_int_zero ad c w).mono fun e w' ⟨v', h1, h2, _, h4⟩ => ⟨v', h1, h2, h4⟩
    · obtain ⟨b, o, ha, _, hc⟩ := S.addr (by omega)
      injection ha with ha
      subst ha
      refine (Try.slices_Clone_int b o k c ((List.range k).map x) w (by simp) (by omega) (fun j hj => by
        have hj' : j < k := by simpa using hj
        rw [hc j hj']; simp [List.getD_eq_getElem?_getD, hj'])).mono fun e w' ⟨v', h1, h2, _, h4⟩ => ⟨v', h1, ?_, h4⟩
      have : ((List.range k).map x).take k = (List.range k).map x := List.take_of_length_le (by simp)
      rw [this] at h2
      unfold Row; simpa using h2
theorem holds_at {z : Nat → Nat → Int} {x : Nat → Int} {n m : Nat} {r : Bool} {W : World} {a ax : Option Addr} {cap capx : Nat} (S : Hid (Ss 3 W a m z)) (X : Hid (Is W ax n x)) (fz : FitZ m z) (fx : Hid (Fit n x)) (hm : m ≤ 4100) (hn : n ≤ 160) (h : Hid (holds z x n m = r)) (y : Qb.Later W) :
    Calls Try.prog 23 #[.slice a m cap, .slice ax n capx] y.1 fun e w' => e = .returned (.bool r) ∧ ∃ u : Qb.Later W, w' = u.1 := by
  rw [← h.out]; exact Qb.call (holds_any a m cap z ax n capx x y.1 (S.out.later y.2) (X.out.later y.2) fz fx.out (by omega) (by omega))
theorem fz_vs {n m : Nat} {z : Nat → Nat → Int} (V : Bx.Vs n m z) : FitZ m z := fun i j hi hj => by
  have h := V.ok i hi
  have n2 := V.n2
  have hj' : j = 0 ∨ j = 1 ∨ j = 2 := by omega
  rcases hj' with rfl | rfl | rfl <;> omega
theorem holds_pt {n m : Nat} {z : Nat → Nat → Int} {x : Nat → Int} (V : Bx.Vs n m z) : holds z x n m = true ↔ Bx.Pt m z x := by
  unfold holds
  rw [decide_eq_true_iff]
  constructor
  · intro h c hc
    have := h c hc; unfold okH at this; simp only [decide_eq_true_eq] at this
    have := this.2.2.2.2; omega
  · intro h c hc
    have v := V.ok c hc
    unfold okH; simp only [decide_eq_true_eq]
    have := h c hc
    exact ⟨v.1, v.2.1, v.2.2.1, v.2.2.2.1, by omega⟩
theorem tx_fit {n m : Nat} {z : Nat → Nat → Int} (V : Bx.Vs n m z) (hs : Bx.St n z m (n - 1)) {i : Nat} (hi : i < n) : Fit n (Bx.tx z m (Bx.F z m n i) (Bx.bf z m (n - 1))) := fun v hv => by
  have hy := Bx.pt_of V hs
  have hyb : ∀ v, -1441151880758558720 ≤ Bx.bf z m (n - 1) v := fun v => by
    have := Bx.bf_bd V (n - 1) v; have := V.n2; omega
  have tb := Bx.tk_bd (b := Bx.F z m n i) (y := Bx.bf z m (n - 1)) V (fun v => by have := Bx.F_bd V hy V.n2 (k := n) i v; omega) hyb m (Nat.le_refl _)
  have b := Bx.F_bd V hy V.n2 (k := n) i v
  have y1 := bf_lo V v hv; have y2 := bf_lo V i hi
  unfold Bx.tx; split <;> omega
theorem tm_bd (a : Int) : -1152921504606846976 < Int.tmod a 1152921504606846976 ∧ Int.tmod a 1152921504606846976 < 1152921504606846976 := by
  rcases Int.le_total 0 a with h | h
  · rw [Int.tmod_eq_emod_of_nonneg h]; omega
  · obtain ⟨c, rfl⟩ : ∃ c, a = -c := ⟨-a, by omega⟩
    rw [Int.neg_tmod, Int.tmod_eq_emod_of_nonneg (by omega)]; omega
/-- the first k numbers cut -/
def cutN (y : Nat → Int) (k i : Nat) : Int := if i < k then Int.tmod (y i) 1152921504606846976 else y i
theorem cutN_set (y : Nat → Int) (k : Nat) : upd (cutN y k) k (Int.tmod (y k) 1152921504606846976) = cutN y (k + 1) := by
  funext i; unfold upd cutN
  by_cases e : i = k
  · rw [if_pos e, if_pos (by omega), e]
  · rw [if_neg e]
    by_cases h : i < k
    · rw [if_pos h, if_pos (by omega)]
    · rw [if_neg h, if_neg (by omega)]
set_option maxHeartbeats 16000000 in
set_option maxRecDepth 4000 in
theorem tl_yes (n : Nat) (a : Option Addr) (m cap : Nat) (z : Nat → Nat → Int) (av bv : Nat) (ha : av ≤ 255) (hb : bv ≤ 255) (ya : Option Addr) (yn yc : Nat) (ys : Nat → Int) (yl : yn ≤ yc) (yl2 : yc ≤ 9223372036854775807) (h0 : ya = none → yn = 0 ∧ yc = 0) (w : World) (S : Ss 3 w a m z) (Y : Is w ya yn ys) (V : Bx.Vs n m z) :
    Calls Try.prog 7 #[.int .i64 n, .slice a m cap, .int .u8 av, .int .u8 bv, .slice ya yn yc] w fun e w' => e = .returned (.bool true) ∧ Below w.heap.size w w' := by
  have n1 := V.n1; have n2 := V.n2; have m2 := V.m2
  have hS := Lib.hid S; have hV := Lib.hid V; have hY := Lib.hid Y; have H0 := Lib.hid h0
  have d : decide (4100 < m) = false := decide_eq_false (by omega)
  have L := Lib.hid (fun w => d ▸ long_any a m cap w)
  obtain ⟨i, ei⟩ : ∃ i, av % n = i := ⟨_, rfl⟩
  obtain ⟨j, ej⟩ : ∃ i, bv % n = i := ⟨_, rfl⟩
  have hi : i < n := by rw [← ei]; exact Nat.mod_lt _ n1
  have hj : j < n := by rw [← ej]; exact Nat.mod_lt _ n1
  have ri : (av : Int) % (n : Int) = (i : Int) := by rw [← ei]; exact (Int.natCast_emod av n).symm
  have rj : (bv : Int) % (n : Int) = (j : Int) := by rw [← ej]; exact (Int.natCast_emod bv n).symm
  have nz : ¬ (n : Int) = 0 := by omega
  have np : (1 : Int) ≤ (n : Int) := by omega
  clear S V Y d h0 ei ej
  go_enter Try.func7, Try.ntmps7
  go_wp2_with (fail)
  refine (L.out _).mono ?_
  rintro en w1 ⟨rfl, rfl⟩
  go_wp2_with (fail)
  refine (check_at hS.out (Lib.hid (chk_vs hV.out))).mono ?_
  rintro en w1 ⟨rfl, B1⟩
  have HB1 := Lib.hid B1; have S1 := Lib.hid (hS.out.later B1); have Y1 := Lib.hid (hY.out.later B1)
  clear B1
  go_wp2_with (fail)
  go_quiet (fail)
  go_wp2_with (fail)
  have BQ0 : Hid (∀ N, Below w.heap.size w (w1.drewN N)) := Lib.hid fun N => Hp.drewN HB1.out N
  have S1' : Hid (∀ N, Ss 3 (w1.drewN N) a m z) := Lib.hid fun N => S1.out.later (Hp.drewN (Below.refl _ _) N)
  have Y1' : Hid (∀ N, Is (w1.drewN N) ya yn ys) := Lib.hid fun N => Y1.out.drewN N
  by_cases hs : Bx.St n z m (n - 1)
  rotate_left
  · refine (bounds_cyc n a m cap z hV.out hs _ (S1'.out _)).mono ?_
    rintro en w2 ⟨rfl, B2⟩
    have HB2 := Lib.hid (bl_next (BQ0.out _) B2); have S2 := Lib.hid ((S1'.out _).later B2); have HS := Lib.hid hs
    clear B2 hs
    go_wp2_with (fail)
    refine (tight_cyc n a m cap z hV.out HS.out i j hi hj _ S2.out).mono ?_
    rintro en w3 ⟨rfl, B3⟩
    have HB3 := Lib.hid (bl_next HB2.out B3)
    clear B3
    go_wp2_with (fail)
    refine (awake51_any _).mono ?_
    rintro en w4 ⟨rfl, B4⟩
    have HB4 := Lib.hid (bl_next HB3.out B4)
    clear B4
    go_wp2_with (fail)
    go_ret
    exact ⟨rfl, HB4.out⟩
  refine (bounds_ok n a m cap z hV.out hs _ (S1'.out _)).mono ?_
  rintro en w2 ⟨g, rfl, M, hg, B2⟩
  have HB2 := Lib.hid (bl_next (BQ0.out _) B2); have S2 := Lib.hid ((S1'.out _).later B2); have Y2 := Lib.hid ((Y1'.out _).later B2); have HM := Lib.hid M; have HS := Lib.hid hs
  have FB := Lib.hid (show Bx.F z m n i j = 4611686018427387904 ∨ (-1441151880758558720 ≤ Bx.F z m n i j ∧ Bx.F z m n i j ≤ 1459166279268040704) by
    have := Bx.F_bd hV.out (Bx.pt_of hV.out hs) n2 (k := n) i j; have := bf_lo hV.out i hi; have := bf_lo hV.out j hj; omega)
  have FS := Lib.hid (Bx.F_self (Bx.pt_of hV.out hs) n i)
  clear B2 M hs S1' Y1' BQ0
  go_wp2_with (fail)
  by_cases hf : Bx.F z m n i j = 4611686018427387904
  · refine (tight_none n a m cap z hV.out HS.out i j hi hj hf _ S2.out).mono ?_
    rintro en w3 ⟨rfl, B3⟩
    have HB3 := Lib.hid (bl_next HB2.out B3)
    have M3 := HM.out.later B3
    have e1 := M3.out hi hi
    have e2 := M3.cell hi hj
    rw [hf] at e2
    clear B3 M3 hf
    go_wp2_with (fail)
    refine (awake51_any _).mono ?_
    rintro en w4 ⟨rfl, B4⟩
    have HB4 := Lib.hid (bl_next HB3.out B4)
    clear B4
    go_wp2_with (fail)
    go_ret
    exact ⟨rfl, HB4.out⟩
  · refine (tight_ok n a m cap z hV.out HS.out i j hi hj hf _ S2.out).mono ?_
    rintro en w3 ⟨g3, rfl, O3, hg3, B3⟩
    have HB3 := Lib.hid (bl_next HB2.out B3); have S3 := Lib.hid (S2.out.later B3); have Y3 := Lib.hid (Y2.out.later B3); have M3 := Lib.hid (HM.out.later B3)
    have I3 := Lib.hid O3.is
    have HF2 := Lib.hid (show Fit n _ from tx_fit hV.out HS.out hi)
    have HH := Lib.hid ((holds_pt hV.out).2 (Bx.tx_pt hV.out (Bx.pt_of hV.out HS.out) i))
    have x1 := O3.cell hi; have x2 := O3.cell hj
    rw [Bx.tx_at i (by rw [FS.out]; omega), FS.out] at x1
    rw [Bx.tx_at i hf] at x2
    have e1 := M3.out.out hi hi
    have e2 := M3.out.cell hi hj
    have l1 := O3.lt; have l2 := M3.out.lt; have l3 := M3.out.rlt hi
    obtain ⟨X, hX⟩ : ∃ X, Bx.F z m n i j = X := ⟨_, rfl⟩
    have HX := Lib.hid hX
    rw [hX] at x2 e2 hf
    have hX2 : (X == 4611686018427387904) = false := by simpa using hf
    have hfb := FB.out
    rw [hX] at hfb
    have fb1 : -1441151880758558720 ≤ X := by omega
    have fb2 : X ≤ 1459166279268040704 := by omega
    clear B3 O3 hX hf hfb
    go_wp2_with (fail)
    refine Qb.region (by kernel_rfl) (by kernel_rfl) ?_
    have k1 := Qb.cell x1 l1; have k2 := Qb.cell x2 l1; have k3 := Qb.cell e1 l2; have k4 := Qb.cell e2 l3
    repeat (go_big_quiet_step (first | (go_at_call 23; exact holds_at S3 I3 (fz_vs hV.out) HF2 (by omega) n2 HH _)))
    refine wpQuiet_nil ?_
    rintro w4 ⟨⟨w5, hb4⟩, h4⟩
    have B4 : Below w3.heap.size w3 w4 := by rw [h4]; exact hb4
    have HB4 := Lib.hid (bl_next HB3.out B4); have S4 := Lib.hid (S3.out.later B4); have Y4 := Lib.hid (Y3.out.later B4); have M4 := Lib.hid (M3.out.later B4)
    obtain ⟨K, hK⟩ : ∃ K, min yn n = K := ⟨_, rfl⟩
    have hKi : min (yn : Int) (n : Int) = (K : Int) := by omega
    have hK1 : K ≤ n := by omega
    have hK2 : K ≤ yn := by omega
    have hK3 : K ≤ yc := by omega
    have hKt : (min (yn : Int) (n : Int)).toNat = K := by omega
    have YK := Lib.hid (show Is w4 ya K ys from by
      rcases Y4.out.cells with h | ⟨b, o, h1, h2, h3⟩
      · exact ⟨.inl (by omega)⟩
      · exact ⟨.inr ⟨b, o, h1, h2, fun u hu => h3 u (by omega)⟩⟩)
    have H00 := Lib.hid (show ya = none → K = 0 from fun h => by have := H0.out h; omega)
    clear hb4 h4 B4 hK x1 x2 e1 e2 k1 k2 k3 k4 l1 l2 l3
    go_wp2_with (fail)
    refine (clone_ints ya K yc ys _ YK.out (by omega) H00.out).mono ?_
    rintro en w5 ⟨v, rfl, R5, B5⟩
    have HB5 := Lib.hid (bl_next HB4.out B5); have S5 := Lib.hid (S4.out.later B5); have M5 := Lib.hid (M4.out.later B5)
    have HC5 := Lib.hid B5
    clear B5
    by_cases hK0 : K = 0
    · subst hK0
      obtain ⟨a5, c5, rfl⟩ : ∃ a5 c5, v = .slice a5 0 c5 := by
        rcases R5.form with ⟨h, _⟩ | ⟨g5, c5, _, h, _⟩
        · exact ⟨_, _, h⟩
        · exact ⟨_, _, by simpa using h⟩
      have hne : ((0 : Int) == (n : Int)) = false := by simp; omega
      clear R5 hKi hKt
      go_wp2_with (fail)
      go_loopw [140] (fun c wr => w5 = wr ∧ c = .int .i64 0) (fun c _ => 0)
      case atStart => exact ⟨rfl, rfl⟩
      case round =>
        obtain ⟨rfl, rfl⟩ := hrel
        go_wp2_with (fail)
        go_quiet (fail)
        go_wp2_with (fail)
        refine (awake51_any _).mono ?_
        rintro en w6 ⟨rfl, B6⟩
        have HB6 := Lib.hid (bl_next (Hp.drewN HB5.out _) B6)
        clear B6
        go_wp2_with (fail)
        go_ret
        exact ⟨rfl, HB6.out⟩
    · obtain ⟨g5, c5, rfl, o5, hg5⟩ := oc_of_row R5 (by omega)
      have O5 := Lib.hid o5
      clear R5 o5 hKi hKt
      go_wp2_with (fail)
      go_loopw [140] (fun c wr => ∃ k : Nat, k ≤ K ∧ c = .int .i64 k ∧ Oc wr g5 K (cutN ys k) ∧ Below w4.heap.size w4 wr) (fun c _ => K - (intOf c).toNat)
      case atStart => exact ⟨0, by omega, rfl, O5.out.congr (fun i _ => by unfold cutN; rw [if_neg (by omega)]), HC5.out⟩
      case round =>
        obtain ⟨k, hk, rfl, o, hb⟩ := hrel
        have O6 := Lib.hid o; have HB6 := Lib.hid hb
        have sz6 := hb.size
        have g6 := o.lt
        have M6 := Lib.hid (M4.out.later hb); have S6 := Lib.hid (S4.out.later hb)
        clear o hb
        by_cases hlt : k < K
        · have c1 := O6.out.cell hlt
          have c2 := O6.out.free k
          have U := Lib.hid (cutN_set ys k)
          have xe : cutN ys k k = ys k := by unfold cutN; rw [if_neg (by omega)]
          rw [xe] at c1
          obtain ⟨P, eP⟩ : ∃ P, ys k = P := ⟨_, rfl⟩
          rw [eP] at c1 U
          have tb := tm_bd P
          obtain ⟨T, eT⟩ : ∃ T, Int.tmod P 1152921504606846976 = T := ⟨_, rfl⟩
          rw [eT] at U tb
          have t1 := tb.1; have t2 := tb.2
          clear xe eP tb
          go_wp2_with (fail)
          go_roundw
          case rel => exact ⟨k + 1, by omega, by go_num, by rw [← U.out]; exact O6.out.set k T, by have := HB6.out; (repeat (first | exact Below.refl _ _ | refine Below.drew ?_ | refine Hp.drewN ?_ _ | refine Below.setCell ?_ (by first | (simp; done) | (simp; omega) | omega) _ | refine Below.alloc ?_ (by first | (simp; done) | (simp; omega) | omega) _ | (refine Hp.step ?_ (by assumption))))⟩
          case measure => (simp [intOf] <;> omega)
        · obtain rfl : K = k := by omega
          by_cases hKn : K = n
          · subst hKn
            have FX := Lib.hid (show Fit K (cutN ys K) from fun u hu => by
              unfold cutN; rw [if_pos hu]; have := tm_bd (ys u); omega)
            have IX := Lib.hid O6.out.is
            have yj := O6.out.cell hj; have yi := O6.out.cell hi
            have bj := tm_bd (ys j); have bi := tm_bd (ys i)
            have e1 := M6.out.out hi hi
            have e2 := M6.out.cell hi hj
            rw [HX.out] at e2
            have l2 := M6.out.lt; have l3 := M6.out.rlt hi
            have cj : cutN ys K j = Int.tmod (ys j) 1152921504606846976 := by unfold cutN; rw [if_pos hj]
            have ci : cutN ys K i = Int.tmod (ys i) 1152921504606846976 := by unfold cutN; rw [if_pos hi]
            obtain ⟨J, eJ⟩ : ∃ J, cutN ys K j = J := ⟨_, rfl⟩
            obtain ⟨I, eI⟩ : ∃ J, cutN ys K i = J := ⟨_, rfl⟩
            have HJ := Lib.hid eJ; have HI := Lib.hid eI
            rw [← cj, eJ] at bj; rw [← ci, eI] at bi
            rw [eJ] at yj; rw [eI] at yi
            have j1 := bj.1; have j2 := bj.2; have i1 := bi.1; have i2 := bi.2
            have hnn : ((K : Int) == (K : Int)) = true := by simp
            clear cj ci eJ eI bj bi
            obtain ⟨r, hr⟩ : ∃ r, holds z (cutN ys K) K m = r := ⟨_, rfl⟩
            have HR := Lib.hid hr
            clear hr
            have k1 := Qb.cell yj g6; have k2 := Qb.cell yi g6; have k3 := Qb.cell e1 l2; have k4 := Qb.cell e2 l3
            cases r with
            | false =>
              go_wp2_with (fail)
              refine Qb.region (by kernel_rfl) (by kernel_rfl) ?_
              repeat (go_big_quiet_step (first | (go_at_call 23; exact holds_at S6 IX (fz_vs hV.out) FX (by omega) n2 HR _)))
              refine wpQuiet_nil ?_
              rintro w7 ⟨⟨w8, hb7⟩, h7⟩
              have HB7 := Lib.hid (bl_next (bl_next HB4.out HB6.out) (show Below wr.heap.size wr w7 by rw [h7]; exact hb7))
              clear hb7 h7 yj yi e1 e2 k1 k2 k3 k4
              go_wp2_with (fail)
              refine (awake51_any _).mono ?_
              rintro en w9 ⟨rfl, B9⟩
              have HB9 := Lib.hid (bl_next HB7.out B9)
              clear B9
              go_wp2_with (fail)
              go_ret
              exact ⟨rfl, HB9.out⟩
            | true =>
              have pt := (holds_pt hV.out).1 HR.out
              have lo := Bx.F_lo pt K i j (by rw [HX.out]; intro h; rw [h] at hX2; simp at hX2)
              rw [HX.out, HJ.out, HI.out] at lo
              have nb : ¬ X < J - I := by omega
              clear pt lo
              go_wp2_with (fail)
              refine Qb.region (by kernel_rfl) (by kernel_rfl) ?_
              repeat (go_big_quiet_step (first | (go_at_call 23; exact holds_at S6 IX (fz_vs hV.out) FX (by omega) n2 HR _)))
              refine wpQuiet_nil ?_
              rintro w7 ⟨⟨w8, hb7⟩, h7⟩
              have HB7 := Lib.hid (bl_next (bl_next HB4.out HB6.out) (show Below wr.heap.size wr w7 by rw [h7]; exact hb7))
              clear hb7 h7 yj yi e1 e2 k1 k2 k3 k4
              go_wp2_with (fail)
              refine (awake51_any _).mono ?_
              rintro en w9 ⟨rfl, B9⟩
              have HB9 := Lib.hid (bl_next HB7.out B9)
              clear B9
              go_wp2_with (fail)
              go_ret
              exact ⟨rfl, HB9.out⟩
          · have hne : ((K : Int) == (n : Int)) = false := by simp; omega
            go_wp2_with (fail)
            go_quiet (fail)
            go_wp2_with (fail)
            refine (awake51_any _).mono ?_
            rintro en w9 ⟨rfl, B9⟩
            have HB9 := Lib.hid (bl_next (Hp.drewN (bl_next HB4.out HB6.out) _) B9)
            clear B9
            go_wp2_with (fail)
            go_ret
            exact ⟨rfl, HB9.out⟩
theorem law_DiffconTight (n : Int) (a : Option Addr) (m cap : Nat) (z : Nat → Nat → Int) (av bv : Int) (a1 : 0 ≤ av) (a2 : av ≤ 255) (b1 : 0 ≤ bv) (b2 : bv ≤ 255) (ya : Option Addr) (yn yc : Nat) (zs : List Int) (w : World) (S : In.IsStructs [.i64, .i64, .i64] w a m cap z) (Y : In.IsInts .i64 w ya yn yc zs) :
    Calls Try.prog 7 #[.int .i64 n, .slice a m cap, .int .u8 av, .int .u8 bv, .slice ya yn yc] w fun e w' => e = .returned (.bool true) ∧ Below w.heap.size w w' := by
  by_cases h : 4100 < m
  · exact tl_no n a m cap z av bv ya yn yc w (ss_of S) (Lib.hid rfl) (.inl h)
  · by_cases hc : Bx.chk n m z = 0
    · obtain ⟨n1, n2, V⟩ := Bx.vs_of hc
      obtain ⟨k, rfl⟩ := Int.eq_ofNat_of_zero_le (show 0 ≤ n by omega)
      obtain ⟨av, rfl⟩ := Int.eq_ofNat_of_zero_le a1
      obtain ⟨bv, rfl⟩ := Int.eq_ofNat_of_zero_le b1
      have l := Y.lens
      refine tl_yes k a m cap z av bv (by omega) (by omega) ya yn yc (fun i => zs.getD i 0) l.1 l.2 (fun h => ?_) w (ss_of S) (Is.of_ints Y) (by simpa using V)
      rcases Y with ⟨_, p, q, _⟩ | ⟨x, hx, _⟩
      · exact ⟨p, q⟩
      · rw [h] at hx; cases hx
    · exact tl_no n a m cap z av bv ya yn yc w (ss_of S) (Lib.hid rfl) (.inr ⟨by omega, by simpa using hc⟩)
end Go.Proofs.Ytieggiplbghecaa.BxW
