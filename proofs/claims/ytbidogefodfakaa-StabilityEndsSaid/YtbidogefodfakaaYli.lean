/- The law StabilityEnds of layer 48. -/
import Derived.Test.YtbidogefodfakaaYlg
import Derived.Test.YtbidogefodfakaaYe
import Derived.Test.YtbidogefodfakaaShelf
set_option linter.unusedVariables false
set_option linter.unusedSimpArgs false
namespace Go.Proofs.Ytbidogefodfakaa.YxW
open Go.RowKit Ls Orw Rw
theorem clone_int (v : Option Addr) (K c : Nat) (y : Nat → Int) (w : World) (S : Is w v K y) (hv : v = none ∨ ∃ g, v = some ⟨g, 0, none⟩) (hK : K ≤ 1000) :
    Calls Try.prog 33 #[.slice v K c] w fun e w' => ∃ u cp, e = .returned (.slice u K cp) ∧ Is w' u K y ∧ Below w.heap.size w w' := by
  rcases hv with rfl | ⟨g, rfl⟩
  · obtain rfl : K = 0 := by
      rcases S.cells with h | ⟨_, _, h, _⟩
      · exact h
      · cases h
    exact (Try.slices_Clone_int_nil 0 c w).mono fun e w' ⟨h1, h2⟩ => ⟨none, 0, h1, ⟨.inl rfl⟩, by rw [h2]; exact Below.refl _ _⟩
  · have hc : ∀ j, j < ((List.range K).map y).length → w.cell? ⟨g, 0 + j, none⟩ = some (.int .i64 (((List.range K).map y).getD j 0)) := fun j hj => by
      have hj' : j < K := by simpa using hj
      obtain ⟨b, o, h1, _, h2⟩ := S.elem hj'
      injection h1 with h1; injection h1 with h1 h3 _
      subst h1; subst h3
      rw [h2]; simp [List.getD_eq_getElem?_getD, hj']
    refine (Try.slices_Clone_int g 0 K c ((List.range K).map y) w (by simp) (by omega) hc).mono fun e w' ⟨u, h1, h2, _, h4⟩ => ?_
    have hR : Row w' w.heap.size u ((List.range K).map y) := by
      unfold Row
      have : ((List.range K).map y).take K = (List.range K).map y := List.take_of_length_le (by simp)
      rw [this] at h2
      simpa using h2
    obtain ⟨a', cp, rfl, hI⟩ := is_of_row hR
    exact ⟨a', cp, h1, hI, h4⟩
/-- a block of the call's own whose elements from the k-th on are those of z -/
structure Ra (w : World) (g n k : Nat) (z : Nat → Int) : Prop where
  cells : ∃ cur, w.heap[g]? = some (.cells cur 3 (0, 0)) ∧ ∀ j, k ≤ j → j < n → cur[j]? = some (.int .i64 (z j))
theorem Ra.lt {w : World} {g n k : Nat} {z : Nat → Int} (r : Ra w g n k z) : g < w.heap.size := by obtain ⟨_, h, _⟩ := r.cells; exact Hp.blk_lt h
theorem Ra.cell {w : World} {g n k : Nat} {z : Nat → Int} (r : Ra w g n k z) {j : Nat} (h1 : k ≤ j) (h2 : j < n) : w.cell? ⟨g, j, none⟩ = some (.int .i64 (z j)) := by obtain ⟨_, h, hc⟩ := r.cells; exact Hp.blk_cell h (hc j h1 h2)
theorem Ra.free {w : World} {g n k : Nat} {z : Nat → Int} (r : Ra w g n k z) (j : Nat) : w.frozen? ⟨g, j, none⟩ = false := by obtain ⟨_, h, _⟩ := r.cells; exact Hp.blk_free h
theorem Ra.later {w w' : World} {g n k : Nat} {z : Nat → Int} (r : Ra w g n k z) (h : Below w.heap.size w w') : Ra w' g n k z := by obtain ⟨cur, hh, hc⟩ := r.cells; exact ⟨cur, (h.block g r.lt).trans hh, hc⟩
theorem Ra.below {w w' : World} {B g n k : Nat} {z : Nat → Int} (r : Ra w g n k z) (hg : g < B) (h : Below B w w') : Ra w' g n k z := by obtain ⟨cur, hh, hc⟩ := r.cells; exact ⟨cur, (h.block g hg).trans hh, hc⟩
theorem Ra.drewN {w : World} {g n k : Nat} {z : Nat → Int} (r : Ra w g n k z) (m : Nat) : Ra (w.drewN m) g n k z := ⟨r.cells⟩
theorem Ra.set {w : World} {g n k : Nat} {z : Nat → Int} (r : Ra w g n k z) (v : Value) : Ra (w.setCell ⟨g, k, none⟩ v) g n (k + 1) z := by
  obtain ⟨cur, hh, hc⟩ := r.cells
  refine ⟨_, Hp.blk_set hh, fun j h1 h2 => ?_⟩
  rw [Array.getElem?_setIfInBounds, if_neg (by omega)]
  exact hc j (by omega) h2
theorem Ra.is {w : World} {g n : Nat} {z : Nat → Int} (r : Ra w g n 0 z) : Is w (some ⟨g, 0, none⟩) n z := by obtain ⟨cur, hh, hc⟩ := r.cells; exact Is.of_block hh fun i hi => hc i (by omega) hi
theorem ra_of_row {w : World} {base : Nat} {v : Value} {zs : List Int} (h : Row w base v zs) (h0 : 0 < zs.length) : ∃ g cap, v = .slice (some ⟨g, 0, none⟩) zs.length cap ∧ base ≤ g ∧ Ra w g zs.length 0 (fun i => zs.getD i 0) ∧ zs.length ≤ cap := by
  rcases h.form with ⟨_, rfl⟩ | ⟨g, cap, cur, hv, hg, hh, hn, hc⟩
  · simp at h0
  · exact ⟨g, cap, hv, hg, ⟨cur, hh, fun j _ hj => hc j hj⟩, hn⟩
theorem dcL_ok {K : Nat} {y : Nat → Int} (h : Yx.chk K y = 0) {N : Nat} (hN : 1 ≤ N) : Yx.dcL K y N = Yx.dec y N K ∧ Yx.dcE K y N = 0 := by
  unfold Yx.dcL Yx.dcE
  rw [if_pos ⟨h, by omega⟩, if_pos h, if_neg (by omega), Int.toNat_natCast]; exact ⟨rfl, rfl⟩
theorem dtE_ok {K : Nat} {y : Nat → Int} (h : Yx.chk K y = 0) : (K < 2 → Yx.dtE K y = 14 ∧ dtN K y = 0) ∧ (2 ≤ K → Yx.dtE K y = 0) := by
  unfold Yx.dtE dtN
  rw [if_pos h]
  exact ⟨fun g => ⟨by rw [if_pos g], by rw [if_neg (by omega)]⟩, fun g => by rw [if_neg (by omega)]⟩
def bump (f : Nat → Int) (k i : Nat) : Int := if i < k then f i + 1 else f i
theorem bump_zero (f : Nat → Int) : bump f 0 = f := by funext i; unfold bump; rw [if_neg (by omega)]
theorem bump_at (f : Nat → Int) (k : Nat) : bump f k k = f k := by unfold bump; rw [if_neg (by omega)]
theorem bump_set (f : Nat → Int) (k : Nat) : upd (bump f k) k (f k + 1) = bump f (k + 1) := by
  funext i; unfold upd bump
  by_cases e : i = k
  · subst e; rw [if_pos rfl, if_pos (by omega)]
  · rw [if_neg e]
    by_cases h : i < k
    · rw [if_pos h, if_pos (by omega)]
    · rw [if_neg h, if_neg (by omega)]
/-- the numbers of a round of the check of Detrend -/
theorem dt_round {K k : Nat} {y : Nat → Int} (hK2 : 2 ≤ K) (hKm : K ≤ 1000) (hk : k < K) (yb : ∀ i, i < K → -2147483648 ≤ y i ∧ y i ≤ 2147483647) {E S1 S2 : Int} (hE : Yx.dt K y k = E) (h1 : ((K : Int) - 1) * (E - y k + y 0) = S1) (h2 : (y (K - 1) - y 0) * (k : Int) = S2) :
    0 ≤ S1 + S2 ∧ S1 + S2 < (K : Int) - 1 ∧ -2251799813685248 ≤ S2 ∧ S2 ≤ 2251799813685248 ∧ -2251808403619840 ≤ E ∧ E ≤ 2251808403619840 := by
  have R := Yx.dt_rest (i := k) y hK2
  rw [hE, h1, h2] at R
  have b0 := yb 0 (by omega); have b1 := yb (K - 1) (by omega); have b2 := yb k hk
  have P := dk_bd (D := y (K - 1) - y 0) (k := k) (by omega) (by omega) (by omega) (by omega)
  rw [h2] at P
  have F := fdiv_between (b := (K : Int) - 1) P.1 P.2 (by omega) (by omega) (by omega)
  have e : Yx.dt K y k = y k - y 0 - Int.fdiv S2 ((K : Int) - 1) := by unfold Yx.dt; rw [h2]
  rw [hE] at e
  exact ⟨R.1, R.2, P.1, P.2, by omega, by omega⟩
theorem Ra.set_ne {w : World} {g n k : Nat} {z : Nat → Int} (r : Ra w g n k z) {c i : Nat} {v : Value} (hc : g ≠ c) : Ra (w.setCell ⟨c, i, none⟩ v) g n k z := by obtain ⟨cur, hh, hcc⟩ := r.cells; exact ⟨cur, Hp.blk_set_ne hh hc, hcc⟩
theorem decim_own (a : Option Addr) (len cap : Nat) (x : Nat → Int) (v : Int) (P : Nat) (hv : v = (P : Int)) (h1 : 1 ≤ P) (h2 : P ≤ 100000) (hc : Yx.chk len x = 0) (w : World) (S : Is w a len x) :
    Calls Try.prog 26 #[.slice a len cap, .int .i64 v] w fun e w' => ∃ u, e = .returned (.tuple #[u, .int .i64 0]) ∧ Row w' w.heap.size u (Yx.dec x P len) ∧ Below w.heap.size w w' := by
  subst hv
  have := decimate_any a len cap x P w S (by omega)
  obtain ⟨e1, e2⟩ := dcL_ok hc h1
  rw [e1, e2] at this
  exact this
theorem z_facts {K : Nat} {y : Nat → Int} (hK : K ≤ 1000) (yb : ∀ i, i < K → -2147483648 ≤ y i ∧ y i ≤ 2147483647) {P : Nat} (hP : 1 ≤ P) :
    (Yx.dec y P K).length ≤ 1000 ∧ (0 < K → 0 < (Yx.dec y P K).length) ∧ (∀ i, i < (Yx.dec y P K).length → -2147483648 ≤ (Yx.dec y P K).getD i 0 ∧ (Yx.dec y P K).getD i 0 ≤ 2147483647) ∧ Yx.chk (Yx.dec y P K).length (fun i => (Yx.dec y P K).getD i 0) = 0 := by
  have h1 := Yx.dec_len y P K
  have hb : ∀ i, i < (Yx.dec y P K).length → -2147483648 ≤ (Yx.dec y P K).getD i 0 ∧ (Yx.dec y P K).getD i 0 ≤ 2147483647 := fun i hi => by
    obtain ⟨e1, e2⟩ := Yx.dec_at y hP hi
    rw [e1]; exact yb _ e2
  refine ⟨by omega, fun h => ?_, hb, Yx.chk_of (by omega) fun i hi => by have := hb i hi; omega⟩
  rw [Yx.dec_count y hP]
  exact Nat.div_pos (by omega) (by omega)
set_option maxHeartbeats 8000000 in
set_option maxRecDepth 4000 in
theorem law_StabilityEnds (a : Option Addr) (n cap : Nat) (zs : List Int) (N M : Int) (n1 : 0 ≤ N) (n2 : N ≤ 255) (m1 : 0 ≤ M) (m2 : M ≤ 255) (w : World) (S : In.IsInts .i32 w a n cap zs) :
    Calls Try.prog 11 #[.slice a n cap, .int .u8 N, .int .u8 M] w fun e w' => e = .returned (.bool true) ∧ Below w.heap.size w w' := by
  obtain ⟨N, rfl⟩ := Int.eq_ofNat_of_zero_le n1
  obtain ⟨M, rfl⟩ := Int.eq_ofNat_of_zero_le m1
  obtain ⟨l1, l2⟩ := S.lens
  have h0 : a = none → n = 0 ∧ cap = 0 := fun h => by
    rcases S with ⟨_, p, q, _⟩ | ⟨x, hx, _⟩
    · exact ⟨p, q⟩
    · rw [h] at hx; cases hx
  have hx := xs_bd S
  have HI := Lib.hid (I32.of S); have H0 := Lib.hid h0; have HX := Lib.hid hx
  obtain ⟨K, hK⟩ : ∃ K, min n 1000 = K := ⟨_, rfl⟩
  have hKm : K ≤ 1000 := by omega
  have HK := Lib.hid hK
  have hx2 : ∀ i, i < K → -2147483648 ≤ xs zs i ∧ xs zs i ≤ 2147483647 := fun i hi => hx i (by omega)
  have ch := Yx.lin_chk (a := 0) (b := 0) hKm hx2 (by omega) (by omega) (by omega) (by omega)
  have yb : ∀ i, i < K → -2147483648 ≤ Yx.lin (xs zs) 0 0 i ∧ Yx.lin (xs zs) 0 0 i ≤ 2147483647 := fun i hi => by rw [Yx.lin0]; exact hx2 i hi
  obtain ⟨y, hy⟩ : ∃ y, Yx.lin (xs zs) 0 0 = y := ⟨_, rfl⟩
  rw [hy] at ch yb
  have HY := Lib.hid hy; have CH := Lib.hid ch; have YB := Lib.hid yb
  clear S h0 hx hx2 ch yb hK hy
  go_enter Try.func11, Try.ntmps11
  go_wp2_with (fail)
  refine (line_any a n cap (xs zs) 0 0 _ HI.out l1 l2 H0.out HX.out (by omega) (by omega) (by omega) (by omega)).mono ?_
  rw [HK.out, HY.out]
  rintro en w1 ⟨v1, c1, rfl, hc1, I1, hv1, B1⟩
  have HB1 := Lib.hid B1; have HL1 := Lib.hid I1
  have hv : v1 = none ∨ ∃ g, v1 = some ⟨g, 0, none⟩ := by
    rcases hv1 with h | ⟨g, h, _⟩
    · exact .inl h
    · exact .inr ⟨g, h⟩
  clear I1 B1 hv1
  go_wp2_with (fail)
  refine (clone_int v1 K c1 y _ HL1.out hv hKm).mono ?_
  rintro en w2 ⟨v2, c2, rfl, I2, B2⟩
  have HB2 := Lib.hid (bl_next HB1.out B2); have HL2 := Lib.hid (HL1.out.later B2); have HM2 := Lib.hid I2
  clear I2 B2 HB1 HL1 hv
  go_wp2_with (fail)
  refine (decim_own v1 K c1 y _ (N + 1) (by omega) (by omega) (by omega) CH.out _ HL2.out).mono ?_
  rintro en w3 ⟨u3, rfl, R3, B3⟩
  have HB3 := Lib.hid (bl_next HB2.out B3); have HC3 := Lib.hid B3; have HL3 := Lib.hid (HL2.out.later B3); have HM3 := Lib.hid (HM2.out.later B3)
  have HR3 := Lib.hid R3
  obtain ⟨a3, c3, rfl, I3⟩ := is_of_row2 R3
  have ZF := z_facts hKm YB.out (P := N + 1) (by omega)
  have HI3 := Lib.hid I3; have HZ := Lib.hid ZF
  obtain ⟨L, hL⟩ : ∃ L, (Yx.dec y (N + 1) K).length = L := ⟨_, rfl⟩
  have HLn := Lib.hid hL
  have hL1 : L ≤ 1000 := by rw [← hL]; exact ZF.1
  have hL0 : 0 < K → 0 < L := by rw [← hL]; exact ZF.2.1
  rw [hL]
  clear R3 B3 I3 ZF hL
  go_wp2_with (fail)
  refine (decim_own a3 L c3 (lst (Yx.dec y (N + 1) K)) _ (M + 1) (by omega) (by omega) (by omega) (by rw [← HLn.out]; exact HZ.out.2.2.2) _ (by rw [← HLn.out]; exact HI3.out)).mono ?_
  rw [← HLn.out, show Yx.dec (lst (Yx.dec y (N + 1) K)) (M + 1) (Yx.dec y (N + 1) K).length = Yx.dec y ((N + 1) * (M + 1)) K from Yx.dec_dec y (by omega) (by omega) K, HLn.out]
  obtain ⟨P, hP⟩ : ∃ P, (N + 1) * (M + 1) = P := ⟨_, rfl⟩
  have hPi : ((N : Int) + 1) * ((M : Int) + 1) = (P : Int) := by rw [← hP]; simp
  have hP1 : 1 ≤ P := by rw [← hP]; exact Nat.mul_pos (by omega) (by omega)
  have hP2 : P ≤ 65536 := by rw [← hP]; exact Nat.mul_le_mul (show N + 1 ≤ 256 by omega) (show M + 1 ≤ 256 by omega)
  have hP3 : (P : Int) ≤ 65536 := by omega
  rw [hP]
  rintro en w4 ⟨u4, rfl, R4, B4⟩
  have HB4 := Lib.hid (bl_next HB3.out B4); have HC4 := Lib.hid (bl_next HC3.out B4); have HL4 := Lib.hid (HL3.out.later B4); have HM4 := Lib.hid (HM3.out.later B4); have HR4 := Lib.hid (HR3.out.later B4)
  obtain ⟨a4, c4, rfl, I4⟩ := is_of_row2 R4
  have HI4 := Lib.hid I4
  clear R4 B4 I4 HB3 HC3 HL3 HM3 HR3 HI3 hP
  go_wp2_with (fail)
  refine (decim_own v1 K c1 y _ P (by omega) hP1 (by omega) CH.out _ HL4.out).mono ?_
  rintro en w5 ⟨u5, rfl, R5, B5⟩
  have HB5 := Lib.hid (bl_next HB4.out B5); have HC5 := Lib.hid (bl_next HC4.out B5); have HL5 := Lib.hid (HL4.out.later B5); have HM5 := Lib.hid (HM4.out.later B5); have HR5 := Lib.hid (HR4.out.later B5); have HI5 := Lib.hid (HI4.out.later B5)
  obtain ⟨a5, c5, rfl, I5⟩ := is_of_row2 R5
  have HJ5 := Lib.hid I5
  clear R5 B5 I5 HB4 HC4 HL4 HM4 HR4 HI4
  have hL3 := Yx.dec_len y P K
  obtain ⟨L3, hL3e⟩ : ∃ L, (Yx.dec y P K).length = L := ⟨_, rfl⟩
  have HL3e := Lib.hid hL3e
  rw [hL3e] at hL3
  rw [hL3e]
  clear hL3e
  go_wp2_with (fail)
  refine (equal_same _ (by rw [← HL3e.out]; exact HI5.out) (by rw [← HL3e.out]; exact HJ5.out) (by omega)).mono ?_
  rintro en w' ⟨rfl, q, rfl⟩
  have HB6 := Lib.hid (Hp.drewN HB5.out q); have HC6 := Lib.hid (Hp.drewN HC5.out q); have HL6 := Lib.hid (HL5.out.drewN q); have HM6 := Lib.hid (HM5.out.drewN q); have HR6 : Hid (Row (w5.drewN q) _ _ _) := Lib.hid HR5.out
  clear HB5 HC5 HL5 HM5 HR5 HI5 HJ5
  rcases (show K = 0 ∨ K = 1 ∨ 2 ≤ K by omega) with rfl | rfl | hK2
  · skip
    have D1 := (dtE_ok CH.out).1 (by omega)
    go_wp2_with (fail)
    refine (detrend_any v1 0 c1 y _ HL6.out).mono ?_
    rw [D1.1, D1.2]
    rintro en w7 ⟨a7, c7, rfl, I7, B7⟩
    have HB7 := Lib.hid (bl_next HB6.out B7)
    clear B7
    go_wp2_with (fail)
    refine (awake48_any _).mono ?_
    rintro en w10 ⟨rfl, B10⟩
    have HB10 := Lib.hid (bl_next HB7.out B10)
    clear B10
    go_wp2_with (fail)
    go_ret
    exact ⟨rfl, HB10.out⟩
  · have hL4 : 0 < L := by omega
    have D1 := (dtE_ok CH.out).1 (by omega)
    go_wp2_with (fail)
    refine (detrend_any v1 1 c1 y _ HL6.out).mono ?_
    rw [D1.1, D1.2]
    rintro en w7 ⟨a7, c7, rfl, I7, B7⟩
    have HB7 := Lib.hid (bl_next HB6.out B7)
    clear B7
    go_wp2_with (fail)
    refine (awake48_any _).mono ?_
    rintro en w10 ⟨rfl, B10⟩
    have HB10 := Lib.hid (bl_next HB7.out B10)
    clear B10
    go_wp2_with (fail)
    go_ret
    exact ⟨rfl, HB10.out⟩
  · have hL4 : 0 < L := by omega
    have hL5 : (0 : Int) < (L : Int) := by omega
    go_wp2_with (fail)
    refine (detrend_yes v1 K c1 y _ HL6.out CH.out hK2).mono ?_
    rintro en w7 ⟨g, rfl, O7, hg, B7⟩
    have HB7 := Lib.hid (bl_next HB6.out B7); have HC7 := Lib.hid (bl_next HC6.out B7); have HL7 := Lib.hid (HL6.out.later B7); have HM7 := Lib.hid (HM6.out.later B7)
    obtain ⟨ga, ca, hv, hga, RA, hca⟩ := ra_of_row (HR6.out) (by rw [HLn.out]; exact hL4)
    rw [HLn.out] at hv RA
    obtain ⟨rfl, rfl⟩ : a3 = some ⟨ga, 0, none⟩ ∧ c3 = ca := by injection hv with e1 _ e2; exact ⟨e1, e2⟩
    have hlt := RA.lt
    have HRA := Lib.hid (RA.later B7); have HO := Lib.hid O7
    have hgg : ga < g := Nat.lt_of_lt_of_le hlt hg
    have hg2 : w2.heap.size ≤ g := Nat.le_trans HC6.out.size hg
    have hg1 : w.heap.size ≤ g := Nat.le_trans HB6.out.size hg
    have hga1 : w.heap.size ≤ ga := Nat.le_trans HB2.out.size hga
    have hgn : ga ≠ g := by omega
    have o0 := O7.cell (i := 0) (by omega); have o1 := O7.cell (i := K - 1) (by omega)
    rw [Yx.dt_first] at o0
    rw [Yx.dt_last y hK2] at o1
    have i2 : (2 : Int) ≤ (K : Int) := by omega
    have i3 : (K : Int) ≤ 1000 := by omega
    have T1 : ((K : Int) - 1).toNat = K - 1 := by omega
    have hl1 : K - 1 < K := by omega
    have hl0 : 0 < K := by omega
    clear B7 O7 RA hv HR6 HB6 HC6 HL6 HM6
    go_wp2_with (fail)
    go_loopw [125] (fun c wr => ∃ k : Nat, k ≤ K ∧ c = .int .i64 k ∧ Ob wr g K (bump (Yx.dt K y) k) ∧ Ra wr ga L 0 (fun i => (Yx.dec y (N + 1) K).getD i 0) ∧ Below w2.heap.size w2 wr ∧ Below w.heap.size w wr) (fun c _ => K - (intOf c).toNat)
    case atStart => exact ⟨0, by omega, rfl, by rw [bump_zero]; exact HO.out, HRA.out, HC7.out, HB7.out⟩
    case round =>
      obtain ⟨k, hk, rfl, ob, ra, hc, hb⟩ := hrel
      have O := Lib.hid ob; have RR := Lib.hid ra; have HCr := Lib.hid hc; have HBr := Lib.hid hb
      clear ob ra hc hb
      by_cases hlt : k < K
      · obtain ⟨b, o, rfl, hbl, hcl⟩ := (HL2.out.later HCr.out).addr (by omega)
        have q1 := O.out.cell hlt
        rw [bump_at] at q1
        have q2 := O.out.free k
        have y0 := hcl 0 hl0; have y1 := hcl (K - 1) hl1; have yk := hcl k hlt
        rw [Nat.add_zero] at y0
        obtain ⟨E, hE⟩ : ∃ E, Yx.dt K y k = E := ⟨_, rfl⟩
        obtain ⟨S1, hS1⟩ : ∃ E', ((K : Int) - 1) * (E - y k + y 0) = E' := ⟨_, rfl⟩
        obtain ⟨S2, hS2⟩ : ∃ E', (y (K - 1) - y 0) * (k : Int) = E' := ⟨_, rfl⟩
        have D := dt_round hK2 hKm hlt YB.out hE hS1 hS2
        have d1 := D.1; have d2 := D.2.1; have d3 := D.2.2.1; have d4 := D.2.2.2.1; have d5 := D.2.2.2.2.1; have d6 := D.2.2.2.2.2
        have b0 := YB.out 0 (by omega); have b1 := YB.out (K - 1) (by omega); have b2 := YB.out k hlt
        obtain ⟨u, hu⟩ : ∃ u, y 0 = u := ⟨_, rfl⟩
        obtain ⟨t, ht⟩ : ∃ u, y (K - 1) = u := ⟨_, rfl⟩
        obtain ⟨v, hv⟩ : ∃ u, y k = u := ⟨_, rfl⟩
        have HE := Lib.hid hE
        rw [hE] at q1
        rw [hu] at y0 b0 hS1 hS2; rw [ht] at y1 b1 hS2; rw [hv] at yk b2 hS1
        have u1 := b0.1; have u2 := b0.2; have t1 := b1.1; have t2 := b1.2; have v3 := b2.1; have v4 := b2.2
        clear hE D b0 b1 b2 hu ht hv hcl
        have s1 : -9223372036854775808 ≤ S1 := by omega
        have s2 : S1 ≤ 9223372036854775807 := by omega
        go_wp2_with (fail)
        go_quiet (fail)
        go_wp2_with (fail)
        go_roundw
        case rel =>
          have O2 := (O.out.drewN nq).set k (E + 1)
          rw [show upd (bump (Yx.dt K y) k) k (E + 1) = bump (Yx.dt K y) (k + 1) by rw [← HE.out]; exact bump_set _ _] at O2
          exact ⟨k + 1, by omega, by go_num, O2, (RR.out.drewN nq).set_ne hgn, by have := HCr.out; (repeat (first | exact Below.refl _ _ | refine Below.drew ?_ | refine Hp.drewN ?_ _ | refine Below.setCell ?_ (by first | (simp; done) | (simp; omega) | omega) _ | refine Below.alloc ?_ (by first | (simp; done) | (simp; omega) | omega) _ | (refine Hp.step ?_ (by assumption)))), by have := HBr.out; (repeat (first | exact Below.refl _ _ | refine Below.drew ?_ | refine Hp.drewN ?_ _ | refine Below.setCell ?_ (by first | (simp; done) | (simp; omega) | omega) _ | refine Below.alloc ?_ (by first | (simp; done) | (simp; omega) | omega) _ | (refine Hp.step ?_ (by assumption))))⟩
        case measure => simp [intOf]; omega
      · obtain rfl : K = k := by omega
        go_wp2_with (fail)
        go_loopw [169] (fun c wr => ∃ k : Nat, k ≤ L ∧ c = .int .i64 k ∧ Ra wr ga L k (fun i => (Yx.dec y (N + 1) K).getD i 0) ∧ Below w2.heap.size w2 wr ∧ Below w.heap.size w wr) (fun c _ => L - (intOf c).toNat)
        case atStart => exact ⟨0, by omega, rfl, RR.out, HCr.out, HBr.out⟩
        case round =>
          obtain ⟨k, hk, rfl, ra, hc, hb⟩ := hrel
          have RA := Lib.hid ra; have HCs := Lib.hid hc; have HBs := Lib.hid hb
          clear ra hc hb
          by_cases hlt : k < L
          · have z1 := RA.out.cell (Nat.le_refl k) hlt
            have z2 := RA.out.free k
            have zb := HZ.out.2.2.1 k (by rw [HLn.out]; exact hlt)
            obtain ⟨v, hv⟩ : ∃ v, (Yx.dec y (N + 1) K).getD k 0 = v := ⟨_, rfl⟩
            rw [hv] at z1 zb
            have zb1 := zb.1; have zb2 := zb.2
            clear zb hv
            go_wp2_with (fail)
            go_roundw
            case rel => exact ⟨k + 1, by omega, by go_num, RA.out.set _, by have := HCs.out; (repeat (first | exact Below.refl _ _ | refine Below.drew ?_ | refine Hp.drewN ?_ _ | refine Below.setCell ?_ (by first | (simp; done) | (simp; omega) | omega) _ | refine Below.alloc ?_ (by first | (simp; done) | (simp; omega) | omega) _ | (refine Hp.step ?_ (by assumption)))), by have := HBs.out; (repeat (first | exact Below.refl _ _ | refine Below.drew ?_ | refine Hp.drewN ?_ _ | refine Below.setCell ?_ (by first | (simp; done) | (simp; omega) | omega) _ | refine Below.alloc ?_ (by first | (simp; done) | (simp; omega) | omega) _ | (refine Hp.step ?_ (by assumption))))⟩
            case measure => simp [intOf]; omega
          · go_wp2_with (fail)
            refine (equal_same _ (HL2.out.later HCs.out) (HM2.out.later HCs.out) (by omega)).mono ?_
            rintro en w' ⟨rfl, q', rfl⟩
            have HB9 := Lib.hid (Hp.drewN HBs.out q')
            go_wp2_with (fail)
            refine (awake48_any _).mono ?_
            rintro en w10 ⟨rfl, B10⟩
            have HB10 := Lib.hid (bl_next HB9.out B10)
            clear B10
            go_wp2_with (fail)
            go_ret
            exact ⟨rfl, HB10.out⟩
end Go.Proofs.Ytbidogefodfakaa.YxW
