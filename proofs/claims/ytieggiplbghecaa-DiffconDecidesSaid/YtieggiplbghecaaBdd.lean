/- Contracts of layer 51 for the law DiffconDecides: Max, Contains, proves, Cycle without a cycle. -/
import Derived.Test.YtieggiplbghecaaBty
set_option linter.unusedVariables false
set_option linter.unusedSimpArgs false
namespace Go.Proofs.Ytieggiplbghecaa.BxW
open Go.RowKit Ls Orw Rv Rw
/-- the greatest of the first k + 1 numbers -/
def mx (x : Nat → Int) : Nat → Int
  | 0 => x 0
  | k + 1 => if mx x k < x (k + 1) then x (k + 1) else mx x k
theorem mx_ge (x : Nat → Int) : ∀ k i, i ≤ k → x i ≤ mx x k
  | 0, i, h => by obtain rfl : i = 0 := by omega
                  exact Int.le_refl _
  | k + 1, i, h => by
    simp only [mx]
    by_cases e : i = k + 1
    · subst e; split <;> omega
    · have := mx_ge x k i (by omega); split <;> omega
theorem mx_from (x : Nat → Int) : ∀ k, ∃ i, i ≤ k ∧ mx x k = x i
  | 0 => ⟨0, Nat.le_refl _, rfl⟩
  | k + 1 => by
    obtain ⟨i, hi, e⟩ := mx_from x k
    simp only [mx]; split
    · exact ⟨k + 1, Nat.le_refl _, rfl⟩
    · exact ⟨i, by omega, e⟩
set_option maxHeartbeats 4000000 in
theorem max_any (a : Option Addr) (n c : Nat) (x : Nat → Int) (w : World) (S : Is w a n x) (h : 1 ≤ n) (hn : n ≤ 9223372036854775806) :
    Calls Try.prog 28 #[.slice a n c] w fun e w' => e = .returned (.int .i64 (mx x (n - 1))) ∧ w = w' := by
  obtain ⟨b, o, rfl, hb, hc⟩ := S.addr h
  have HC := Lib.hid hc
  have c0 := hc 0 h
  have i1 : ¬ (n : Int) < 1 := by omega
  rw [Nat.add_zero] at c0
  obtain ⟨X, eX⟩ : ∃ X, x 0 = X := ⟨_, rfl⟩
  have HX := Lib.hid eX
  rw [eX] at c0
  clear S hc eX
  go_enter Try.func28, Try.ntmps28
  go_wp2_with (fail)
  go_loopw [4, 3] (fun c d wr => w = wr ∧ ∃ k : Nat, 1 ≤ k ∧ k ≤ n ∧ c = .int .i64 k ∧ d = .int .i64 (mx x (k - 1))) (fun c _ _ => n - (intOf c).toNat)
  case atStart => exact ⟨rfl, 1, by omega, h, rfl, by rw [show mx x (1 - 1) = x 0 from rfl, HX.out]⟩
  case round =>
    obtain ⟨rfl, k, k1, hk, rfl, rfl⟩ := hrel
    by_cases hlt : k < n
    · have ck := HC.out k hlt
      have M := Lib.hid (show mx x k = if mx x (k - 1) < x k then x k else mx x (k - 1) by
        obtain ⟨q, rfl⟩ : ∃ q, k = q + 1 := ⟨k - 1, by omega⟩
        rfl)
      obtain ⟨Y, eY⟩ : ∃ X, x k = X := ⟨_, rfl⟩
      obtain ⟨Z, eZ⟩ : ∃ X, mx x (k - 1) = X := ⟨_, rfl⟩
      rw [eY] at ck M; rw [eZ] at M; rw [eZ]
      clear eY eZ
      go_wp2_with (fail)
      go_roundw
      case rel => exact ⟨trivial, k + 1, by omega, by omega, by go_num, by rw [show k + 1 - 1 = k from rfl, M.out]; exact int_eq (by split <;> omega)⟩
      case measure => (simp [intOf] <;> omega)
    · obtain rfl : n = k := by omega
      go_wp2_with (fail)
      go_ret
      exact ⟨rfl, rfl⟩
theorem contains_no (a : Option Addr) (k c : Nat) (x : Nat → Int) (v : Int) (w : World) (S : Is w a k x) (hk : k ≤ 1000) (h : ∀ j, j < k → x j ≠ v) :
    Calls Try.prog 40 #[.slice a k c, .int .i64 v] w fun e w' => e = .returned (.bool false) ∧ w' = w := by
  by_cases hz : k = 0
  · subst hz; exact Try.slices_Contains_int_empty a c v w
  · obtain ⟨b, o, rfl, _, hc⟩ := S.addr (by omega)
    refine (Try.slices_Contains_int b o k c ((List.range k).map x) v w (by simp) (by omega) (fun j hj => by
      have hj' : j < k := by simpa using hj
      rw [hc j hj']; simp [List.getD_eq_getElem?_getD, hj'])).mono fun e w' ⟨h1, h2⟩ => ⟨?_, h2⟩
    have ht : ((List.range k).map x).take k = (List.range k).map x := List.take_of_length_le (by simp)
    rw [h1, ht]
    refine Hp.ret_bool ?_
    rw [Bool.eq_false_iff]
    intro hcon
    rw [List.contains_iff_mem] at hcon
    simp only [List.mem_map, List.mem_range] at hcon
    obtain ⟨j, hj, e⟩ := hcon
    exact h j hj e
set_option maxHeartbeats 8000000 in
theorem cycle_no (n : Nat) (a : Option Addr) (m cap : Nat) (z : Nat → Nat → Int) (V : Bx.Vs n m z) (hs : Bx.St n z m (n - 1)) (w : World) (S : Ss 3 w a m z) :
    Calls Try.prog 26 #[.int .i64 n, .slice a m cap] w fun e w' => e = .returned (.tuple #[.slice none 0 0, .bool false]) ∧ Below w.heap.size w w' := by
  have hS := Lib.hid S; have hV := Lib.hid V; have HS := Lib.hid hs
  clear S V hs
  go_enter Try.func26, Try.ntmps26
  go_wp2_with (fail)
  go_step3
  go_wp2_with (fail)
  refine (check_at hS.out (Lib.hid (chk_vs hV.out))).mono ?_
  rintro en w1 ⟨rfl, B1⟩
  have HB := Lib.hid B1; have S1 := Lib.hid (hS.out.later B1)
  clear B1
  go_wp2_with (fail)
  refine (explore_any n a m cap z hV.out _ S1.out).mono ?_
  rintro en w2 ⟨gl, lv, G, E, rfl, hE, _, _, L2, B2⟩
  obtain rfl := end_st hE HS.out hV.out.n1
  obtain ⟨go, co, rfl⟩ := L2.row.at0 (k := n) (ptrs_len _ _ _) hV.out.n1
  have HB2 := Lib.hid (bl_next HB.out B2)
  clear B2 hE L2
  go_wp2_with (fail)
  try rw [Exit.noGoto_ret]
  go_ret2
  exact ⟨rfl, by have := HB2.out; have := HB2.out.size; (repeat (first | exact Below.refl _ _ | refine Below.drew ?_ | refine Hp.drewN ?_ _ | refine Below.setCell ?_ (by first | (simp; done) | (simp; omega) | omega) _ | refine Below.alloc ?_ (by first | (simp; done) | (simp; omega) | omega) _ | (refine Hp.step ?_ (by assumption))))⟩
set_option maxHeartbeats 16000000 in
set_option maxRecDepth 4000 in
theorem proves_yes (n : Nat) (a : Option Addr) (m cap : Nat) (z : Nat → Nat → Int) (V : Bx.Vs n m z) (s : List Int) (NG : Bx.Neg n m z s) (pa : Option Addr) (L pc : Nat) (hL : s.length = L) (w : World) (S : Ss 3 w a m z) (P : Is w pa L (fun i => s.getD i 0)) :
    Calls Try.prog 27 #[.slice a m cap, .slice pa L pc] w fun e w' => e = .returned (.bool true) ∧ Below w.heap.size w w' := by
  have n2 := V.n2; have m2 := V.m2
  have L1 : 1 ≤ L := by have := NG.pos; omega
  have L2 : L ≤ 160 := by have := NG.len; omega
  have hS := Lib.hid S; have hV := Lib.hid V; have HP := Lib.hid P; have HN := Lib.hid NG; have HL := Lib.hid hL
  have z1 : ¬ (L : Int) = 0 := by omega
  have z2 : ((L : Int) == 0) = false := by simp; omega
  have z3 : ¬ (160 : Int) < (L : Int) := by omega
  have z4 : (1 : Int) ≤ (L : Int) := by omega
  clear S V P NG hL
  go_enter Try.func27, Try.ntmps27
  go_wp2_with (fail)
  go_loopw [20, 5, 6] (fun c d v wr => ∃ k : Nat, k ≤ L ∧ c = .int .i64 k ∧ d = .int .i64 (Bx.sw z (s.take k)) ∧ Row wr w.heap.size v ((List.range k).map fun j => (Bx.fl z s j : Int)) ∧ Below w.heap.size w wr) (fun c _ _ _ => L - (intOf c).toNat)
  case atStart => exact ⟨0, by omega, rfl, rfl, Row.nil _ _, Below.refl _ _⟩
  case round =>
    obtain ⟨k, hk, rfl, rfl, hR, hb⟩ := hrel
    have HR := Lib.hid hR; have HB := Lib.hid hb
    have sz := hb.size
    obtain ⟨va, vc, rfl, IV⟩ := is_of_row hR
    have HI := Lib.hid IV
    clear hR hb IV
    by_cases hlt : k < L
    · have SP := HP.out.later HB.out
      obtain ⟨bp, op, rfl, hbp, hcp⟩ := SP.addr (by omega)
      have SL := hS.out.later HB.out
      obtain ⟨k2, ek2⟩ : ∃ k2, (k + 1) % L = k2 := ⟨_, rfl⟩
      have hk2 : k2 < L := by rw [← ek2]; exact Nat.mod_lt _ L1
      have rk : ((k : Int) + 1) % (L : Int) = (k2 : Int) := by rw [← ek2]; rw [Int.natCast_emod]; rfl
      have p1 := hcp k hlt; have p2 := hcp k2 hk2
      have o1 := HN.out.c.ok k (by have := HL.out; omega); have o2 := HN.out.c.ok k2 (by have := HL.out; omega)
      have lk : Bx.tl z s k = Bx.fl z s k2 := by
        by_cases e : k + 1 = L
        · have : k2 = 0 := by rw [← ek2, e]; exact Nat.mod_self L
          rw [this, ← HN.out.back]; congr 1; have := HL.out; omega
        · have : k2 = k + 1 := by rw [← ek2]; exact Nat.mod_eq_of_lt (by omega)
          rw [this]; exact HN.out.c.link k (by have := HL.out; omega)
      have SW := Bx.sw_take z (s := s) (k := k) (by have := HL.out; omega)
      have bd1 := sw_bd hV.out (s.take k) (fun i hi => chain_mem HN.out.c i (List.mem_of_mem_take hi))
      have tl1 : (s.take k).length ≤ 160 := by rw [List.length_take]; omega
      have far : ∀ j, j < k → (Bx.fl z s j : Int) ≠ (Bx.fl z s k : Int) := fun j hj => by
        have := HN.out.c.apart j k hj (by have := HL.out; omega); omega
      have RS := Lib.hid (range_succ (fun j => (Bx.fl z s j : Int)) k)
      obtain ⟨q, eq⟩ := Int.eq_ofNat_of_zero_le o1.1
      obtain ⟨q2, eq2⟩ := Int.eq_ofNat_of_zero_le o2.1
      have hq : q < m := by omega
      have hq2 : q2 < m := by omega
      rw [eq] at p1; rw [eq2] at p2
      obtain ⟨b, o, rfl, hbl, c0, c1, c2w⟩ := hS.out.elem3 hq
      replace c0 := (HB.out.cell (p := ⟨b, o + q * 3, none⟩) hbl).trans c0
      replace c1 := (HB.out.cell (p := ⟨b, o + q * 3 + 1, none⟩) hbl).trans c1
      have hbl2 : b < wr.heap.size := by omega
      obtain ⟨b', o', hbo, _, d0, _, _⟩ := SL.elem3 hq2
      obtain ⟨rfl, rfl⟩ : b = b' ∧ o = o' := by injection hbo with e1; injection e1 with e1 e2; exact ⟨e1, e2⟩
      have v1 := hV.out.ok q hq; have v2 := hV.out.ok q2 hq2
      have f0 : z q 0 = (Bx.fl z s k : Int) := by unfold Bx.fl Bx.fr; rw [eq]; simp; omega
      have f1 : z q 1 = (Bx.tl z s k : Int) := by unfold Bx.tl Bx.to; rw [eq]; simp; omega
      have f2 : z q2 0 = (Bx.tl z s k : Int) := by rw [lk]; unfold Bx.fl Bx.fr; rw [eq2]; simp; omega
      rw [f0] at c0; rw [f1] at c1; rw [f2] at d0
      rw [eq, Int.toNat_natCast] at SW
      obtain ⟨U, eU⟩ : ∃ U, Bx.fl z s k = U := ⟨_, rfl⟩
      obtain ⟨T, eT⟩ : ∃ U, Bx.tl z s k = U := ⟨_, rfl⟩
      obtain ⟨W, eW⟩ : ∃ W, z q 2 = W := ⟨_, rfl⟩
      obtain ⟨X, eX⟩ : ∃ X, Bx.sw z (s.take k) = X := ⟨_, rfl⟩
      rw [eU] at c0 far RS; rw [eT] at c1 d0; rw [eW] at c2w SW v1; rw [eX] at SW bd1
      rw [eX]
      have x1 : -1441151880758558720 ≤ X := by omega
      have x2 : X ≤ 1441151880758558720 := by omega
      have w1 := v1.2.2.2.2.1; have w2 := v1.2.2.2.2.2
      have HSW := Lib.hid SW; have HFA := Lib.hid far
      have CN := Lib.hid (fun (N : Nat) => contains_no va k vc _ (U : Int) (wr.drewN N) (HI.out.drewN N) (by omega) HFA.out)
      have AP := Lib.hid (fun (N : Nat) => Ap.mk' (HR.out.drewN (n := N)) (show w.heap.size ≤ (wr.drewN N).heap.size from sz) (U : Int))
      have BX := Lib.hid (fun (N : Nat) => Below.alloc (Hp.drewN HB.out N) (show w.heap.size ≤ (wr.drewN N).heap.size from sz) (.cells #[.int .i64 (U : Int)] 3))
      have sm := Lib.hid (show ((List.range k).map fun j => (Bx.fl z s j : Int)).length ≤ 1000000 by simp; omega)
      clear SP SL hcp ek2 o1 o2 lk SW bd1 tl1 far eq eq2 hbo v1 v2 f0 f1 f2 eU eT eW eX
      go_wp2_with (fail)
      go_quiet ((go_at_call 40; exact (CN.out _).mono fun _ _ ⟨h1, h2⟩ => ⟨h1, _, h2⟩))
      go_wp2_with (at_builtin; refine append_int rfl (.tmp 73) (.tmp 79) rfl rfl (AP.out _).row ⟨wr.heap.size, 0, none⟩ rfl (AP.out _).cell sm.out (AP.out _).base ?_; intro v2 w2 R2 G2; have HR2 := Lib.hid R2; have HB2 := Lib.hid (Row.below (AP.out _).row (Nat.le_refl _) G2 (BX.out _) (AP.out _).base); have cW := (HB2.out.cell (p := ⟨b, o + q * 3 + 2, none⟩) hbl).trans c2w; clear R2 G2)
      go_roundw
      case rel => exact ⟨k + 1, by omega, by go_num, by rw [HSW.out], by rw [RS.out]; exact HR2.out, HB2.out⟩
      case measure => (simp [intOf] <;> omega)
    · obtain rfl : L = k := by omega
      have ng := HN.out.neg
      rw [show s.take L = s by rw [← HL.out]; exact List.take_length]
      obtain ⟨X, eX⟩ : ∃ X, Bx.sw z s = X := ⟨_, rfl⟩
      rw [eX] at ng
      rw [eX]
      clear eX
      go_wp2_with (fail)
      go_ret
      exact ⟨Hp.ret_bool (by first | (simp; done) | (simp; omega)), HB.out⟩
end Go.Proofs.Ytieggiplbghecaa.BxW
