/- Contracts of layer 51: the reference's Tight; Tight's errors. -/
import Derived.Test.YtieggiplbghecaaBo
import Derived.Test.YtieggiplbghecaaBt
set_option linter.unusedVariables false
set_option linter.unusedSimpArgs false
namespace Go.Proofs.Ytieggiplbghecaa.BxW
open Go.RowKit Ls Orw Rv Rw
set_option maxHeartbeats 4000000 in
theorem tight_bad (n : Int) (a : Option Addr) (m cap : Nat) (z : Nat → Nat → Int) {r : Int} (hc : Hid (Bx.chk n m z = r)) (hr : (r != 0) = true) (i j : Int) (w : World) (S : Ss 3 w a m z) :
    Calls Try.prog 20 #[.int .i64 n, .slice a m cap, .int .i64 i, .int .i64 j] w (ErrPost r w) := by
  have hS := Lib.hid S
  clear S
  go_enter Try.func20, Try.ntmps20
  go_wp2_with (fail)
  refine (check_at hS.out hc).mono ?_
  rintro en w1 ⟨rfl, B1⟩
  have HB := Lib.hid B1
  clear B1
  go_wp2_with (fail)
  go_ret2
  exact ⟨rfl, HB.out⟩
set_option maxHeartbeats 4000000 in
theorem tight_range (n : Nat) (a : Option Addr) (m cap : Nat) (z : Nat → Nat → Int) (V : Bx.Vs n m z) (i j : Int) (h : i < 0 ∨ (0 ≤ i ∧ (n : Int) ≤ i) ∨ (0 ≤ i ∧ i < (n : Int) ∧ j < 0) ∨ (0 ≤ i ∧ i < (n : Int) ∧ 0 ≤ j ∧ (n : Int) ≤ j)) (w : World) (S : Ss 3 w a m z) :
    Calls Try.prog 20 #[.int .i64 n, .slice a m cap, .int .i64 i, .int .i64 j] w (ErrPost 3 w) := by
  have hS := Lib.hid S; have hV := Lib.hid V
  clear S V
  rcases h with h | ⟨h, h2⟩ | ⟨h, h2, h3⟩ | ⟨h, h2, h3, h4⟩
  all_goals
    go_enter Try.func20, Try.ntmps20
    go_wp2_with (fail)
    refine (check_at hS.out (Lib.hid (chk_vs hV.out))).mono ?_
    rintro en w1 ⟨rfl, B1⟩
    have HB := Lib.hid B1
    clear B1
    go_wp2_with (fail)
    go_ret2
    exact ⟨rfl, HB.out⟩
set_option maxHeartbeats 8000000 in
theorem tight_cyc (n : Nat) (a : Option Addr) (m cap : Nat) (z : Nat → Nat → Int) (V : Bx.Vs n m z) (hs : ¬ Bx.St n z m (n - 1)) (i j : Nat) (hi : i < n) (hj : j < n) (w : World) (S : Ss 3 w a m z) :
    Calls Try.prog 20 #[.int .i64 n, .slice a m cap, .int .i64 i, .int .i64 j] w (ErrPost 20 w) := by
  have hS := Lib.hid S; have hV := Lib.hid V; have HS := Lib.hid hs
  clear S V hs
  have q1 : ¬ (i : Int) < 0 := by omega
  have q2 : ¬ (n : Int) ≤ (i : Int) := by omega
  have q3 : ¬ (j : Int) < 0 := by omega
  have q4 : ¬ (n : Int) ≤ (j : Int) := by omega
  go_enter Try.func20, Try.ntmps20
  go_wp2_with (fail)
  refine (check_at hS.out (Lib.hid (chk_vs hV.out))).mono ?_
  rintro en w1 ⟨rfl, B1⟩
  have HB := Lib.hid B1; have S1 := Lib.hid (hS.out.later B1)
  clear B1
  go_wp2_with (fail)
  refine (explore_any n a m cap z hV.out _ S1.out).mono ?_
  rintro en w2 ⟨gl, lv, G, E, rfl, hE, hgl, O2, L2, B2⟩
  obtain ⟨e, he, rfl, _⟩ := end_not hE HS.out
  obtain ⟨go, co, rfl⟩ := L2.row.at0 (k := n) (ptrs_len _ _ _) hV.out.n1
  have HB2 := Lib.hid (bl_next HB.out B2)
  have j0 : (0 : Int) ≤ (e : Int) := by omega
  clear B2 hE L2 O2
  go_wp2_with (fail)
  go_ret2
  exact ⟨rfl, by have := HB2.out; have := HB2.out.size; (repeat (first | exact Below.refl _ _ | refine Below.drew ?_ | refine Hp.drewN ?_ _ | refine Below.setCell ?_ (by first | (simp; done) | (simp; omega) | omega) _ | refine Below.alloc ?_ (by first | (simp; done) | (simp; omega) | omega) _ | (refine Hp.step ?_ (by assumption))))⟩
set_option maxHeartbeats 8000000 in
theorem tight_none (n : Nat) (a : Option Addr) (m cap : Nat) (z : Nat → Nat → Int) (V : Bx.Vs n m z) (hs : Bx.St n z m (n - 1)) (i j : Nat) (hi : i < n) (hj : j < n) (hf : Bx.F z m n i j = 4611686018427387904) (w : World) (S : Ss 3 w a m z) :
    Calls Try.prog 20 #[.int .i64 n, .slice a m cap, .int .i64 i, .int .i64 j] w (ErrPost 11 w) := by
  have hS := Lib.hid S; have hV := Lib.hid V; have HS := Lib.hid hs; have HF := Lib.hid hf
  clear S V hs hf
  have q1 : ¬ (i : Int) < 0 := by omega
  have q2 : ¬ (n : Int) ≤ (i : Int) := by omega
  have q3 : ¬ (j : Int) < 0 := by omega
  have q4 : ¬ (n : Int) ≤ (j : Int) := by omega
  go_enter Try.func20, Try.ntmps20
  go_wp2_with (fail)
  refine (check_at hS.out (Lib.hid (chk_vs hV.out))).mono ?_
  rintro en w1 ⟨rfl, B1⟩
  have HB := Lib.hid B1; have S1 := Lib.hid (hS.out.later B1)
  clear B1
  go_wp2_with (fail)
  refine (explore_any n a m cap z hV.out _ S1.out).mono ?_
  rintro en w2 ⟨gl, lv, G, E, rfl, hE, hgl, O2, L2, B2⟩
  obtain rfl := end_st hE HS.out hV.out.n1
  obtain ⟨go, co, rfl⟩ := L2.row.at0 (k := n) (ptrs_len _ _ _) hV.out.n1
  obtain ⟨ws, hws⟩ : ∃ ws, w2.alloc (.cells #[.slice (some ⟨gl, 0, none⟩) n n, .slice (some ⟨go, 0, none⟩) n co, .int .i64 (-1)] 52) = ws := ⟨_, rfl⟩
  have HB2 := Lib.hid (bl_next HB.out B2)
  have HB3 : Hid (Below w.heap.size w ws) := Lib.hid (by have := HB2.out; have := HB2.out.size; rw [← hws]; (repeat (first | exact Below.refl _ _ | refine Below.drew ?_ | refine Hp.drewN ?_ _ | refine Below.setCell ?_ (by first | (simp; done) | (simp; omega) | omega) _ | refine Below.alloc ?_ (by first | (simp; done) | (simp; omega) | omega) _ | (refine Hp.step ?_ (by assumption)))))
  have BA : Hid (Below w2.heap.size w2 ws) := Lib.hid (by rw [← hws]; (repeat (first | exact Below.refl _ _ | refine Below.drew ?_ | refine Hp.drewN ?_ _ | refine Below.setCell ?_ (by first | (simp; done) | (simp; omega) | omega) _ | refine Below.alloc ?_ (by first | (simp; done) | (simp; omega) | omega) _ | (refine Hp.step ?_ (by assumption)))))
  have S2 := Lib.hid ((S1.out.later B2).later BA.out)
  have sb : ws.heap[w2.heap.size]? = some (.cells #[.slice (some ⟨gl, 0, none⟩) n n, .slice (some ⟨go, 0, none⟩) n co, .int .i64 (-1)] 52 (0, 0)) := by rw [← hws]; exact Hp.blk_new _ _
  have s2 := Hp.blk_cell (o := 2) sb rfl
  clear B2 hE L2 O2 sb
  go_wp2_with (fail)
  refine (matrix_any n a m cap z _ hV.out (Bx.pt_of hV.out HS.out) (bf_lo hV.out) _ S2.out).mono ?_
  rintro en w3 ⟨rfl, M, B3⟩
  have HB4 := Lib.hid (bl_next HB3.out B3)
  have e1 := M.out hi hi
  have e2 := M.cell hi hj
  rw [HF.out] at e2
  clear M B3
  go_wp2_with (fail)
  go_ret2
  exact ⟨rfl, HB4.out⟩
end Go.Proofs.Ytieggiplbghecaa.BxW
