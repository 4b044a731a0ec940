/- Contracts of layer 51: Bounds, Solve. -/
import Derived.Test.YtieggiplbghecaaBk
set_option linter.unusedVariables false
set_option linter.unusedSimpArgs false
namespace Go.Proofs.Ytieggiplbghecaa.BxW
open Go.RowKit Ls Orw Rv
theorem end_st {n m : Nat} {z : Nat → Nat → Int} {E : Int} (h : EndP n m z E) (s : Bx.St n z m (n - 1)) (hn : 1 ≤ n) : E = -1 := by
  rcases h with ⟨j, hj, _, hl⟩ | ⟨h, _⟩
  · have := s j hj
    rw [show n - 1 + 1 = n by omega] at this; omega
  · exact h
theorem end_not {n m : Nat} {z : Nat → Nat → Int} {E : Int} (h : EndP n m z E) (s : ¬ Bx.St n z m (n - 1)) : ∃ j : Nat, j < n ∧ E = j ∧ Bx.bf z m n j < Bx.bf z m (n - 1) j := by
  rcases h with h | ⟨_, h⟩
  · exact h
  · exact absurd h s
/-- an error and no list -/
def ErrPost (E : Int) (w : World) (e : Ending) (w' : World) : Prop := e = .returned (.tuple #[.slice none 0 0, .int .i64 E]) ∧ Below w.heap.size w w'
/-- a matrix that the call made -/
def MatPost (n : Nat) (f : Nat → Nat → Int) (w : World) (e : Ending) (w' : World) : Prop := ∃ g, e = .returned (.tuple #[.slice (some ⟨g, 0, none⟩) n n, .int .i64 0]) ∧ Mo w' g n n f ∧ w.heap.size ≤ g ∧ Below w.heap.size w w'
/-- a list that the call made -/
def OwnPost (n : Nat) (f : Nat → Int) (w : World) (e : Ending) (w' : World) : Prop := ∃ g, e = .returned (.tuple #[.slice (some ⟨g, 0, none⟩) n n, .int .i64 0]) ∧ Ob w' g n f ∧ w.heap.size ≤ g ∧ Below w.heap.size w w'
theorem chk_vs {n m : Nat} {z : Nat → Nat → Int} (V : Bx.Vs n m z) : Bx.chk n m z = 0 := Bx.of_vs V
theorem bf_lo {n m : Nat} {z : Nat → Nat → Int} (V : Bx.Vs n m z) : ∀ i, i < n → -1441151880758558720 ≤ Bx.bf z m (n - 1) i ∧ Bx.bf z m (n - 1) i ≤ 0 := fun i hi => by
  have := Bx.bf_bd V (n - 1) i
  have := V.n2
  omega
theorem bl_next {w0 a b : World} (h : Below w0.heap.size w0 a) (k : Below a.heap.size a b) : Below w0.heap.size w0 b := h.trans (k.mono h.size)
theorem field2 (a b : Option Addr) (n c n' c' : Nat) (E : Int) (W : World) : (Instr.field 52 (.agg #[.slice a n c, .slice b n' c', .int .i64 E]) 2).run Try.prog W = .ok (.int .i64 E) W := by kernel_rfl
theorem check_at {n : Int} {a : Option Addr} {m cap : Nat} {z : Nat → Nat → Int} {w : World} {r : Int} (S : Ss 3 w a m z) (h : Hid (Bx.chk n m z = r)) :
    Calls Try.prog 15 #[.int .i64 n, .slice a m cap] w fun e w' => e = .returned (.int .i64 r) ∧ Below w.heap.size w w' := by
  rw [← h.out]; exact check_any n a m cap z w S
set_option maxHeartbeats 4000000 in
theorem bounds_bad (n : Int) (a : Option Addr) (m cap : Nat) (z : Nat → Nat → Int) {r : Int} (hc : Hid (Bx.chk n m z = r)) (hr : (r != 0) = true) (w : World) (S : Ss 3 w a m z) :
    Calls Try.prog 13 #[.int .i64 n, .slice a m cap] w (ErrPost r w) := by
  have hS := Lib.hid S
  clear S
  go_enter Try.func13, Try.ntmps13
  go_wp2_with (fail)
  refine (check_at hS.out hc).mono ?_
  rintro en w1 ⟨rfl, B1⟩
  have HB := Lib.hid B1
  clear B1
  go_wp2_with (fail)
  go_ret2
  exact ⟨rfl, HB.out⟩
set_option maxHeartbeats 4000000 in
theorem bounds_cyc (n : Nat) (a : Option Addr) (m cap : Nat) (z : Nat → Nat → Int) (V : Bx.Vs n m z) (hs : ¬ Bx.St n z m (n - 1)) (w : World) (S : Ss 3 w a m z) :
    Calls Try.prog 13 #[.int .i64 n, .slice a m cap] w (ErrPost 20 w) := by
  have hS := Lib.hid S; have hV := Lib.hid V; have HS := Lib.hid hs
  clear S V hs
  go_enter Try.func13, Try.ntmps13
  go_wp2_with (fail)
  refine (check_at hS.out (Lib.hid (chk_vs hV.out))).mono ?_
  rintro en w1 ⟨rfl, B1⟩
  have HB := Lib.hid B1; have S1 := Lib.hid (hS.out.later B1)
  clear B1
  go_wp2_with (fail)
  refine (explore_any n a m cap z hV.out _ S1.out).mono ?_
  rintro en w2 ⟨gl, lv, G, E, rfl, hE, _, _, L2, B2⟩
  obtain ⟨go, co, rfl⟩ := L2.row.at0 (k := n) (ptrs_len _ _ _) hV.out.n1
  clear L2
  obtain ⟨j, hj, rfl, _⟩ := end_not hE HS.out
  have HB2 := Lib.hid (bl_next HB.out B2)
  have j0 : (0 : Int) ≤ (j : Int) := by omega
  clear B2 hE
  have hf := fun W => field2 (some ⟨gl, 0, none⟩) (some ⟨go, 0, none⟩) n n n co (j : Int) W
  go_wp2_with (fail)
  go_ret2
  exact ⟨rfl, HB2.out⟩
set_option maxHeartbeats 4000000 in
theorem bounds_ok (n : Nat) (a : Option Addr) (m cap : Nat) (z : Nat → Nat → Int) (V : Bx.Vs n m z) (hs : Bx.St n z m (n - 1)) (w : World) (S : Ss 3 w a m z) :
    Calls Try.prog 13 #[.int .i64 n, .slice a m cap] w (MatPost n (Bx.F z m n) w) := by
  have hS := Lib.hid S; have hV := Lib.hid V; have HS := Lib.hid hs
  clear S V hs
  go_enter Try.func13, Try.ntmps13
  go_wp2_with (fail)
  refine (check_at hS.out (Lib.hid (chk_vs hV.out))).mono ?_
  rintro en w1 ⟨rfl, B1⟩
  have HB := Lib.hid B1; have S1 := Lib.hid (hS.out.later B1)
  clear B1
  go_wp2_with (fail)
  refine (explore_any n a m cap z hV.out _ S1.out).mono ?_
  rintro en w2 ⟨gl, lv, G, E, rfl, hE, _, _, L2, B2⟩
  obtain ⟨go, co, rfl⟩ := L2.row.at0 (k := n) (ptrs_len _ _ _) hV.out.n1
  clear L2
  obtain rfl := end_st hE HS.out hV.out.n1
  have HB2 := Lib.hid (bl_next HB.out B2); have S2 := Lib.hid (S1.out.later B2)
  clear B2 hE
  have hf := fun W => field2 (some ⟨gl, 0, none⟩) (some ⟨go, 0, none⟩) n n n co (-1) W
  go_wp2_with (fail)
  refine (matrix_any n a m cap z _ hV.out (Bx.pt_of hV.out HS.out) (bf_lo hV.out) _ S2.out).mono ?_
  rintro en w3 ⟨rfl, M, B3⟩
  have HM := Lib.hid M; have HB3 := Lib.hid (bl_next HB2.out B3)
  clear M B3
  go_wp2_with (fail)
  go_ret2
  exact ⟨_, rfl, HM.out, HB2.out.size, HB3.out⟩
set_option maxHeartbeats 4000000 in
theorem solve_bad (n : Int) (a : Option Addr) (m cap : Nat) (z : Nat → Nat → Int) {r : Int} (hc : Hid (Bx.chk n m z = r)) (hr : (r != 0) = true) (w : World) (S : Ss 3 w a m z) :
    Calls Try.prog 18 #[.int .i64 n, .slice a m cap] w (ErrPost r w) := by
  have hS := Lib.hid S
  clear S
  go_enter Try.func18, Try.ntmps18
  go_wp2_with (fail)
  refine (check_at hS.out hc).mono ?_
  rintro en w1 ⟨rfl, B1⟩
  have HB := Lib.hid B1
  clear B1
  go_wp2_with (fail)
  go_ret2
  exact ⟨rfl, HB.out⟩
set_option maxHeartbeats 4000000 in
theorem solve_cyc (n : Nat) (a : Option Addr) (m cap : Nat) (z : Nat → Nat → Int) (V : Bx.Vs n m z) (hs : ¬ Bx.St n z m (n - 1)) (w : World) (S : Ss 3 w a m z) :
    Calls Try.prog 18 #[.int .i64 n, .slice a m cap] w (ErrPost 20 w) := by
  have hS := Lib.hid S; have hV := Lib.hid V; have HS := Lib.hid hs
  clear S V hs
  go_enter Try.func18, Try.ntmps18
  go_wp2_with (fail)
  refine (check_at hS.out (Lib.hid (chk_vs hV.out))).mono ?_
  rintro en w1 ⟨rfl, B1⟩
  have HB := Lib.hid B1; have S1 := Lib.hid (hS.out.later B1)
  clear B1
  go_wp2_with (fail)
  refine (explore_any n a m cap z hV.out _ S1.out).mono ?_
  rintro en w2 ⟨gl, lv, G, E, rfl, hE, _, _, L2, B2⟩
  obtain ⟨j, hj, rfl, _⟩ := end_not hE HS.out
  obtain ⟨go, co, rfl⟩ := L2.row.at0 (k := n) (ptrs_len _ _ _) hV.out.n1
  have HB2 := Lib.hid (bl_next HB.out B2)
  have j0 : (0 : Int) ≤ (j : Int) := by omega
  clear B2 hE L2
  go_wp2_with (fail)
  go_ret2
  exact ⟨rfl, by have := HB2.out; have := HB2.out.size; (repeat (first | exact Below.refl _ _ | refine Below.drew ?_ | refine Hp.drewN ?_ _ | refine Below.setCell ?_ (by first | (simp; done) | (simp; omega) | omega) _ | refine Below.alloc ?_ (by first | (simp; done) | (simp; omega) | omega) _ | (refine Hp.step ?_ (by assumption))))⟩
set_option maxHeartbeats 4000000 in
theorem solve_ok (n : Nat) (a : Option Addr) (m cap : Nat) (z : Nat → Nat → Int) (V : Bx.Vs n m z) (hs : Bx.St n z m (n - 1)) (w : World) (S : Ss 3 w a m z) :
    Calls Try.prog 18 #[.int .i64 n, .slice a m cap] w (OwnPost n (Bx.bf z m (n - 1)) w) := by
  have hS := Lib.hid S; have hV := Lib.hid V; have HS := Lib.hid hs
  clear S V hs
  go_enter Try.func18, Try.ntmps18
  go_wp2_with (fail)
  refine (check_at hS.out (Lib.hid (chk_vs hV.out))).mono ?_
  rintro en w1 ⟨rfl, B1⟩
  have HB := Lib.hid B1; have S1 := Lib.hid (hS.out.later B1)
  clear B1
  go_wp2_with (fail)
  refine (explore_any n a m cap z hV.out _ S1.out).mono ?_
  rintro en w2 ⟨gl, lv, G, E, rfl, hE, hgl, O2, L2, B2⟩
  obtain rfl := end_st hE HS.out hV.out.n1
  obtain ⟨go, co, rfl⟩ := L2.row.at0 (k := n) (ptrs_len _ _ _) hV.out.n1
  have HB2 := Lib.hid (bl_next HB.out B2); have HO := Lib.hid O2
  have hgl2 := Lib.hid (Nat.le_trans HB.out.size hgl)
  clear B2 hE L2 O2
  go_wp2_with (fail)
  go_ret2
  exact ⟨_, rfl, HO.out.alloc _, hgl2.out, by have := HB2.out; have := HB2.out.size; (repeat (first | exact Below.refl _ _ | refine Below.drew ?_ | refine Hp.drewN ?_ _ | refine Below.setCell ?_ (by first | (simp; done) | (simp; omega) | omega) _ | refine Below.alloc ?_ (by first | (simp; done) | (simp; omega) | omega) _ | (refine Hp.step ?_ (by assumption))))⟩
end Go.Proofs.Ytieggiplbghecaa.BxW
