/- Contracts of the reference of layer 45: New, Top, Reset, has. -/
import Derived.Test.YthmkckdjddgmhaaPy
import Derived.Test.YthmkckdjddgmhaaPq
import Derived.Deep.QuietTactic
set_option linter.unusedVariables false
set_option linter.unusedSimpArgs false
namespace Go.Proofs.Ythmkckdjddgmhaa.PxW
open Go.RowKit Go.Proofs.Ythmkckdjddgmhaa.Rw
/-- the top of the reference's window -/
def topV (next : Int) : Int := if 0 < next then next - 1 else 0
/-- block b is a window of the reference -/
structure RWin (w : World) (b : Nat) (size next : Int) (v : Value) : Prop where
  blk : w.heap[b]? = some (.cells #[.int .i64 size, .bool (decide (0 < next)), .int .i64 (topV next), v] 53 (0, 0))
theorem RWin.c0 {w : World} {b : Nat} {size next : Int} {v : Value} (h : RWin w b size next v) : w.cell? ⟨b, 0, none⟩ = some (.int .i64 size) := Hp.blk_cell h.blk rfl
theorem RWin.c1 {w : World} {b : Nat} {size next : Int} {v : Value} (h : RWin w b size next v) : w.cell? ⟨b, 1, none⟩ = some (.bool (decide (0 < next))) := Hp.blk_cell h.blk rfl
theorem RWin.c2 {w : World} {b : Nat} {size next : Int} {v : Value} (h : RWin w b size next v) : w.cell? ⟨b, 2, none⟩ = some (.int .i64 (topV next)) := Hp.blk_cell h.blk rfl
theorem RWin.c3 {w : World} {b : Nat} {size next : Int} {v : Value} (h : RWin w b size next v) : w.cell? ⟨b, 3, none⟩ = some v := Hp.blk_cell h.blk rfl
theorem RWin.free {w : World} {b o : Nat} {size next : Int} {v : Value} (h : RWin w b size next v) : w.frozen? ⟨b, o, none⟩ = false := Hp.blk_free h.blk
theorem RWin.lt {w : World} {b : Nat} {size next : Int} {v : Value} (h : RWin w b size next v) : b < w.heap.size := Hp.blk_lt h.blk
theorem RWin.drewN {w : World} {b n : Nat} {size next : Int} {v : Value} (h : RWin w b size next v) : RWin (w.drewN n) b size next v := ⟨h.blk⟩
theorem RWin.of {b c : Nat} {w w' : World} {size next : Int} {v : Value} (h : RWin w b size next v) (k : But c w w') (hc : b ≠ c) : RWin w' b size next v := ⟨by rw [k.block b h.lt hc]; exact h.blk⟩
theorem RWin.later {b : Nat} {w w' : World} {size next : Int} {v : Value} (h : RWin w b size next v) (k : Below w.heap.size w w') : RWin w' b size next v := ⟨by rw [k.block b h.lt]; exact h.blk⟩
set_option maxHeartbeats 1000000 in
theorem rnew_no (size : Int) (h : size < 1 ∨ 256 < size) (w : World) :
    Calls Try.prog 14 #[.int .i64 size] w fun e w' => e = .returned (.pointer none) ∧ w = w' := by
  rcases h with h | h
  · go_enter Try.func14, Try.ntmps14
    go_wp2
    go_ret
    exact ⟨rfl, rfl⟩
  · have h' : ¬ size < 1 := by omega
    go_enter Try.func14, Try.ntmps14
    go_wp2
    go_ret
    exact ⟨rfl, rfl⟩
set_option maxHeartbeats 1000000 in
theorem rnew_yes (size : Int) (h1 : 1 ≤ size) (h2 : size ≤ 256) (w : World) :
    Calls Try.prog 14 #[.int .i64 size] w fun e w' => e = .returned (.pointer (some ⟨w.heap.size, 0, none⟩)) ∧ RWin w' w.heap.size size 0 (.slice none 0 0) ∧ Below w.heap.size w w' := by
  go_enter Try.func14, Try.ntmps14
  go_wp2
  go_ret
  refine ⟨rfl, ⟨Hp.blk_new w (.cells #[.int .i64 size, .bool false, .int .i64 0, .slice none 0 0] 53 (0, 0))⟩, ?_⟩
  (repeat (first | exact Below.refl _ _ | refine Below.drew ?_ | refine Hp.drewN ?_ _ | refine Below.setCell ?_ (by first | (simp; done) | (simp; omega) | omega) _ | refine Below.alloc ?_ (by first | (simp; done) | (simp; omega) | omega) _ | (refine Hp.step ?_ (by assumption))))
set_option maxHeartbeats 1000000 in
theorem rtop_any {b : Nat} {size next : Int} {v : Value} (w : World) (W : RWin w b size next v) (n0 : 0 ≤ next) :
    Calls Try.prog 20 #[.pointer (some ⟨b, 0, none⟩)] w fun e w' => e = .returned (.int .i64 (next - 1)) ∧ w = w' := by
  have c1 := W.c1
  have c2 := W.c2
  by_cases h : 0 < next
  · rw [decide_eq_true h] at c1
    rw [topV, if_pos h] at c2
    go_enter Try.func20, Try.ntmps20
    go_wp2
    go_ret
    exact ⟨rfl, rfl⟩
  · rw [decide_eq_false h] at c1
    have e := Lib.hid (show next - 1 = -1 by omega)
    go_enter Try.func20, Try.ntmps20
    go_wp2
    go_ret
    exact ⟨Hp.ret_int e.out.symm, rfl⟩
set_option maxHeartbeats 1000000 in
theorem rreset_any {b : Nat} {size next : Int} {v : Value} (w : World) (W : RWin w b size next v) :
    Calls Try.prog 19 #[.pointer (some ⟨b, 0, none⟩)] w fun e w' => e = .returned (.tuple #[]) ∧ RWin w' b size 0 (.slice none 0 0) ∧ But b w w' := by
  have c1 := W.c1; have c2 := W.c2; have c3 := W.c3
  have f1 := W.free (o := 1); have f2 := W.free (o := 2); have f3 := W.free (o := 3)
  go_enter Try.func19, Try.ntmps19
  go_wp2
  go_end0
  refine ⟨rfl, ⟨Hp.blk_set (o := 3) (Hp.blk_set (o := 2) (Hp.blk_set (o := 1) W.blk))⟩, ?_⟩
  repeat (first | exact But.refl _ _ | refine But.setCell ?_ _ _ | refine But.drew ?_)
set_option maxHeartbeats 2000000 in
theorem rhas_any {b base : Nat} {size next : Int} {v : Value} {l : List Int} (z : Int) (w : World) (W : RWin w b size next v) (own : Row w base v l) (small : l.length ≤ 1000000) :
    Calls Try.prog 26 #[.pointer (some ⟨b, 0, none⟩), .int .i64 z] w fun e w' => e = .returned (.bool (decide (z ∈ l))) ∧ w = w' := by
  have c3 := W.c3
  rcases own.form with ⟨rfl, rfl⟩ | ⟨g, cap, cur, rfl, _, hh, hcap, hcur⟩
  · clear own
    have e : decide (z ∈ ([] : List Int)) = false := by simp
    have E := Lib.hid e
    clear e
    go_enter Try.func26, Try.ntmps26
    go_wp2
    refine wp_loop_rounds 1 ?_
    rw [rounds_succ]
    go_wp2
    go_ret
    exact ⟨Hp.ret_bool E.out.symm, rfl⟩
  · have HH := Lib.hid hh; have HC := Lib.hid hcur
    clear own hh hcur
    go_enter Try.func26, Try.ntmps26
    go_wp2
    go_loop [5] (fun c => ∃ k : Nat, k ≤ l.length ∧ c = .int .i64 k ∧ z ∉ l.take k) (fun c => l.length - (intOf c).toNat)
    case atStart => exact ⟨0, Nat.zero_le _, rfl, by simp⟩
    case round =>
      obtain ⟨k, hk, rfl, hno⟩ := hrel
      by_cases hlt : k < l.length
      · have hc : w.cell? ⟨g, k, none⟩ = some (.int .i64 (l.getD k 0)) := Hp.blk_cell HH.out (HC.out k hlt)
        have hm := Lib.hid (getD_mem hlt)
        have hn := Lib.hid (fun h => mem_take_succ hlt hno h)
        obtain ⟨x, hx⟩ : ∃ x, x = l.getD k 0 := ⟨_, rfl⟩
        rw [← hx] at hc hm hn
        clear hno hx
        by_cases e : x = z
        · have e' : (x == z) = true := by simp [e]
          have E := Lib.hid (show decide (z ∈ l) = true by rw [← e]; exact decide_eq_true hm.out)
          clear e
          go_wp2
          go_ret
          exact ⟨Hp.ret_bool E.out.symm, rfl⟩
        · have e' : (x == z) = false := by simp [e]
          have HE := Lib.hid e
          clear e
          go_wp2
          go_round
          case rel => exact ⟨k + 1, by omega, by go_num, hn.out HE.out⟩
          case measure => simp [intOf]; omega
      · have E := Lib.hid (show decide (z ∈ l) = false by
          have : k = l.length := by omega
          rw [this, List.take_length] at hno; exact decide_eq_false hno)
        clear hno
        go_wp2
        go_ret
        exact ⟨Hp.ret_bool E.out.symm, rfl⟩
end Go.Proofs.Ythmkckdjddgmhaa.PxW
