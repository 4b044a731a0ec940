/- The laws DiffconHolds, DiffconClosed of layer 51. -/
import Derived.Test.YtieggiplbghecaaBp
import Derived.Test.YtieggiplbghecaaBi
set_option linter.unusedVariables false
set_option linter.unusedSimpArgs false
namespace Go.Proofs.Ytieggiplbghecaa.BxW
open Go.RowKit Ls Orw Rv Rw
theorem long_any (a : Option Addr) (m cap : Nat) (w : World) : Calls Try.prog 11 #[.slice a m cap] w fun e w' => e = .returned (.bool (decide (4100 < m))) ∧ w = w' := by
  go_enter Try.func11, Try.ntmps11
  go_wp2
  go_ret
  exact ⟨Hp.ret_bool (by first | rfl | (rw [Bool.eq_iff_iff]; simp; omega)), rfl⟩
theorem fz_of {w : World} {a : Option Addr} {m cap : Nat} {z : Nat → Nat → Int} (S : In.IsStructs [.i64, .i64, .i64] w a m cap z) : FitZ m z := fun i j hi hj => by
  obtain ⟨_, _, _, _, h⟩ := S.elem (by simp) i hi
  have e : ([.i64, .i64, .i64] : List IntKind)[j]? = some .i64 := by
    have hj' : j = 0 ∨ j = 1 ∨ j = 2 := by omega
    rcases hj' with rfl | rfl | rfl <;> rfl
  exact Hp.i64_bd (h j .i64 e).2
theorem ss_of {w : World} {a : Option Addr} {m cap : Nat} {z : Nat → Nat → Int} (S : In.IsStructs [.i64, .i64, .i64] w a m cap z) : Ss 3 w a m z := Ss.of S (by
    intro j hj
    have hj' : j = 0 ∨ j = 1 ∨ j = 2 := by simp at hj; omega
    rcases hj' with rfl | rfl | rfl <;> rfl) (by simp)
theorem fit_of {w : World} {a : Option Addr} {n cap : Nat} {zs : List Int} (S : In.IsInts .i64 w a n cap zs) : Fit n fun i => zs.getD i 0 := fun i hi => by
  obtain ⟨_, _, _, _, _, hw⟩ := S.elem i hi
  exact Hp.i64_bd hw
set_option maxHeartbeats 4000000 in
theorem law_DiffconHolds (a : Option Addr) (m cap : Nat) (z : Nat → Nat → Int) (ax : Option Addr) (n capx : Nat) (zs : List Int) (w : World) (S : In.IsStructs [.i64, .i64, .i64] w a m cap z) (X : In.IsInts .i64 w ax n capx zs) :
    Calls Try.prog 5 #[.slice a m cap, .slice ax n capx] w fun e w' => e = .returned (.bool true) ∧ Below w.heap.size w w' := by
  have l1 := S.lens; have l2 := X.lens
  have hm : m ≤ 9223372036854775807 := by omega
  have hn : n ≤ 9223372036854775807 := by omega
  have hS := Lib.hid (ss_of S); have hX := Lib.hid (Is.of_ints X); have HZ := Lib.hid (fz_of S); have HX := Lib.hid (fit_of X)
  obtain ⟨r, hr⟩ : ∃ r, holds z (fun i => zs.getD i 0) n m = r := ⟨_, rfl⟩
  have HR := Lib.hid hr
  clear S X hr l1 l2
  go_enter Try.func5, Try.ntmps5
  go_wp2_with (fail)
  refine (holds_any a m cap z ax n capx _ _ hS.out hX.out HZ.out HX.out hm hn).mono ?_
  rw [HR.out]
  rintro en w1 ⟨rfl, B1⟩
  have HB1 := Lib.hid B1; have S1 := Lib.hid (hS.out.later B1); have X1 := Lib.hid (hX.out.later B1)
  clear B1
  go_wp2_with (fail)
  refine (rholds_any a m cap z ax n capx _ _ S1.out X1.out HZ.out HX.out hm hn).mono ?_
  rw [HR.out]
  rintro en w2 ⟨rfl, B2⟩
  have HB2 := Lib.hid (bl_next HB1.out B2)
  clear B2
  go_wp2_with (fail)
  refine (awake51_any _).mono ?_
  rintro en w3 ⟨rfl, B3⟩
  have HB3 := Lib.hid (bl_next HB2.out B3)
  clear B3
  go_wp2_with (fail)
  go_ret
  exact ⟨rfl, HB3.out⟩
end Go.Proofs.Ytieggiplbghecaa.BxW
