/- Plain laws: a single candidate; all offsets grow by a number. -/
import Derived.Test.YtdnpidcchcefeaaCp
set_option linter.unusedVariables false
set_option linter.unusedSimpArgs false
namespace Go.Proofs.Ytdnpidcchcefeaa.Cx
theorem fl_zero (T : Int) : Fx.fl 0 T = 0 := by unfold Fx.fl; exact Int.zero_fdiv T
theorem qV_zero (T : Int) : Fx.qV T 0 = 0 := by
  unfold Fx.qV; split
  · rfl
  · exact Fx.fitV_of (Fx.fitOk_true (by omega) (by omega))
theorem far_self (a : Int) : far a a = 0 := by unfold far Fx.iabs; split <;> omega
theorem one_dif (z : Nat → Nat → Int) : ws 1 z (dif z) 1 = 0 := by
  show 0 + pt 1 z (dif z) 0 = 0
  unfold pt dif
  rw [Int.sub_self, Int.mul_zero, fl_zero, qV_zero]; rfl
theorem one_mean {z : Nat → Nat → Int} (h : chk 1 z = 0) : mean 1 z = z 0 1 := by
  unfold mean; rw [if_pos ⟨h, by omega⟩, one_dif]; omega
theorem one_jit {z : Nat → Nat → Int} (h : chk 1 z = 0) : jit 1 z = 0 := by
  unfold jit; rw [if_pos ⟨h, by omega⟩]
  have e : ws 1 z (sq 1 z) 1 = 0 := by
    show 0 + pt 1 z (sq 1 z) 0 = 0
    unfold pt sq near
    rw [one_mean h, far_self]
    show 0 + Fx.qV _ (Fx.fl (_ * (0 * 0)) _) = 0
    rw [Int.zero_mul, Int.mul_zero, fl_zero, qV_zero]; rfl
  rw [e]; rfl
theorem one_dist {z : Nat → Nat → Int} (h : chk 1 z = 0) : dist 1 z = z 0 2 := by
  unfold dist; rw [if_pos ⟨h, by omega⟩]
  show min (z 0 2 + far (z 0 1) (mean 1 z)) (z 0 2 + far (z 0 1) (mean 1 z)) = _
  rw [one_mean h, far_self]; omega
/-- the first k offsets grown by d -/
def shift (z : Nat → Nat → Int) (d : Int) (k : Nat) (i j : Nat) : Int := if j = 1 ∧ i < k then z i 1 + d else z i j
theorem shift_wt (z : Nat → Nat → Int) (d : Int) (n i : Nat) : shift z d n i 2 = z i 2 := by unfold shift; rw [if_neg (by omega)]
theorem shift_off {z : Nat → Nat → Int} {d : Int} {n i : Nat} (hi : i < n) : shift z d n i 1 = z i 1 + d := by unfold shift; rw [if_pos ⟨rfl, hi⟩]
theorem shift_tot (z : Nat → Nat → Int) (d : Int) (n k : Nat) : tot (shift z d n) k = tot z k := sum_congr fun i _ => by rw [shift_wt]
theorem shift_pt (z : Nat → Nat → Int) (d : Int) (n : Nat) {x y : Nat → Int} {i : Nat} (h : x i = y i) : pt n (shift z d n) x i = pt n z y i := by unfold pt; rw [shift_tot, shift_wt, h]
theorem shift_ws (z : Nat → Nat → Int) (d : Int) (n : Nat) {x y : Nat → Int} (h : ∀ i, i < n → x i = y i) : ws n (shift z d n) x n = ws n z y n := sum_congr fun i hi => shift_pt z d n (h i hi)
theorem shift_mean {z : Nat → Nat → Int} {d : Int} {n : Nat} (h : chk n z = 0) (h' : chk n (shift z d n) = 0) (hn : 0 < n) : mean n (shift z d n) = mean n z + d := by
  unfold mean
  rw [if_pos ⟨h', hn⟩, if_pos ⟨h, hn⟩, shift_off hn, shift_ws z d n (y := dif z) (fun i hi => by unfold dif; rw [shift_off hi, shift_off hn]; omega)]
  omega
theorem shift_far {z : Nat → Nat → Int} {d : Int} {n : Nat} (h : chk n z = 0) (h' : chk n (shift z d n) = 0) (hn : 0 < n) {i : Nat} (hi : i < n) : far (shift z d n i 1) (mean n (shift z d n)) = far (z i 1) (mean n z) := by
  unfold far; rw [shift_off hi, shift_mean h h' hn, show z i 1 + d - (mean n z + d) = z i 1 - mean n z by omega]
theorem shift_jit {z : Nat → Nat → Int} {d : Int} {n : Nat} (h : chk n z = 0) (h' : chk n (shift z d n) = 0) (hn : 0 < n) : jit n (shift z d n) = jit n z := by
  unfold jit
  rw [if_pos ⟨h', hn⟩, if_pos ⟨h, hn⟩, shift_ws z d n (y := sq n z) (fun i hi => by unfold sq near; rw [shift_far h h' hn hi])]
theorem shift_least {z : Nat → Nat → Int} {d : Int} {n : Nat} (h : chk n z = 0) (h' : chk n (shift z d n) = 0) (hn : 0 < n) : ∀ k, k ≤ n → leastN (shift z d n) (mean n (shift z d n)) k = leastN z (mean n z) k
  | 0, _ => by unfold leastN; rw [shift_wt, shift_far h h' hn hn]
  | k + 1, hk => by
    have := shift_least h h' hn k (by omega)
    unfold leastN; rw [this, shift_wt, shift_far h h' hn (show k < n by omega)]
theorem shift_dist {z : Nat → Nat → Int} {d : Int} {n : Nat} (h : chk n z = 0) (h' : chk n (shift z d n) = 0) (hn : 0 < n) : dist n (shift z d n) = dist n z := by
  unfold dist
  rw [if_pos ⟨h', hn⟩, if_pos ⟨h, hn⟩, shift_least h h' hn n (Nat.le_refl _)]
theorem shift_wts (z : Nat → Nat → Int) (d : Int) (n k : Nat) : wtsN (shift z d n) k = wtsN z k := by
  unfold wtsN; simp only [shift_wt]
theorem shift_zero (z : Nat → Nat → Int) (d : Int) : shift z d 0 = z := by
  funext i j; unfold shift; rw [if_neg (by omega)]
end Go.Proofs.Ytdnpidcchcefeaa.Cx
