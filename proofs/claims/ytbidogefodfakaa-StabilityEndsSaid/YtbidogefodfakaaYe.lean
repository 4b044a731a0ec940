/- Plain laws of layer 48: Decimate by n and then by k; the ends of Detrend. -/
import Derived.Test.YtbidogefodfakaaYg
set_option linter.unusedVariables false
set_option linter.unusedSimpArgs false
namespace Go.Proofs.Ytbidogefodfakaa.Yx
theorem dec_closed (x : Nat → Int) {N : Nat} (hN : 1 ≤ N) : ∀ K, dec x N K = (List.range ((K + N - 1) / N)).map fun i => x (i * N)
  | 0 => by
    rw [show (0 + N - 1) / N = 0 from Nat.div_eq_of_lt (by omega)]; rfl
  | K + 1 => by
    have e1 : (K + 1 + N - 1) / N = K / N + 1 := by rw [show K + 1 + N - 1 = K + N by omega, Nat.add_div_right K (by omega)]
    have ih := dec_closed x hN K
    have hd := Nat.div_add_mod K N
    have hm := Nat.mod_lt K (show N > 0 by omega)
    generalize hq : K / N = q at *
    rw [e1]
    show (if K % N = 0 then dec x N K ++ [x K] else dec x N K) = _
    split
    · rename_i h
      have e2 : (K + N - 1) / N = q := by
        rw [show K + N - 1 = N - 1 + N * q by omega, Nat.add_mul_div_left _ _ (by omega), Nat.div_eq_of_lt (by omega)]; omega
      rw [ih, e2, List.range_succ, List.map_append]
      have : q * N = K := by rw [Nat.mul_comm]; omega
      simp [this]
    · rename_i h
      have e2 : (K + N - 1) / N = q + 1 := by
        rw [show K + N - 1 = (K % N - 1) + N * (q + 1) by rw [Nat.mul_add]; omega, Nat.add_mul_div_left _ _ (by omega), Nat.div_eq_of_lt (by omega)]; omega
      rw [ih, e2]
theorem dec_congr {x y : Nat → Int} (N : Nat) : ∀ {K}, (∀ i, i < K → x i = y i) → dec x N K = dec y N K
  | 0, _ => rfl
  | K + 1, h => by
    have := dec_congr N (x := x) (y := y) (K := K) fun i hi => h i (by omega)
    show (if K % N = 0 then dec x N K ++ [x K] else dec x N K) = (if K % N = 0 then dec y N K ++ [y K] else dec y N K)
    rw [this, h K (by omega)]
theorem dec_count (x : Nat → Int) {N : Nat} (hN : 1 ≤ N) (K : Nat) : (dec x N K).length = (K + N - 1) / N := by rw [dec_closed x hN]; simp
theorem dec_at (x : Nat → Int) {N : Nat} (hN : 1 ≤ N) {K i : Nat} (hi : i < (dec x N K).length) : (dec x N K).getD i 0 = x (i * N) ∧ i * N < K := by
  have hc := dec_count x hN K
  rw [hc] at hi
  constructor
  · rw [dec_closed x hN]; simp [List.getD_eq_getElem?_getD, hi]
  · have := (Nat.lt_div_iff_mul_lt (show 0 < N by omega)).1 hi
    omega
theorem dec_dec (x : Nat → Int) {N M : Nat} (hN : 1 ≤ N) (hM : 1 ≤ M) (K : Nat) : dec (fun i => (dec x N K).getD i 0) M (dec x N K).length = dec x (N * M) K := by
  have hc := dec_count x hN K
  rw [dec_congr M (y := fun i => x (i * N)) fun i hi => (dec_at x hN hi).1, dec_closed _ hM, dec_closed x (Nat.mul_pos hN hM), hc]
  have e : ((K + N - 1) / N + M - 1) / M = (K + N * M - 1) / (N * M) := by
    rw [← Nat.div_div_eq_div_mul]
    congr 1
    obtain ⟨m, rfl⟩ : ∃ m, M = m + 1 := ⟨M - 1, by omega⟩
    rw [show (K + N - 1) / N + (m + 1) - 1 = (K + N - 1) / N + m by omega, ← Nat.add_mul_div_left _ _ (show 0 < N by omega), Nat.mul_add, Nat.mul_one]
    congr 1
    omega
  rw [e]
  refine List.map_congr_left fun i _ => ?_
  rw [show i * M * N = i * (N * M) by rw [Nat.mul_assoc, Nat.mul_comm M]]
theorem dt_first {K : Nat} (x : Nat → Int) : dt K x 0 = 0 := by unfold dt; simp
theorem dt_last {K : Nat} (x : Nat → Int) (h : 2 ≤ K) : dt K x (K - 1) = 0 := by
  unfold dt
  rw [show ((K - 1 : Nat) : Int) = (K : Int) - 1 by omega, Int.mul_fdiv_cancel _ (by omega)]; omega
/-- how far an element lies above the line, times the number of steps -/
theorem dt_rest {K i : Nat} (x : Nat → Int) (h : 2 ≤ K) : 0 ≤ ((K : Int) - 1) * (dt K x i - x i + x 0) + (x (K - 1) - x 0) * i ∧ ((K : Int) - 1) * (dt K x i - x i + x 0) + (x (K - 1) - x 0) * i < (K : Int) - 1 := by
  unfold dt
  generalize hv : (x (K - 1) - x 0) * (i : Int) = v
  generalize hm : (K : Int) - 1 = m
  have m0 : 0 < m := by omega
  rw [show x i - x 0 - Int.fdiv v m - x i + x 0 = -Int.fdiv v m by omega, Int.mul_neg, Int.fdiv_eq_ediv_of_nonneg _ (by omega)]
  have a := Int.emod_nonneg v (show m ≠ 0 by omega)
  have b := Int.emod_lt_of_pos v m0
  have c := Int.mul_ediv_add_emod v m
  omega
end Go.Proofs.Ytbidogefodfakaa.Yx
