/- Plain laws of layer 48: Range does not decrease with the distance. -/
import Derived.Test.YtbidogefodfakaaYy
set_option linter.unusedVariables false
set_option linter.unusedSimpArgs false
namespace Go.Proofs.Ytbidogefodfakaa.Yx
theorem loW_le (x : Nat → Int) (i : Nat) {j : Nat} : ∀ {k}, j < k → loW x i k ≤ x (i + j)
  | 0, h => by omega
  | k + 1, h => by
    simp only [loW]
    by_cases e : j = k
    · subst e; omega
    · have := loW_le x i (j := j) (k := k) (by omega); omega
theorem hiW_ge (x : Nat → Int) (i : Nat) {j : Nat} : ∀ {k}, j < k → x (i + j) ≤ hiW x i k
  | 0, h => by omega
  | k + 1, h => by
    simp only [hiW]
    by_cases e : j = k
    · subst e; omega
    · have := hiW_ge x i (j := j) (k := k) (by omega); omega
theorem loW_at (x : Nat → Int) (i : Nat) : ∀ k, ∃ j, j < k + 1 ∧ loW x i (k + 1) = x (i + j)
  | 0 => ⟨0, by omega, by simp [loW]⟩
  | k + 1 => by
    obtain ⟨j, hj, e⟩ := loW_at x i k
    have s : loW x i (k + 2) = min (loW x i (k + 1)) (x (i + (k + 1))) := rfl
    by_cases g : loW x i (k + 1) ≤ x (i + (k + 1))
    · exact ⟨j, by omega, by rw [s]; omega⟩
    · exact ⟨k + 1, by omega, by rw [s]; omega⟩
theorem hiW_at (x : Nat → Int) (i : Nat) : ∀ k, ∃ j, j < k + 1 ∧ hiW x i (k + 1) = x (i + j)
  | 0 => ⟨0, by omega, by simp [hiW]⟩
  | k + 1 => by
    obtain ⟨j, hj, e⟩ := hiW_at x i k
    have s : hiW x i (k + 2) = max (hiW x i (k + 1)) (x (i + (k + 1))) := rfl
    by_cases g : x (i + (k + 1)) ≤ hiW x i (k + 1)
    · exact ⟨j, by omega, by rw [s]; omega⟩
    · exact ⟨k + 1, by omega, by rw [s]; omega⟩
/-- a window within another -/
theorem win_in (x : Nat → Int) {i k i' k' : Nat} (h : ∀ j, j < k + 1 → ∃ j', j' < k' + 1 ∧ i + j = i' + j') : hiW x i (k + 1) - loW x i (k + 1) ≤ hiW x i' (k' + 1) - loW x i' (k' + 1) := by
  obtain ⟨j, hj, e⟩ := loW_at x i k
  obtain ⟨l, hl, f⟩ := hiW_at x i k
  obtain ⟨j', hj', e'⟩ := h j hj
  obtain ⟨l', hl', f'⟩ := h l hl
  have a := loW_le x i' hj'
  have b := hiW_ge x i' hl'
  rw [← e'] at a; rw [← f'] at b
  omega
theorem gr_ge (x : Nat → Int) (n : Nat) {i : Nat} : ∀ {m}, i < m → hiW x i (n + 1) - loW x i (n + 1) ≤ gr x n m
  | 0, h => by omega
  | m + 1, h => by
    simp only [gr]
    by_cases e : i = m
    · subst e; omega
    · have := gr_ge x n (i := i) (m := m) (by omega); omega
theorem gr_le (x : Nat → Int) (n : Nat) {c : Int} (hc : 0 ≤ c) : ∀ {m}, (∀ i, i < m → hiW x i (n + 1) - loW x i (n + 1) ≤ c) → gr x n m ≤ c
  | 0, _ => hc
  | m + 1, h => by
    have := gr_le x n hc (m := m) fun i hi => h i (by omega)
    have := h m (by omega)
    simp only [gr]; omega
theorem gr_nonneg (x : Nat → Int) (n : Nat) : ∀ m, 0 ≤ gr x n m
  | 0 => Int.le_refl _
  | m + 1 => by have := gr_nonneg x n m; simp only [gr]; omega
theorem gr_step (x : Nat → Int) {len n : Nat} (h : n + 1 < len) : gr x n (len - n) ≤ gr x (n + 1) (len - (n + 1)) := by
  refine gr_le x n (gr_nonneg _ _ _) fun i hi => ?_
  by_cases g : i + n + 1 < len
  · refine Int.le_trans (win_in x (i' := i) (k' := n + 1) fun j hj => ⟨j, by omega, rfl⟩) (gr_ge x (n + 1) (by omega))
  · refine Int.le_trans (win_in x (i' := i - 1) (k' := n + 1) fun j hj => ⟨j + 1, by omega, by omega⟩) (gr_ge x (n + 1) (by omega))
/-- the last range that was found, ahead of distance n -/
def lastR (x : Nat → Int) (len n : Nat) : Int := if n ≤ 1 then 0 else gr x (n - 1) (len - (n - 1))
theorem lastR_le (x : Nat → Int) {len n : Nat} (h1 : 1 ≤ n) (h : n < len) : lastR x len n ≤ gr x n (len - n) := by
  unfold lastR; split
  · exact gr_nonneg _ _ _
  · have := gr_step x (len := len) (n := n - 1) (by omega)
    rw [show n - 1 + 1 = n by omega] at this; exact this
theorem lastR_succ (x : Nat → Int) {len n : Nat} (h : 1 ≤ n) : lastR x len (n + 1) = gr x n (len - n) := by
  unfold lastR; rw [if_neg (by omega), Nat.add_sub_cancel]
theorem lastR_end (x : Nat → Int) {len : Nat} (h : 2 ≤ len) : lastR x len len = hiW x 0 len - loW x 0 len := by
  unfold lastR
  rw [if_neg (by omega), show len - (len - 1) = 1 by omega]
  show max 0 (hiW x 0 (len - 1 + 1) - loW x 0 (len - 1 + 1)) = _
  rw [show len - 1 + 1 = len by omega]
  have := loW_le_hiW x 0 len
  omega
end Go.Proofs.Ytbidogefodfakaa.Yx
