/- Plain law of layer 25's reference: the order by repeated choice of the first one, the root bit by bit. -/
import Derived.Test.YtbbdeagllhmdiaaKx
set_option linter.unusedVariables false
set_option linter.unusedSimpArgs false
namespace Go.Proofs.Ytbbdeagllhmdiaa.Kx
open Go.Proofs.Ytbbdeagllhmdiaa
/-- where the first one of the first k lies -/
def mn (l : List Cd) : Nat → Nat
  | 0 => 0
  | k + 1 => if k = 0 then 0 else if bef (nth l k) (nth l (mn l k)) then k else mn l k
theorem mn_lt (l : List Cd) : ∀ k, 0 < k → mn l k < k
  | 0, h => by omega
  | k + 1, _ => by
    simp only [mn]
    split
    · omega
    · rename_i h
      split
      · omega
      · have := mn_lt l k (by omega); omega
theorem nb_refl (x : Cd) : nb x x := by unfold nb bef; omega
theorem mn_le (l : List Cd) : ∀ k i, i < k → nb (nth l (mn l k)) (nth l i)
  | 0, i, h => by omega
  | k + 1, i, h => by
    simp only [mn]
    split
    · rename_i h0
      obtain rfl : i = 0 := by omega
      exact nb_refl _
    · rename_i h0
      split
      · rename_i g
        by_cases e : i = k
        · rw [e]; exact nb_refl _
        · exact nb_trans (bef_nb g) (mn_le l k i (by omega))
      · rename_i g
        by_cases e : i = k
        · rw [e]; exact g
        · exact mn_le l k i (by omega)
theorem mn_one (l : List Cd) : mn l 1 = 0 := by simp [mn]
theorem mn_yes {l : List Cd} {k : Nat} (h : k ≠ 0) (g : bef (nth l k) (nth l (mn l k))) : mn l (k + 1) = k := by simp only [mn]; rw [if_neg h, if_pos g]
theorem mn_no {l : List Cd} {k : Nat} (h : k ≠ 0) (g : ¬ bef (nth l k) (nth l (mn l k))) : mn l (k + 1) = mn l k := by simp only [mn]; rw [if_neg h, if_neg g]
theorem ord_first {l : List Cd} (V : Val l) (h : 0 < l.length) : nth l (mn l l.length) :: ord (l.eraseIdx (mn l l.length)) = ord l := by
  have lt := mn_lt l l.length h
  have p : (nth l (mn l l.length) :: l.eraseIdx (mn l l.length)).Perm l := by
    rw [nth_eq lt, List.eraseIdx_eq_take_drop_succ]
    have h1 : l.take (mn l l.length) ++ l[mn l l.length] :: l.drop (mn l l.length + 1) = l := by rw [List.getElem_cons_drop, List.take_append_drop]
    have h2 := (List.perm_middle (a := l[mn l l.length]) (l₁ := l.take (mn l l.length)) (l₂ := l.drop (mn l l.length + 1))).symm
    rwa [h1] at h2
  refine ord_uniq V (((ord_perm _).cons _).trans p) (List.pairwise_cons.2 ⟨fun y hy => ?_, ord_sorted _⟩)
  have hy2 : y ∈ l := (List.eraseIdx_sublist l _).subset ((ord_perm _).mem_iff.1 hy)
  obtain ⟨i, hi, rfl⟩ := mem_nth hy2
  exact mn_le l _ i hi
theorem ord_nil : ord [] = [] := rfl
/-- one step of the reference's order -/
theorem ord_step {l m q : List Cd} (V : Val m) (h : 0 < m.length) (e : q ++ ord m = ord l) : (q ++ [nth m (mn m m.length)]) ++ ord (m.eraseIdx (mn m m.length)) = ord l := by
  rw [List.append_assoc, List.singleton_append, ord_first V h, e]
theorem erase_len {m : List Cd} {i : Nat} (h : i < m.length) : (m.eraseIdx i).length = m.length - 1 := List.length_eraseIdx_of_lt h
theorem erase_eq (m : List Cd) (i : Nat) : m.eraseIdx i = m.take i ++ m.drop (i + 1) := List.eraseIdx_eq_take_drop_succ m i
/-- the bits of the root from place k on -/
structure Ra (n r k : Nat) : Prop where
  low : r * r ≤ n
  high : n < (r + 2 ^ k) * (r + 2 ^ k)
  lt : r + 2 ^ k ≤ 2147483648
theorem ra_start {n : Nat} (h : n ≤ 1152921504606846976) : Ra n 0 31 := ⟨by omega, by omega, by omega⟩
theorem ra_step {n r k : Nat} (H : Ra n r (k + 1)) : r + 2 ^ k < 2147483648 ∧ (r + 2 ^ k) * (r + 2 ^ k) ≤ 4611686018427387904 ∧ ((r + 2 ^ k) * (r + 2 ^ k) ≤ n → Ra n (r + 2 ^ k) k) ∧ (¬ (r + 2 ^ k) * (r + 2 ^ k) ≤ n → Ra n r k) := by
  have hp := Nat.two_pow_pos k
  have e2 : 2 ^ (k + 1) = 2 ^ k + 2 ^ k := by rw [Nat.pow_succ]; omega
  have hl := H.lt
  have hb : (r + 2 ^ k) * (r + 2 ^ k) ≤ 2147483648 * 2147483648 := Nat.mul_le_mul (by omega) (by omega)
  refine ⟨by omega, by omega, fun h => ⟨h, ?_, by omega⟩, fun h => ⟨H.low, by omega, by omega⟩⟩
  have := H.high
  rw [e2] at this
  rw [Nat.add_assoc]; exact this
theorem ra_end {n r : Nat} (H : Ra n r 0) : Fx.isq (n : Int) = (r : Int) := by
  have a := H.low
  have b := H.high
  unfold Fx.isq
  rw [Int.toNat_natCast, Fx.isqN_unique a (by simpa using b)]
theorem max_abs (d : Int) : max d (-d) = Fx.iabs d := by unfold Fx.iabs; split <;> omega
theorem wst_lt (l : List Cd) : ∀ k, 0 < k → wst l k < k
  | 0, h => by omega
  | k + 1, _ => by
    simp only [wst]
    split
    · omega
    · split
      · omega
      · have := wst_lt l k (by omega); omega
theorem wst_yes {l : List Cd} {k : Nat} (h : k ≠ 0) (g : spr l (nth l (wst l k)) ≤ spr l (nth l k)) : wst l (k + 1) = k := by simp only [wst]; rw [if_neg h, if_pos g]
theorem wst_no {l : List Cd} {k : Nat} (h : k ≠ 0) (g : ¬ spr l (nth l (wst l k)) ≤ spr l (nth l k)) : wst l (k + 1) = wst l k := by simp only [wst]; rw [if_neg h, if_neg g]
end Go.Proofs.Ytbbdeagllhmdiaa.Kx
