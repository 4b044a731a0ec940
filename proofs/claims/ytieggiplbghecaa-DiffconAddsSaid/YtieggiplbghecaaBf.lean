/- Plain laws: the closure of bounds (Floyd and Warshall); 4611686018427387904 stands for no bound. -/
import Derived.Test.YtieggiplbghecaaBx
set_option linter.unusedVariables false
set_option linter.unusedSimpArgs false
namespace Go.Proofs.Ytieggiplbghecaa.Bx
/-- the bounds after c constraints -/
def M0 (z : Nat → Nat → Int) : Nat → Nat → Nat → Int
  | 0 => fun i j => if i = j then 0 else 4611686018427387904
  | c + 1 => fun i j => if (fr z c = i ∧ to z c = j) ∧ z c 2 < M0 z c i j then z c 2 else M0 z c i j
theorem M0_succ_le (z : Nat → Nat → Int) (c i j : Nat) : M0 z (c + 1) i j ≤ M0 z c i j := by simp only [M0]; split <;> omega
theorem M0_anti (z : Nat → Nat → Int) (i j : Nat) {c : Nat} : ∀ {m}, c ≤ m → M0 z m i j ≤ M0 z c i j
  | 0, h => by obtain rfl : c = 0 := by omega
               exact Int.le_refl _
  | m + 1, h => by
    by_cases e : c = m + 1
    · subst e; exact Int.le_refl _
    · exact Int.le_trans (M0_succ_le z m i j) (M0_anti z i j (by omega))
theorem M0_edge (z : Nat → Nat → Int) {c m : Nat} (h : c < m) : M0 z m (fr z c) (to z c) ≤ z c 2 := by
  refine Int.le_trans (M0_anti z _ _ (c := c + 1) h) ?_
  simp only [M0]
  by_cases g : z c 2 < M0 z c (fr z c) (to z c)
  · rw [if_pos ⟨⟨trivial, trivial⟩, g⟩]; exact Int.le_refl _
  · rw [if_neg (fun e => g e.2)]; omega
theorem M0_self (z : Nat → Nat → Int) (m i : Nat) : M0 z m i i ≤ 0 := by
  refine Int.le_trans (M0_anti z i i (c := 0) (Nat.zero_le _)) ?_
  simp [M0]
theorem M0_from (z : Nat → Nat → Int) (i j : Nat) : ∀ m, M0 z m i j = 4611686018427387904 ∨ (i = j ∧ M0 z m i j = 0) ∨ ∃ c, c < m ∧ fr z c = i ∧ to z c = j ∧ M0 z m i j = z c 2
  | 0 => by
    by_cases e : i = j
    · exact .inr (.inl ⟨e, by simp [M0, e]⟩)
    · exact .inl (by simp [M0, e])
  | m + 1 => by
    by_cases h : (fr z m = i ∧ to z m = j) ∧ z m 2 < M0 z m i j
    · exact .inr (.inr ⟨m, by omega, h.1.1, h.1.2, by simp only [M0]; rw [if_pos h]⟩)
    · have e : M0 z (m + 1) i j = M0 z m i j := by simp only [M0]; rw [if_neg h]
      rcases M0_from z i j m with g | ⟨g1, g2⟩ | ⟨c, hc, g1, g2, g3⟩
      · exact .inl (e.trans g)
      · exact .inr (.inl ⟨g1, e.trans g2⟩)
      · exact .inr (.inr ⟨c, by omega, g1, g2, e.trans g3⟩)
theorem M0_hi {n m : Nat} {z : Nat → Nat → Int} (V : Vs n m z) {c : Nat} (hc : c ≤ m) (i j : Nat) : M0 z c i j = 4611686018427387904 ∨ (-9007199254740992 ≤ M0 z c i j ∧ M0 z c i j ≤ 9007199254740992) := by
  rcases M0_from z i j c with g | ⟨_, g⟩ | ⟨c', hc', _, _, g⟩
  · exact .inl g
  · exact .inr (by omega)
  · have := V.ok c' (by omega); exact .inr (by omega)
/-- the bounds by way of the first k variables -/
def F (z : Nat → Nat → Int) (m : Nat) : Nat → Nat → Nat → Int
  | 0 => M0 z m
  | k + 1 => fun i j => if F z m k i k ≠ 4611686018427387904 ∧ F z m k k j ≠ 4611686018427387904 ∧ F z m k i k + F z m k k j < F z m k i j then F z m k i k + F z m k k j else F z m k i j
theorem F_succ (z : Nat → Nat → Int) (m k i j : Nat) : F z m (k + 1) i j = F z m k i j ∨ (F z m k i k ≠ 4611686018427387904 ∧ F z m k k j ≠ 4611686018427387904 ∧ F z m (k + 1) i j = F z m k i k + F z m k k j ∧ F z m (k + 1) i j < F z m k i j) := by
  by_cases h : F z m k i k ≠ 4611686018427387904 ∧ F z m k k j ≠ 4611686018427387904 ∧ F z m k i k + F z m k k j < F z m k i j
  · have e : F z m (k + 1) i j = F z m k i k + F z m k k j := by simp only [F]; rw [if_pos h]
    exact .inr ⟨h.1, h.2.1, e, by rw [e]; exact h.2.2⟩
  · exact .inl (by simp only [F]; rw [if_neg h])
theorem F_succ_le (z : Nat → Nat → Int) (m k i j : Nat) : F z m (k + 1) i j ≤ F z m k i j := by
  rcases F_succ z m k i j with h | h <;> omega
theorem F_sum (z : Nat → Nat → Int) (m k i j : Nat) (h1 : F z m k i k ≠ 4611686018427387904) (h2 : F z m k k j ≠ 4611686018427387904) : F z m (k + 1) i j ≤ F z m k i k + F z m k k j := by
  simp only [F]
  by_cases h : F z m k i k + F z m k k j < F z m k i j
  · rw [if_pos ⟨h1, h2, h⟩]; exact Int.le_refl _
  · rw [if_neg (by rintro ⟨_, _, g⟩; exact h g)]; omega
theorem F_le0 (z : Nat → Nat → Int) (m i j : Nat) : ∀ k, F z m k i j ≤ M0 z m i j
  | 0 => Int.le_refl _
  | k + 1 => Int.le_trans (F_succ_le z m k i j) (F_le0 z m i j k)
theorem F_top {n m : Nat} {z : Nat → Nat → Int} (V : Vs n m z) (k i j : Nat) : F z m k i j ≤ 4611686018427387904 := by
  have := F_le0 z m i j k; have := M0_hi V (Nat.le_refl m) i j; omega
/-- numbers that satisfy all constraints -/
def Pt (m : Nat) (z : Nat → Nat → Int) (y : Nat → Int) : Prop := ∀ c, c < m → y (to z c) ≤ y (fr z c) + z c 2
theorem F_lo {m : Nat} {z : Nat → Nat → Int} {y : Nat → Int} (hy : Pt m z y) : ∀ k i j, F z m k i j ≠ 4611686018427387904 → y j - y i ≤ F z m k i j
  | 0, i, j, h => by
    rcases M0_from z i j m with g | ⟨e, g⟩ | ⟨c, hc, e1, e2, g⟩
    · exact absurd g h
    · have g' : F z m 0 i j = 0 := g
      subst e; omega
    · have g' : F z m 0 i j = z c 2 := g
      have := hy c hc
      rw [e1, e2] at this; omega
  | k + 1, i, j, h => by
    rcases F_succ z m k i j with e | ⟨h1, h2, e, _⟩
    · rw [e] at h ⊢; exact F_lo hy k i j h
    · have := F_lo hy k i k h1; have := F_lo hy k k j h2; omega
theorem F_self {m : Nat} {z : Nat → Nat → Int} {y : Nat → Int} (hy : Pt m z y) (k i : Nat) : F z m k i i = 0 := by
  have h1 := F_le0 z m i i k; have h2 := M0_self z m i
  have := F_lo hy k i i (by omega); omega
theorem F_col {m : Nat} {z : Nat → Nat → Int} {y : Nat → Int} (hy : Pt m z y) (k i : Nat) : F z m (k + 1) i k = F z m k i k := by
  have := F_self hy k k
  rcases F_succ z m k i k with e | ⟨_, _, e, _⟩ <;> omega
theorem F_row {m : Nat} {z : Nat → Nat → Int} {y : Nat → Int} (hy : Pt m z y) (k j : Nat) : F z m (k + 1) k j = F z m k k j := by
  have := F_self hy k k
  rcases F_succ z m k k j with e | ⟨_, _, e, _⟩ <;> omega
/-- variables that are reached by at most t + 1 constraints by way of the first k variables -/
def R (e : Nat → Nat → Bool) (k i : Nat) : Nat → Nat → Bool
  | 0 => fun j => e i j
  | t + 1 => fun j => R e k i t j || (List.range k).any fun a => R e k i t a && e a j
theorem R_up {e : Nat → Nat → Bool} {k i t j : Nat} (h : R e k i t j = true) : ∀ s, R e k i (t + s) j = true
  | 0 => h
  | s + 1 => by
    show R e k i (t + s + 1) j = true
    simp only [R, R_up h s, Bool.true_or]
theorem R_step {e : Nat → Nat → Bool} {k i t a j : Nat} (h : R e k i t a = true) (ha : a < k) (he : e a j = true) : R e k i (t + 1) j = true := by
  simp only [R, Bool.or_eq_true, List.any_eq_true, List.mem_range, Bool.and_eq_true]
  exact .inr ⟨a, ha, h, he⟩
theorem R_or {e : Nat → Nat → Bool} {k i t j : Nat} (h : R e k i (t + 1) j = true) : R e k i t j = true ∨ ∃ a, a < k ∧ R e k i t a = true ∧ e a j = true := by
  simp only [R, Bool.or_eq_true, List.any_eq_true, List.mem_range, Bool.and_eq_true] at h
  exact h
theorem R_trans {e : Nat → Nat → Bool} {k i b t : Nat} (hb : b < k) (h : R e k i t b = true) : ∀ {s j}, R e k b s j = true → R e k i (t + s + 1) j = true
  | 0, j, g => R_step h hb g
  | s + 1, j, g => by
    rcases R_or g with g | ⟨a, ha, g1, g2⟩
    · exact R_up (R_trans hb h g) 1
    · exact R_step (R_trans hb h g1) ha g2
theorem R_stay {e : Nat → Nat → Bool} {k i t : Nat} (h : ∀ a, a < k → R e k i (t + 1) a = true → R e k i t a = true) : ∀ s j, R e k i (t + 1 + s) j = true → R e k i (t + 1) j = true
  | 0, _, g => g
  | s + 1, j, g => by
    rcases R_or g with g | ⟨a, ha, g1, g2⟩
    · exact R_stay h s j g
    · exact R_step (h a ha (R_stay h s a g1)) ha g2
/-- reached at all: reached by at most k + 2 -/
theorem R_soon {e : Nat → Nat → Bool} {k i s j : Nat} (h : R e k i s j = true) : R e k i (k + 1) j = true := by
  have ex : ∃ t, t ≤ k ∧ ∀ a, a < k → R e k i (t + 1) a = true → R e k i t a = true := by
    have key : ∀ t, (∃ t', t' < t ∧ ∀ a, a < k → R e k i (t' + 1) a = true → R e k i t' a = true) ∨ t ≤ cnt (R e k i t) k := by
      intro t
      induction t with
      | zero => exact .inr (Nat.zero_le _)
      | succ t ih =>
        rcases ih with ⟨t', ht, g⟩ | ih
        · exact .inl ⟨t', by omega, g⟩
        · by_cases c : ∃ a, a < k ∧ R e k i (t + 1) a = true ∧ R e k i t a = false
          · have := cnt_lt (p := R e k i t) (q := R e k i (t + 1)) (n := k) (fun a _ g => R_up g 1) c
            exact .inr (by omega)
          · refine .inl ⟨t, by omega, fun a ha g => ?_⟩
            by_cases f : R e k i t a = true
            · exact f
            · exact absurd ⟨a, ha, g, by simpa using f⟩ c
    rcases key (k + 1) with ⟨t, ht, g⟩ | g
    · exact ⟨t, by omega, g⟩
    · have := cnt_le (R e k i (k + 1)) k; omega
  obtain ⟨t, ht, g⟩ := ex
  have h2 : R e k i (t + 1) j = true := by
    have := R_up h (t + 1)
    rw [show s + (t + 1) = t + 1 + s by omega] at this
    exact R_stay g s j this
  have := R_up h2 (k - t)
  rwa [show t + 1 + (k - t) = k + 1 by omega] at this
def eg (z : Nat → Nat → Int) (m i j : Nat) : Bool := decide (M0 z m i j ≠ 4611686018427387904)
theorem F_reach (z : Nat → Nat → Int) (m k : Nat) : ∀ k', k' ≤ k → ∀ i j, F z m k' i j ≠ 4611686018427387904 → ∃ t, R (eg z m) k i t j = true
  | 0, _, i, j, h => ⟨0, by show eg z m i j = true; unfold eg; exact decide_eq_true h⟩
  | k' + 1, hk, i, j, h => by
    rcases F_succ z m k' i j with e | ⟨h1, h2, _, _⟩
    · rw [e] at h; exact F_reach z m k k' (by omega) i j h
    · obtain ⟨t, ht⟩ := F_reach z m k k' (by omega) i k' h1
      obtain ⟨s, hs⟩ := F_reach z m k k' (by omega) k' j h2
      exact ⟨_, R_trans (by omega) ht hs⟩
def Tri (z : Nat → Nat → Int) (m k : Nat) : Prop := ∀ a, a < k → ∀ i j, F z m k i a ≠ 4611686018427387904 → F z m k a j ≠ 4611686018427387904 → F z m k i j ≤ F z m k i a + F z m k a j
theorem R_bound {n m : Nat} {z : Nat → Nat → Int} (V : Vs n m z) {k : Nat} (hk : k ≤ 160) (T : Tri z m k) (i : Nat) : ∀ t, t ≤ k + 1 → ∀ j, R (eg z m) k i t j = true → F z m k i j ≤ (t + 1) * 9007199254740992
  | 0, _, j, h => by
    have h' : M0 z m i j ≠ 4611686018427387904 := by have h : eg z m i j = true := h; unfold eg at h; exact of_decide_eq_true h
    have := M0_hi V (Nat.le_refl m) i j; have := F_le0 z m i j k; omega
  | t + 1, ht, j, h => by
    rcases R_or h with h | ⟨a, ha, h1, h2⟩
    · have := R_bound V hk T i t (by omega) j h; omega
    · have b := R_bound V hk T i t (by omega) a h1
      have h' : M0 z m a j ≠ 4611686018427387904 := by unfold eg at h2; exact of_decide_eq_true h2
      have := M0_hi V (Nat.le_refl m) a j; have := F_le0 z m a j k
      have := T a ha i j (by omega) (by omega)
      omega
theorem F_up {n m : Nat} {z : Nat → Nat → Int} (V : Vs n m z) {k : Nat} (hk : k ≤ 160) (T : Tri z m k) (i j : Nat) (h : F z m k i j ≠ 4611686018427387904) : F z m k i j ≤ 1459166279268040704 := by
  obtain ⟨t, ht⟩ := F_reach z m k k (Nat.le_refl _) i j h
  have := R_bound V hk T i (k + 1) (Nat.le_refl _) j (R_soon ht)
  omega
theorem tri {n m : Nat} {z : Nat → Nat → Int} {y : Nat → Int} (V : Vs n m z) (hy : Pt m z y) : ∀ k, k ≤ 160 → Tri z m k
  | 0, _ => fun a ha => by omega
  | k + 1, hk => by
    have T := tri V hy k (by omega)
    have U := F_up V (k := k) (by omega) T
    intro a ha i j h1 h2
    have le := F_succ_le z m k i j
    have top := F_top V k
    by_cases e : a = k
    · subst e
      rw [F_col hy] at h1 ⊢; rw [F_row hy] at h2 ⊢
      exact F_sum z m a i j h1 h2
    · have hak : a < k := by omega
      rcases F_succ z m k i a with e1 | ⟨p1, p2, e1, _⟩
      · rcases F_succ z m k a j with e2 | ⟨q1, q2, e2, _⟩
        · rw [e1] at h1 ⊢; rw [e2] at h2 ⊢
          have := T a hak i j h1 h2; omega
        · rw [e1] at h1 ⊢
          have t1 := T a hak i k h1 q1
          have u1 := U i a h1; have u2 := U a k q1
          have := F_sum z m k i j (by omega) q2
          omega
      · rcases F_succ z m k a j with e2 | ⟨q1, q2, e2, _⟩
        · rw [e2] at h2 ⊢
          have t1 := T a hak k j p2 h2
          have u1 := U k a p2; have u2 := U a j h2
          have := F_sum z m k i j p1 (by omega)
          omega
        · have t1 := T a hak k k p2 q1
          rw [F_self hy] at t1
          have := F_sum z m k i j p1 q2
          omega
/-- all that is known of the closure where the system has a solution y -/
theorem F_bd {n m : Nat} {z : Nat → Nat → Int} {y : Nat → Int} (V : Vs n m z) (hy : Pt m z y) {k : Nat} (hk : k ≤ 160) (i j : Nat) : F z m k i j = 4611686018427387904 ∨ (y j - y i ≤ F z m k i j ∧ F z m k i j ≤ 1459166279268040704) := by
  by_cases h : F z m k i j = 4611686018427387904
  · exact .inl h
  · exact .inr ⟨F_lo hy k i j h, F_up V hk (tri V hy k hk) i j h⟩
/-- a matrix that is closed, and no greater than the constraints, is no greater than the closure -/
theorem F_greatest {n m : Nat} {z : Nat → Nat → Int} {y : Nat → Int} (V : Vs n m z) (hy : Pt m z y) {H : Nat → Nat → Int} (hs : ∀ i, H i i ≤ 0) (he : ∀ c, c < m → H (fr z c) (to z c) ≤ z c 2)
    (ht : ∀ a i j, H i a ≠ 4611686018427387904 → H a j ≠ 4611686018427387904 → H i j ≤ H i a + H a j) : ∀ k, k ≤ 160 → ∀ i j, F z m k i j ≠ 4611686018427387904 → H i j ≤ F z m k i j
  | 0, _, i, j, h => by
    rcases M0_from z i j m with g | ⟨e, g⟩ | ⟨c, hc, e1, e2, g⟩
    · exact absurd g h
    · have g' : F z m 0 i j = 0 := g
      subst e; rw [g']; exact hs i
    · have g' : F z m 0 i j = z c 2 := g
      have := he c hc
      rw [e1, e2] at this; omega
  | k + 1, hk, i, j, h => by
    rcases F_succ z m k i j with e | ⟨h1, h2, e, _⟩
    · rw [e] at h ⊢; exact F_greatest V hy hs he ht k (by omega) i j h
    · have a := F_greatest V hy hs he ht k (by omega) i k h1
      have b := F_greatest V hy hs he ht k (by omega) k j h2
      have u1 := F_up V (k := k) (by omega) (tri V hy k (by omega)) i k h1
      have u2 := F_up V (k := k) (by omega) (tri V hy k (by omega)) k j h2
      have := ht k i j (by omega) (by omega)
      omega
/-- a number at stage k, while row i is done up to column j -/
def mid (z : Nat → Nat → Int) (m k i j : Nat) (i' j' : Nat) : Int := if i' < i ∨ (i' = i ∧ j' < j) then F z m (k + 1) i' j' else F z m k i' j'
theorem mid_col {m : Nat} {z : Nat → Nat → Int} {y : Nat → Int} (hy : Pt m z y) (k i j i' : Nat) : mid z m k i j i' k = F z m k i' k := by
  unfold mid; split
  · exact F_col hy k i'
  · rfl
theorem mid_row {m : Nat} {z : Nat → Nat → Int} {y : Nat → Int} (hy : Pt m z y) (k i j j' : Nat) : mid z m k i j k j' = F z m k k j' := by
  unfold mid; split
  · exact F_row hy k j'
  · rfl
theorem mid_at (z : Nat → Nat → Int) (m k i j : Nat) : mid z m k i j i j = F z m k i j := by
  unfold mid; rw [if_neg (by omega)]
theorem mid_start (z : Nat → Nat → Int) (m k : Nat) : mid z m k 0 0 = F z m k := by
  funext i' j'; unfold mid; rw [if_neg (by omega)]
/-- the stored number is that of the next stage -/
theorem mid_next (z : Nat → Nat → Int) (m k i j i' j' : Nat) : mid z m k i (j + 1) i' j' = if i' = i ∧ j' = j then F z m (k + 1) i j else mid z m k i j i' j' := by
  unfold mid
  by_cases e : i' = i ∧ j' = j
  · obtain ⟨rfl, rfl⟩ := e
    rw [if_pos (by omega), if_pos ⟨rfl, rfl⟩]
  · rw [if_neg e]
    by_cases h : i' < i ∨ i' = i ∧ j' < j
    · rw [if_pos (by omega), if_pos h]
    · rw [if_neg (by omega), if_neg h]
theorem mid_rowend {n : Nat} (z : Nat → Nat → Int) (m k i : Nat) {i' j' : Nat} (hj : j' < n) : mid z m k i n i' j' = mid z m k (i + 1) 0 i' j' := by
  unfold mid
  by_cases h : i' < i ∨ i' = i ∧ j' < n
  · rw [if_pos h, if_pos (by omega)]
  · rw [if_neg h, if_neg (by omega)]
theorem mid_end {n : Nat} (z : Nat → Nat → Int) (m k : Nat) {i' : Nat} (hi : i' < n) (j' : Nat) : mid z m k n 0 i' j' = F z m (k + 1) i' j' := by
  unfold mid; rw [if_pos (by omega)]
/-- a row without a bound to k stays as it is -/
theorem mid_skip {n : Nat} (z : Nat → Nat → Int) (m k i : Nat) (h : F z m k i k = 4611686018427387904) {i' j' : Nat} : mid z m k (i + 1) 0 i' j' = mid z m k i 0 i' j' := by
  unfold mid
  by_cases c : i' < i
  · rw [if_pos (by omega), if_pos (by omega)]
  · by_cases e : i' = i
    · subst e
      rw [if_pos (by omega), if_neg (by omega)]
      rcases F_succ z m k i' j' with e | ⟨h1, _⟩
      · exact e
      · exact absurd h h1
    · rw [if_neg (by omega), if_neg (by omega)]
end Go.Proofs.Ytieggiplbghecaa.Bx
