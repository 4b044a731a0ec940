/- Plain laws of candidates: which are right, which lists are, their weights. -/
import Derived.Test.YtbbdeagllhmdiaaFx
import Derived.Test.YtbbdeagllhmdiaaHp
import Derived.Lib.Hide
set_option linter.unusedVariables false
set_option linter.unusedSimpArgs false
namespace Go.Proofs.Ytbbdeagllhmdiaa.Cx
open Go.RowKit
def okC (a b c d e : Int) : Bool := decide (0 ≤ a ∧ a ≤ 2147483647 ∧ -4503599627370496 ≤ b ∧ b ≤ 4503599627370496 ∧ 0 ≤ c ∧ c ≤ 9007199254740992 ∧ 0 ≤ d ∧ d ≤ 9007199254740992 ∧ 1 ≤ e ∧ e ≤ 16)
theorem okC_iff {a b c d e : Int} : okC a b c d e = true ↔ (0 ≤ a ∧ a ≤ 2147483647 ∧ -4503599627370496 ≤ b ∧ b ≤ 4503599627370496 ∧ 0 ≤ c ∧ c ≤ 9007199254740992 ∧ 0 ≤ d ∧ d ≤ 9007199254740992 ∧ 1 ≤ e ∧ e ≤ 16) := by
  unfold okC; exact decide_eq_true_iff
theorem okC_no {a b c d e : Int} (h : ¬ (0 ≤ a ∧ a ≤ 2147483647 ∧ -4503599627370496 ≤ b ∧ b ≤ 4503599627370496 ∧ 0 ≤ c ∧ c ≤ 9007199254740992 ∧ 0 ≤ d ∧ d ≤ 9007199254740992 ∧ 1 ≤ e ∧ e ≤ 16)) : okC a b c d e = false := by
  unfold okC; exact decide_eq_false h
/-- the first test that fails, or none -/
theorem parts (a b c d e : Int) :
    (a < 0) ∨ (0 ≤ a ∧ 2147483647 < a) ∨ (0 ≤ a ∧ a ≤ 2147483647 ∧ b < -4503599627370496) ∨ (0 ≤ a ∧ a ≤ 2147483647 ∧ -4503599627370496 ≤ b ∧ 4503599627370496 < b) ∨
    (0 ≤ a ∧ a ≤ 2147483647 ∧ -4503599627370496 ≤ b ∧ b ≤ 4503599627370496 ∧ c < 0) ∨ (0 ≤ a ∧ a ≤ 2147483647 ∧ -4503599627370496 ≤ b ∧ b ≤ 4503599627370496 ∧ 0 ≤ c ∧ 9007199254740992 < c) ∨
    (0 ≤ a ∧ a ≤ 2147483647 ∧ -4503599627370496 ≤ b ∧ b ≤ 4503599627370496 ∧ 0 ≤ c ∧ c ≤ 9007199254740992 ∧ d < 0) ∨ (0 ≤ a ∧ a ≤ 2147483647 ∧ -4503599627370496 ≤ b ∧ b ≤ 4503599627370496 ∧ 0 ≤ c ∧ c ≤ 9007199254740992 ∧ 0 ≤ d ∧ 9007199254740992 < d) ∨
    (0 ≤ a ∧ a ≤ 2147483647 ∧ -4503599627370496 ≤ b ∧ b ≤ 4503599627370496 ∧ 0 ≤ c ∧ c ≤ 9007199254740992 ∧ 0 ≤ d ∧ d ≤ 9007199254740992 ∧ e < 1) ∨
    (0 ≤ a ∧ a ≤ 2147483647 ∧ -4503599627370496 ≤ b ∧ b ≤ 4503599627370496 ∧ 0 ≤ c ∧ c ≤ 9007199254740992 ∧ 0 ≤ d ∧ d ≤ 9007199254740992 ∧ 1 ≤ e ∧ 16 < e) ∨
    (0 ≤ a ∧ a ≤ 2147483647 ∧ -4503599627370496 ≤ b ∧ b ≤ 4503599627370496 ∧ 0 ≤ c ∧ c ≤ 9007199254740992 ∧ 0 ≤ d ∧ d ≤ 9007199254740992 ∧ 1 ≤ e ∧ e ≤ 16) := by
  by_cases h0 : a < 0
  · exact .inl h0
  by_cases h1 : 2147483647 < a
  · exact .inr (.inl ⟨by omega, h1⟩)
  by_cases h2 : b < -4503599627370496
  · exact .inr (.inr (.inl ⟨by omega, by omega, h2⟩))
  by_cases h3 : 4503599627370496 < b
  · exact .inr (.inr (.inr (.inl ⟨by omega, by omega, by omega, h3⟩)))
  by_cases h4 : c < 0
  · exact .inr (.inr (.inr (.inr (.inl ⟨by omega, by omega, by omega, by omega, h4⟩))))
  by_cases h5 : 9007199254740992 < c
  · exact .inr (.inr (.inr (.inr (.inr (.inl ⟨by omega, by omega, by omega, by omega, by omega, h5⟩)))))
  by_cases h6 : d < 0
  · exact .inr (.inr (.inr (.inr (.inr (.inr (.inl ⟨by omega, by omega, by omega, by omega, by omega, by omega, h6⟩))))))
  by_cases h7 : 9007199254740992 < d
  · exact .inr (.inr (.inr (.inr (.inr (.inr (.inr (.inl ⟨by omega, by omega, by omega, by omega, by omega, by omega, by omega, h7⟩)))))))
  by_cases h8 : e < 1
  · exact .inr (.inr (.inr (.inr (.inr (.inr (.inr (.inr (.inl ⟨by omega, by omega, by omega, by omega, by omega, by omega, by omega, by omega, h8⟩))))))))
  by_cases h9 : 16 < e
  · exact .inr (.inr (.inr (.inr (.inr (.inr (.inr (.inr (.inr (.inl ⟨by omega, by omega, by omega, by omega, by omega, by omega, by omega, by omega, by omega, h9⟩)))))))))
  exact .inr (.inr (.inr (.inr (.inr (.inr (.inr (.inr (.inr (.inr ⟨by omega, by omega, by omega, by omega, by omega, by omega, by omega, by omega, by omega, by omega⟩)))))))))
/-- the numbers of the first k candidates -/
def ids (z : Nat → Nat → Int) (k : Nat) : List Int := (List.range k).map fun i => z i 0
theorem ids_succ (z : Nat → Nat → Int) (k : Nat) : ids z (k + 1) = ids z k ++ [z k 0] := by
  unfold ids; rw [List.range_succ, List.map_append]; rfl
theorem mem_ids {z : Nat → Nat → Int} {k : Nat} {x : Int} : x ∈ ids z k ↔ ∃ i, i < k ∧ z i 0 = x := by
  simp [ids]
def twice (z : Nat → Nat → Int) (k : Nat) : Bool := decide (z k 0 ∈ ids z k)
def right (z : Nat → Nat → Int) (k : Nat) : Bool := okC (z k 0) (z k 1) (z k 2) (z k 3) (z k 4)
/-- the error of the first k candidates -/
def scan (z : Nat → Nat → Int) : Nat → Int
  | 0 => 0
  | k + 1 => if scan z k = 0 then (if right z k = true then (if twice z k = true then 10 else 0) else 3) else scan z k
theorem scan_no {z : Nat → Nat → Int} {k : Nat} (h : scan z k = 0) (h2 : right z k = false) : scan z (k + 1) = 3 := by
  unfold scan; rw [if_pos h, h2]; rfl
theorem scan_two {z : Nat → Nat → Int} {k : Nat} (h : scan z k = 0) (h2 : right z k = true) (h3 : twice z k = true) : scan z (k + 1) = 10 := by
  unfold scan; rw [if_pos h, if_pos h2, if_pos h3]
theorem scan_go {z : Nat → Nat → Int} {k : Nat} (h : scan z k = 0) (h2 : right z k = true) (h3 : twice z k = false) : scan z (k + 1) = 0 := by
  unfold scan; rw [if_pos h, if_pos h2, h3]; rfl
theorem scan_stay {z : Nat → Nat → Int} {k : Nat} (h : scan z k ≠ 0) : ∀ n, k ≤ n → scan z n = scan z k
  | 0, h1 => by obtain rfl : k = 0 := by omega
                rfl
  | n + 1, h1 => by
    by_cases e : k = n + 1
    · rw [e]
    · have := scan_stay h n (by omega)
      show (if scan z n = 0 then _ else scan z n) = _
      rw [this, if_neg h]
theorem scan_right {z : Nat → Nat → Int} : ∀ {n : Nat}, scan z n = 0 → ∀ i, i < n → right z i = true
  | 0, _, i, hi => by omega
  | n + 1, h, i, hi => by
    unfold scan at h
    split at h
    · rename_i h0
      split at h
      · rename_i h1
        by_cases e : i = n
        · rw [e]; exact h1
        · exact scan_right h0 i (by omega)
      · omega
    · rename_i h0; exact absurd h h0
def chk (n : Nat) (z : Nat → Nat → Int) : Int := if 12 < n then 6 else scan z n
theorem chk_ok {n : Nat} {z : Nat → Nat → Int} (h : chk n z = 0) : n ≤ 12 ∧ scan z n = 0 ∧ ∀ i, i < n → 0 ≤ z i 0 ∧ z i 0 ≤ 2147483647 ∧ -4503599627370496 ≤ z i 1 ∧ z i 1 ≤ 4503599627370496 ∧ 0 ≤ z i 2 ∧ z i 2 ≤ 9007199254740992 := by
  unfold chk at h
  split at h
  · omega
  · refine ⟨by omega, h, fun i hi => ?_⟩
    have := okC_iff.1 (scan_right h i hi)
    omega
/-- the weight of a candidate at this distance -/
def wt (d : Int) : Int := max 1 (Int.tdiv 1073741824 (Int.tdiv d 1000 + 1))
theorem wt_q {d : Int} (h : 0 ≤ d) : wt d = max 1 (1073741824 / (d / 1000 + 1)) := by
  unfold wt; rw [Int.tdiv_eq_ediv_of_nonneg h, Int.tdiv_eq_ediv_of_nonneg (by omega)]
theorem wt_bd {d : Int} (h : 0 ≤ d) : 1 ≤ wt d ∧ wt d ≤ 1073741824 := by
  unfold wt
  rw [Int.tdiv_eq_ediv_of_nonneg h, Int.tdiv_eq_ediv_of_nonneg (by omega)]
  have : (1073741824 : Int) / (d / 1000 + 1) ≤ 1073741824 := Int.ediv_le_self _ (by omega)
  omega
theorem wt_le {c d : Int} (h : 0 ≤ c) (hcd : c ≤ d) : wt d ≤ wt c := by
  unfold wt
  rw [Int.tdiv_eq_ediv_of_nonneg h, Int.tdiv_eq_ediv_of_nonneg (show 0 ≤ d by omega), Int.tdiv_eq_ediv_of_nonneg (by omega), Int.tdiv_eq_ediv_of_nonneg (by omega)]
  have h1 : c / 1000 ≤ d / 1000 := Int.ediv_le_ediv (by omega) hcd
  have h0 : 0 ≤ c / 1000 := by omega
  have : (1073741824 : Int) / (d / 1000 + 1) ≤ 1073741824 / (c / 1000 + 1) := by
    have g1 : 0 < d / 1000 + 1 := by omega
    have g2 : 0 < c / 1000 + 1 := by omega
    rw [Int.le_ediv_iff_mul_le g2]
    have := Int.ediv_mul_le 1073741824 (show d / 1000 + 1 ≠ 0 by omega)
    have q : (0 : Int) ≤ 1073741824 / (d / 1000 + 1) := Int.ediv_nonneg (by omega) (by omega)
    have := Int.mul_le_mul_of_nonneg_left (show c / 1000 + 1 ≤ d / 1000 + 1 by omega) q
    omega
  omega
/-- the weights of the first k -/
def wtsN (z : Nat → Nat → Int) (k : Nat) : List Int := (List.range k).map fun i => wt (z i 2)
theorem wtsN_succ (z : Nat → Nat → Int) (k : Nat) : wtsN z (k + 1) = wtsN z k ++ [wt (z k 2)] := by
  unfold wtsN; rw [List.range_succ, List.map_append]; rfl
theorem wtsN_len (z : Nat → Nat → Int) (k : Nat) : (wtsN z k).length = k := by simp [wtsN]
theorem wtsN_get (z : Nat → Nat → Int) {k i : Nat} (h : i < k) : (wtsN z k).getD i 0 = wt (z i 2) := by
  simp [wtsN, List.getD_eq_getElem?_getD, h]
def wts (n : Nat) (z : Nat → Nat → Int) : List Int := if chk n z = 0 then wtsN z n else []
/-- sums of the first k -/
def sum (f : Nat → Int) : Nat → Int
  | 0 => 0
  | k + 1 => sum f k + f k
theorem sum_congr {f g : Nat → Int} : ∀ {n : Nat}, (∀ i, i < n → f i = g i) → sum f n = sum g n
  | 0, _ => rfl
  | n + 1, h => by show sum f n + f n = sum g n + g n; rw [sum_congr (fun i hi => h i (by omega)), h n (by omega)]
theorem sum_mono {f : Nat → Int} (n : Nat) (h : ∀ i, i < n → 0 ≤ f i) : ∀ k, k ≤ n → 0 ≤ sum f k ∧ sum f k ≤ sum f n := by
  induction n with
  | zero => intro k hk; obtain rfl : k = 0 := by omega
            exact ⟨Int.le_refl _, Int.le_refl _⟩
  | succ n ih =>
    intro k hk
    have i1 := ih (fun i hi => h i (by omega))
    have := h n (by omega)
    by_cases e : k = n + 1
    · subst e; have := i1 n (by omega); refine ⟨?_, Int.le_refl _⟩
      show 0 ≤ sum f n + f n; omega
    · have a := i1 k (by omega); have b := i1 n (by omega)
      refine ⟨a.1, ?_⟩
      show _ ≤ sum f n + f n; omega
theorem sum_le {f : Nat → Int} {c : Int} : ∀ {n : Nat}, (∀ i, i < n → f i ≤ c) → sum f n ≤ n * c
  | 0, _ => by simp [sum]
  | n + 1, h => by
    have := sum_le (n := n) (fun i hi => h i (by omega))
    have := h n (by omega)
    show sum f n + f n ≤ _
    rw [show ((n + 1 : Nat) : Int) * c = n * c + c by rw [Int.natCast_add]; simp [Int.add_mul]]
    omega
/-- the sum of the weights -/
def tot (z : Nat → Nat → Int) (n : Nat) : Int := sum (fun i => wt (z i 2)) n
theorem tot_bd {n : Nat} {z : Nat → Nat → Int} (h : chk n z = 0) : ∀ k, k ≤ n → 0 ≤ tot z k ∧ tot z k ≤ tot z n ∧ tot z n ≤ 12884901888 := by
  obtain ⟨h1, _, h3⟩ := chk_ok h
  intro k hk
  have a := sum_mono (f := fun i => wt (z i 2)) n (fun i hi => by have := (wt_bd (h3 i hi).2.2.2.2.1).1; omega) k hk
  have b := sum_le (f := fun i => wt (z i 2)) (c := 1073741824) (n := n) (fun i hi => (wt_bd (h3 i hi).2.2.2.2.1).2)
  unfold tot
  omega
theorem tot_pos {n : Nat} {z : Nat → Nat → Int} (h : chk n z = 0) (hn : 0 < n) : 1 ≤ tot z n := by
  obtain ⟨h1, _, h3⟩ := chk_ok h
  have a := sum_mono (f := fun i => wt (z i 2)) n (fun i hi => by have := (wt_bd (h3 i hi).2.2.2.2.1).1; omega) 1 hn
  have b := (wt_bd (h3 0 hn).2.2.2.2.1).1
  have e : sum (fun i => wt (z i 2)) 1 = 0 + wt (z 0 2) := rfl
  unfold tot
  omega
/-- part i of the weighted sum of x -/
def part (n : Nat) (z : Nat → Nat → Int) (x : Nat → Int) (i : Nat) : Int := Int.fdiv (wt (z i 2) * x i) (tot z n)
def wsum (n : Nat) (z : Nat → Nat → Int) (x : Nat → Int) (k : Nat) : Int := sum (part n z x) k
end Go.Proofs.Ytbbdeagllhmdiaa.Cx
