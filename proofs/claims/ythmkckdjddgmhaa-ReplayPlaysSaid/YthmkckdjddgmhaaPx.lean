/- Plain functions that the layer replay computes: the bits of a window as one number (no program in sight). -/
import Derived.Test.YthmkckdjddgmhaaRows
set_option linter.unusedVariables false
set_option linter.unusedSimpArgs false
namespace Go.Proofs.Ythmkckdjddgmhaa.Px
/-- word i of the bits -/
def wd (B i : Nat) : Nat := B >>> (64 * i) % 2 ^ 64
theorem wd_lt (B i : Nat) : wd B i < 18446744073709551616 := Nat.mod_lt _ (by decide)
theorem testBit_wd (B i r : Nat) : (wd B i).testBit r = (decide (r < 64) && B.testBit (64 * i + r)) := by
  unfold wd; rw [Nat.testBit_mod_two_pow, Nat.testBit_shiftRight]
theorem bit_of (B q r : Nat) (hr : r < 64) : (wd B q / 2 ^ r) % 2 = (if B.testBit (64 * q + r) then 1 else 0) := by
  have h := testBit_wd B q r
  rw [Nat.testBit_eq_decide_div_mod_eq] at h
  simp only [hr, decide_true, Bool.true_and] at h
  rw [← h]
  by_cases e : wd B q / 2 ^ r % 2 = 1
  · simp [e]
  · have := Nat.mod_lt (wd B q / 2 ^ r) (y := 2) (by decide)
    have e0 : wd B q / 2 ^ r % 2 = 0 := by omega
    simp [e0]
theorem ext_wd {a b : Nat} (h : ∀ r, r < 64 → a.testBit r = b.testBit r) (ha : a < 18446744073709551616) (hb : b < 18446744073709551616) : a = b := by
  refine Nat.eq_of_testBit_eq fun r => ?_
  by_cases hr : r < 64
  · exact h r hr
  · rw [Nat.testBit_lt_two_pow (show a < 2 ^ r from Nat.lt_of_lt_of_le (show a < 2 ^ 64 from ha) (Nat.pow_le_pow_right (by decide) (by omega))),
      Nat.testBit_lt_two_pow (show b < 2 ^ r from Nat.lt_of_lt_of_le (show b < 2 ^ 64 from hb) (Nat.pow_le_pow_right (by decide) (by omega)))]
theorem or_lt {a b : Nat} (ha : a < 18446744073709551616) (hb : b < 18446744073709551616) : a ||| b < 18446744073709551616 := Nat.or_lt_two_pow (n := 64) ha hb
/-- bit k set -/
def put (B k : Nat) : Nat := B ||| 2 ^ k
theorem put_same (B q r : Nat) (hr : r < 64) : wd (put B (64 * q + r)) q = wd B q ||| 2 ^ r := by
  refine ext_wd (fun j hj => ?_) (wd_lt _ _) (or_lt (wd_lt _ _) (Nat.pow_lt_pow_right (by decide) hr))
  rw [testBit_wd, Nat.testBit_or, testBit_wd, put, Nat.testBit_or, Nat.testBit_two_pow, Nat.testBit_two_pow]
  by_cases e : r = j
  · simp [e, hj]
  · simp [e, hj]
theorem put_other (B q r j : Nat) (hr : r < 64) (hj : j ≠ q) : wd (put B (64 * q + r)) j = wd B j := by
  refine ext_wd (fun k hk => ?_) (wd_lt _ _) (wd_lt _ _)
  rw [testBit_wd, testBit_wd, put, Nat.testBit_or, Nat.testBit_two_pow]
  have : ¬ (64 * q + r = 64 * j + k) := by omega
  simp [this]
/-- the bits of a top that is greater by n -/
def up (B n : Nat) : Nat := B <<< n % 2 ^ 256
theorem up_lt (B n : Nat) : up B n < 2 ^ 256 := Nat.mod_lt _ (Nat.two_pow_pos _)
theorem testBit_up (B n k : Nat) : (up B n).testBit k = (decide (k < 256) && (decide (n ≤ k) && B.testBit (k - n))) := by
  unfold up; rw [Nat.testBit_mod_two_pow, Nat.testBit_shiftLeft]
theorem up_big (B n : Nat) (h : 256 ≤ n) : up B n = 0 := by
  refine Nat.eq_of_testBit_eq fun k => ?_
  rw [testBit_up, Nat.zero_testBit]
  by_cases hk : k < 256
  · have : ¬ n ≤ k := by omega
    simp [this]
  · simp [hk]
/-- by whole words -/
theorem up_words (B k j : Nat) (hj : j < 4) : wd (up B (64 * k)) j = if k ≤ j then wd B (j - k) else 0 := by
  refine ext_wd (fun r hr => ?_) (wd_lt _ _) (by split; exact wd_lt _ _; decide)
  rw [testBit_wd, testBit_up]
  have h1 : 64 * j + r < 256 := by omega
  by_cases h : k ≤ j
  · have h2 : 64 * k ≤ 64 * j + r := by omega
    have e : 64 * j + r - 64 * k = 64 * (j - k) + r := by omega
    simp [h, h1, h2, hr, e, testBit_wd]
  · have h2 : ¬ 64 * k ≤ 64 * j + r := by omega
    simp [h, h2]
theorem up_up (B k s : Nat) : up (up B (64 * k)) s = up B (64 * k + s) := by
  refine Nat.eq_of_testBit_eq fun j => ?_
  rw [testBit_up, testBit_up, testBit_up]
  by_cases h1 : j < 256
  · by_cases h2 : 64 * k + s ≤ j
    · have a1 : s ≤ j := by omega
      have a2 : j - s < 256 := by omega
      have a3 : 64 * k ≤ j - s := by omega
      have a4 : j - s - 64 * k = j - (64 * k + s) := by omega
      simp [h1, h2, a1, a2, a3, a4]
    · by_cases h3 : s ≤ j
      · have a3 : ¬ 64 * k ≤ j - s := by omega
        simp [h2, a3]
      · simp [h2, h3]
  · simp [h1]
/-- by less than a word: the words, the greatest one first -/
theorem up_word (M s j : Nat) (hs : s < 64) (hj : j < 3) : wd (up M s) (j + 1) = (wd M (j + 1) * 2 ^ s) % 18446744073709551616 ||| wd M j / 2 ^ (64 - s) := by
  refine ext_wd (fun r hr => ?_) (wd_lt _ _) (or_lt (Nat.mod_lt _ (by decide)) (Nat.lt_of_le_of_lt (Nat.div_le_self _ _) (wd_lt _ _)))
  rw [testBit_wd, testBit_up, Nat.testBit_or, show (18446744073709551616 : Nat) = 2 ^ 64 from rfl, ← Nat.shiftLeft_eq, ← Nat.shiftRight_eq_div_pow, Nat.testBit_mod_two_pow, Nat.testBit_shiftLeft, Nat.testBit_shiftRight, testBit_wd, testBit_wd]
  have h1 : 64 * (j + 1) + r < 256 := by omega
  have h2 : s ≤ 64 * (j + 1) + r := by omega
  by_cases h : s ≤ r
  · have e : 64 * (j + 1) + r - s = 64 * (j + 1) + (r - s) := by omega
    have h3 : r - s < 64 := by omega
    have h4 : ¬ 64 - s + r < 64 := by omega
    simp [h, h1, h2, hr, e, h3, h4]
  · have e : 64 * (j + 1) + r - s = 64 * j + (64 - s + r) := by omega
    have h4 : 64 - s + r < 64 := by omega
    simp [h, h1, h2, hr, e, h4]
theorem up_word0 (M s : Nat) (hs : s < 64) : wd (up M s) 0 = (wd M 0 * 2 ^ s) % 18446744073709551616 := by
  refine ext_wd (fun r hr => ?_) (wd_lt _ _) (Nat.mod_lt _ (by decide))
  rw [testBit_wd, testBit_up, show (18446744073709551616 : Nat) = 2 ^ 64 from rfl, ← Nat.shiftLeft_eq, Nat.testBit_mod_two_pow, Nat.testBit_shiftLeft, testBit_wd]
  have h1 : 64 * 0 + r < 256 := by omega
  by_cases h : s ≤ r
  · have h3 : r - s < 64 := by omega
    have h2 : r < 256 := by omega
    simp [h, hr, h3, h2]
  · simp [h, hr]
/-- why a number is refused: the error's number, or 0 -/
def refuse (size next : Int) (B : Nat) (n : Int) : Int :=
  if n < 0 ∨ 4611686018427387904 < n then 3 else if size ≤ next - 1 - n then 17 else if 0 ≤ next - 1 - n ∧ B.testBit (next - 1 - n).toNat = true then 10 else 0
/-- the state behind an accepted number -/
def nextOf (next n : Int) : Int := if next ≤ n then n + 1 else next
def bitsOf (next : Int) (B : Nat) (n : Int) : Nat := if next ≤ n then put (up B (n + 1 - next).toNat) 0 else put B (next - 1 - n).toNat
/-- how many of the first k bits are not set -/
def miss (B : Nat) : Nat → Nat
  | 0 => 0
  | k + 1 => miss B k + (if B.testBit k = true then 0 else 1)
theorem miss_le (B k : Nat) : miss B k ≤ k := by
  induction k with
  | zero => exact Nat.le_refl _
  | succ k ih => unfold miss; split <;> omega
theorem miss_yes {B k : Nat} (h : B.testBit k = true) : miss B (k + 1) = miss B k := by rw [miss, if_pos h]; rfl
theorem miss_no {B k : Nat} (h : B.testBit k = false) : miss B (k + 1) = miss B k + 1 := by rw [miss, h]; rfl
end Go.Proofs.Ythmkckdjddgmhaa.Px
