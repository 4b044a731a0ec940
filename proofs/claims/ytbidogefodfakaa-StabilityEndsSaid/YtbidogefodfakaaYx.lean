/- Plain laws of layer 48: lists of time errors. -/
import Derived.Test.YtbidogefodfakaaRows
set_option linter.unusedVariables false
set_option linter.unusedSimpArgs false
namespace Go.Proofs.Ytbidogefodfakaa.Yx
def okE (v : Int) : Bool := decide (-1099511627776 ≤ v ∧ v ≤ 1099511627776)
theorem okE_iff {v : Int} : okE v = true ↔ (-1099511627776 ≤ v ∧ v ≤ 1099511627776) := by unfold okE; simp
def scan (x : Nat → Int) : Nat → Int
  | 0 => 0
  | k + 1 => if scan x k = 0 then (if okE (x k) = true then 0 else 3) else 3
theorem scan_go {x : Nat → Int} {k : Nat} (h : scan x k = 0) (h2 : okE (x k) = true) : scan x (k + 1) = 0 := by unfold scan; simp [h, h2]
theorem scan_no {x : Nat → Int} {k : Nat} (h2 : okE (x k) = false) : ∀ m, k < m → scan x m = 3
  | 0, h => by omega
  | m + 1, h => by
    unfold scan
    by_cases e : k = m
    · subst e; simp [h2]
    · rw [scan_no h2 m (by omega)]; rfl
theorem scan_all {x : Nat → Int} : ∀ {m : Nat}, scan x m = 0 → ∀ i, i < m → okE (x i) = true
  | 0, _, i, hi => by omega
  | m + 1, h, i, hi => by
    unfold scan at h
    by_cases h1 : scan x m = 0
    · by_cases h2 : okE (x m) = true
      · by_cases e : i = m
        · rw [e]; exact h2
        · exact scan_all h1 i (by omega)
      · simp [h1, h2] at h
    · simp [h1] at h
theorem scan_of {x : Nat → Int} : ∀ {m : Nat}, (∀ i, i < m → okE (x i) = true) → scan x m = 0
  | 0, _ => rfl
  | m + 1, h => scan_go (scan_of fun i hi => h i (by omega)) (h m (by omega))
def chk (n : Nat) (x : Nat → Int) : Int := if 1024 < n then 6 else scan x n
theorem chk_ok {n : Nat} {x : Nat → Int} (h : chk n x = 0) : n ≤ 1024 ∧ ∀ i, i < n → -1099511627776 ≤ x i ∧ x i ≤ 1099511627776 := by
  unfold chk at h
  split at h
  · omega
  · exact ⟨by omega, fun i hi => okE_iff.1 (scan_all h i hi)⟩
theorem chk_of {n : Nat} {x : Nat → Int} (h1 : n ≤ 1024) (h : ∀ i, i < n → -1099511627776 ≤ x i ∧ x i ≤ 1099511627776) : chk n x = 0 := by
  unfold chk; rw [if_neg (by omega)]; exact scan_of fun i hi => okE_iff.2 (h i hi)
theorem chk_two (n : Nat) (x : Nat → Int) : chk n x = 0 ∨ chk n x = 3 ∨ chk n x = 6 := by
  unfold chk; split
  · exact .inr (.inr rfl)
  · cases n with
    | zero => exact .inl rfl
    | succ k =>
      unfold scan
      by_cases h : scan x k = 0
      · by_cases h2 : okE (x k) = true <;> simp [h, h2]
      · simp [h]
/-- the least, the greatest of x i .. x (i + k) -/
def loW (x : Nat → Int) (i : Nat) : Nat → Int
  | 0 => x i
  | k + 1 => min (loW x i k) (x (i + k))
def hiW (x : Nat → Int) (i : Nat) : Nat → Int
  | 0 => x i
  | k + 1 => max (hiW x i k) (x (i + k))
theorem loW_le_hiW (x : Nat → Int) (i k : Nat) : loW x i k ≤ hiW x i k := by
  induction k with
  | zero => exact Int.le_refl _
  | succ k ih => simp only [loW, hiW]; omega
theorem win_bd {n : Nat} {x : Nat → Int} (h : ∀ i, i < n → -1099511627776 ≤ x i ∧ x i ≤ 1099511627776) {i : Nat} (hi : i < n) : ∀ k, i + k ≤ n → -1099511627776 ≤ loW x i k ∧ loW x i k ≤ 1099511627776 ∧ -1099511627776 ≤ hiW x i k ∧ hiW x i k ≤ 1099511627776
  | 0, _ => by have := h i hi; simp only [loW, hiW]; omega
  | k + 1, hk => by
    have := win_bd h hi k (by omega); have := h (i + k) (by omega)
    simp only [loW, hiW]; omega
/-- the greatest range of the first m windows -/
def gr (x : Nat → Int) (n : Nat) : Nat → Int
  | 0 => 0
  | m + 1 => max (gr x n m) (hiW x m (n + 1) - loW x m (n + 1))
theorem gr_bd {len : Nat} {x : Nat → Int} (h : ∀ i, i < len → -1099511627776 ≤ x i ∧ x i ≤ 1099511627776) (n : Nat) : ∀ m, m + n ≤ len → 0 ≤ gr x n m ∧ gr x n m ≤ 2199023255552
  | 0, _ => by simp [gr]
  | m + 1, hm => by
    have := gr_bd h n m (by omega)
    have := win_bd h (i := m) (by omega) (n + 1) (by omega)
    simp only [gr]; omega
/-- Range's number and error -/
def rngE (len : Nat) (x : Nat → Int) (n : Int) : Int := if chk len x = 0 then (if n < 1 ∨ (len : Int) - 1 < n then 3 else 0) else chk len x
def rng (len : Nat) (x : Nat → Int) (n : Int) : Int := if chk len x = 0 ∧ 1 ≤ n ∧ n ≤ (len : Int) - 1 then gr x n.toNat (len - n.toNat) else 0
/-- second difference -/
def sd (x : Nat → Int) (n i : Nat) : Int := x (i + 2 * n) - 2 * x (i + n) + x i
theorem sd_bd {len : Nat} {x : Nat → Int} (h : ∀ i, i < len → -1099511627776 ≤ x i ∧ x i ≤ 1099511627776) {n i : Nat} (hi : i + 2 * n < len) : -4398046511104 ≤ sd x n i ∧ sd x n i ≤ 4398046511104 := by
  have := h (i + 2 * n) hi; have := h (i + n) (by omega); have := h i (by omega)
  unfold sd; omega
/-- sums -/
def sum (f : Nat → Int) : Nat → Int
  | 0 => 0
  | k + 1 => sum f k + f k
theorem sum_congr {f g : Nat → Int} : ∀ {n : Nat}, (∀ i, i < n → f i = g i) → sum f n = sum g n
  | 0, _ => rfl
  | n + 1, h => by show sum f n + f n = sum g n + g n; rw [sum_congr (fun i hi => h i (by omega)), h n (by omega)]
def sqs (f : Nat → Int) (k : Nat) : Int := sum (fun i => f i * f i) k
theorem sq_nonneg (a : Int) : 0 ≤ a * a := by
  rcases Int.le_total 0 a with h | h
  · exact Int.mul_nonneg h h
  · have := Int.mul_nonneg (show (0 : Int) ≤ -a by omega) (show (0 : Int) ≤ -a by omega)
    rw [Int.neg_mul_neg] at this; exact this
theorem sqs_succ (f : Nat → Int) (k : Nat) : sqs f (k + 1) = sqs f k + f k * f k := rfl
theorem sqs_nonneg (f : Nat → Int) : ∀ k, 0 ≤ sqs f k
  | 0 => Int.le_refl _
  | k + 1 => by have := sqs_nonneg f k; have := sq_nonneg (f k); rw [sqs_succ]; omega
theorem sqs_mono (f : Nat → Int) {k : Nat} : ∀ {m}, k ≤ m → sqs f k ≤ sqs f m
  | 0, h => by obtain rfl : k = 0 := by omega
               exact Int.le_refl _
  | m + 1, h => by
    by_cases e : k = m + 1
    · subst e; exact Int.le_refl _
    · have := sqs_mono f (k := k) (m := m) (by omega); have := sq_nonneg (f m); rw [sqs_succ]; omega
/-- the sum of squares, or 0 and the error of a sum that is no int -/
def sqV (f : Nat → Int) (k : Nat) : Int := if sqs f k ≤ 9223372036854775807 then sqs f k else 0
def sqE (f : Nat → Int) (k : Nat) : Int := if sqs f k ≤ 9223372036854775807 then 0 else 4
/-- a / b in lowest terms -/
def rN (a b : Int) : Int := a / (Int.gcd a b : Int)
def rD (a b : Int) : Int := b / (Int.gcd a b : Int)
/-- Allan -/
def alE (len : Nat) (x : Nat → Int) (n : Int) : Int :=
  if chk len x = 0 then (if 1 ≤ n ∧ 2 * n < len then sqE (sd x n.toNat) (len - 2 * n.toNat) else 3) else chk len x
def alOk (len : Nat) (x : Nat → Int) (n : Int) : Prop := chk len x = 0 ∧ 1 ≤ n ∧ 2 * n < len ∧ sqs (sd x n.toNat) (len - 2 * n.toNat) ≤ 9223372036854775807
instance (len : Nat) (x : Nat → Int) (n : Int) : Decidable (alOk len x n) := by unfold alOk; infer_instance
def alN (len : Nat) (x : Nat → Int) (n : Int) : Int := if alOk len x n then rN (sqs (sd x n.toNat) (len - 2 * n.toNat)) (2 * (len - 2 * n)) else 0
def alD (len : Nat) (x : Nat → Int) (n : Int) : Int := if alOk len x n then rD (sqs (sd x n.toNat) (len - 2 * n.toNat)) (2 * (len - 2 * n)) else 0
/-- Modified -/
def ms (x : Nat → Int) (n j : Nat) : Int := sum (fun i => sd x n (j + i)) n
def moE (len : Nat) (x : Nat → Int) (n : Int) : Int :=
  if chk len x = 0 then (if 1 ≤ n ∧ 3 * n ≤ len then sqE (ms x n.toNat) (len - 3 * n.toNat + 1) else 3) else chk len x
def moOk (len : Nat) (x : Nat → Int) (n : Int) : Prop := chk len x = 0 ∧ 1 ≤ n ∧ 3 * n ≤ len ∧ sqs (ms x n.toNat) (len - 3 * n.toNat + 1) ≤ 9223372036854775807
instance (len : Nat) (x : Nat → Int) (n : Int) : Decidable (moOk len x n) := by unfold moOk; infer_instance
def moN (len : Nat) (x : Nat → Int) (n : Int) : Int := if moOk len x n then rN (sqs (ms x n.toNat) (len - 3 * n.toNat + 1)) (2 * n * n * (len - 3 * n + 1)) else 0
def moD (len : Nat) (x : Nat → Int) (n : Int) : Int := if moOk len x n then rD (sqs (ms x n.toNat) (len - 3 * n.toNat + 1)) (2 * n * n * (len - 3 * n + 1)) else 0
theorem psum_bd {len : Nat} {x : Nat → Int} (h : ∀ i, i < len → -1099511627776 ≤ x i ∧ x i ≤ 1099511627776) {n j : Nat} : ∀ k, (k = 0 ∨ j + k - 1 + 2 * n < len) → -(k * 4398046511104 : Int) ≤ sum (fun i => sd x n (j + i)) k ∧ sum (fun i => sd x n (j + i)) k ≤ (k * 4398046511104 : Int)
  | 0, _ => by simp [sum]
  | k + 1, hk => by
    have := psum_bd h (n := n) (j := j) k (by omega); have := sd_bd h (n := n) (i := j + k) (by omega)
    simp only [sum]; omega
/-- Decimate: the elements of the first k whose index n divides -/
def dec (x : Nat → Int) (n : Nat) : Nat → List Int
  | 0 => []
  | k + 1 => if k % n = 0 then dec x n k ++ [x k] else dec x n k
def dcE (len : Nat) (x : Nat → Int) (n : Int) : Int := if chk len x = 0 then (if n < 1 then 3 else 0) else chk len x
def dcL (len : Nat) (x : Nat → Int) (n : Int) : List Int := if chk len x = 0 ∧ 1 ≤ n then dec x n.toNat len else []
theorem dec_len (x : Nat → Int) (n : Nat) : ∀ k, (dec x n k).length ≤ k
  | 0 => by simp [dec]
  | k + 1 => by have := dec_len x n k; unfold dec; split <;> simp <;> omega
/-- Detrend -/
def dt (len : Nat) (x : Nat → Int) (i : Nat) : Int := x i - x 0 - Int.fdiv ((x (len - 1) - x 0) * i) ((len : Int) - 1)
def dtE (len : Nat) (x : Nat → Int) : Int := if chk len x = 0 then (if len < 2 then 14 else 0) else chk len x
def dtL (len : Nat) (x : Nat → Int) : List Int := if chk len x = 0 ∧ 2 ≤ len then (List.range len).map (dt len x) else []
/-- Rms -/
def cut (v : Int) : Int := min (max v (-v)) 1073741824
def rmsT (x : Nat → Int) (k : Nat) : Int := sum (fun i => cut (x i) * cut (x i)) k
theorem cut_bd (v : Int) : 0 ≤ cut v ∧ cut v ≤ 1073741824 := by unfold cut; omega
theorem cut_sq (v : Int) : 0 ≤ cut v * cut v ∧ cut v * cut v ≤ 1152921504606846976 := by
  obtain ⟨a, b⟩ := cut_bd v
  refine ⟨Int.mul_nonneg a a, ?_⟩
  have := Int.mul_le_mul b b a (show (0 : Int) ≤ 1073741824 by decide)
  omega
theorem rmsT_bd (x : Nat → Int) : ∀ k, 0 ≤ rmsT x k ∧ rmsT x k ≤ k * 1152921504606846976
  | 0 => by simp [rmsT, sum]
  | k + 1 => by
    have h := rmsT_bd x k; have c := cut_sq (x k)
    have e : rmsT x (k + 1) = rmsT x k + cut (x k) * cut (x k) := rfl
    rw [e]; omega
end Go.Proofs.Ytbidogefodfakaa.Yx
