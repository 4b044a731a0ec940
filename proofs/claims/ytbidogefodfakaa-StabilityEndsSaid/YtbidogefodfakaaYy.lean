/- Plain laws of layer 48: lines added; Allan and Modified at distance one; lowest terms. -/
import Derived.Test.YtbidogefodfakaaYx
set_option linter.unusedVariables false
set_option linter.unusedSimpArgs false
namespace Go.Proofs.Ytbidogefodfakaa.Yx
/-- a line added -/
def lin (x : Nat → Int) (a b : Int) (i : Nat) : Int := x i + a + b * i
theorem lin0 (x : Nat → Int) : lin x 0 0 = x := by funext i; unfold lin; omega
theorem sd_lin (x : Nat → Int) (a b : Int) (n : Nat) : sd (lin x a b) n = sd x n := by
  funext i
  unfold sd lin
  have e1 : b * ((i + 2 * n : Nat) : Int) = b * i + 2 * (b * n) := by
    rw [Int.natCast_add, Int.mul_add, Int.natCast_mul, ← Int.mul_assoc, Int.mul_comm b ((2 : Nat) : Int), Int.mul_assoc]; rfl
  have e2 : b * ((i + n : Nat) : Int) = b * i + b * n := by rw [Int.natCast_add, Int.mul_add]
  rw [e1, e2]; omega
theorem ms_congr {x y : Nat → Int} {n : Nat} (h : sd x n = sd y n) : ms x n = ms y n := by
  funext j; unfold ms; rw [h]
theorem al_congr {x y : Nat → Int} {len : Nat} (hc : chk len x = chk len y) (h : ∀ n, sd x n = sd y n) (n : Int) : alN len x n = alN len y n ∧ alD len x n = alD len y n ∧ alE len x n = alE len y n := by
  have o : alOk len x n ↔ alOk len y n := by unfold alOk; rw [hc, h]
  refine ⟨?_, ?_, ?_⟩
  · unfold alN; rw [h]; by_cases c : alOk len x n
    · rw [if_pos c, if_pos (o.1 c)]
    · rw [if_neg c, if_neg (fun g => c (o.2 g))]
  · unfold alD; rw [h]; by_cases c : alOk len x n
    · rw [if_pos c, if_pos (o.1 c)]
    · rw [if_neg c, if_neg (fun g => c (o.2 g))]
  · unfold alE; rw [hc, h]
theorem mo_congr {x y : Nat → Int} {len : Nat} (hc : chk len x = chk len y) (h : ∀ n, sd x n = sd y n) (n : Int) : moN len x n = moN len y n ∧ moD len x n = moD len y n ∧ moE len x n = moE len y n := by
  have g : ∀ n, ms x n = ms y n := fun n => ms_congr (h n)
  have o : moOk len x n ↔ moOk len y n := by unfold moOk; rw [hc, g]
  refine ⟨?_, ?_, ?_⟩
  · unfold moN; rw [g]; by_cases c : moOk len x n
    · rw [if_pos c, if_pos (o.1 c)]
    · rw [if_neg c, if_neg (fun g => c (o.2 g))]
  · unfold moD; rw [g]; by_cases c : moOk len x n
    · rw [if_pos c, if_pos (o.1 c)]
    · rw [if_neg c, if_neg (fun g => c (o.2 g))]
  · unfold moE; rw [hc, g]
theorem dt_lin (x : Nat → Int) (a b : Int) {len i : Nat} (h : 2 ≤ len) : dt len (lin x a b) i = dt len x i := by
  unfold dt lin
  have e0 : b * ((0 : Nat) : Int) = 0 := by simp
  have e1 : ((len - 1 : Nat) : Int) = (len : Int) - 1 := by omega
  have e2 : (x (len - 1) + a + b * ((len - 1 : Nat) : Int) - (x 0 + a + b * ((0 : Nat) : Int))) * (i : Int) = (x (len - 1) - x 0) * (i : Int) + (b * i) * ((len : Int) - 1) := by
    rw [e0, e1, show x (len - 1) + a + b * ((len : Int) - 1) - (x 0 + a + 0) = (x (len - 1) - x 0) + b * ((len : Int) - 1) by omega, Int.add_mul, Int.mul_assoc, Int.mul_comm ((len : Int) - 1) (i : Int), ← Int.mul_assoc]
  rw [e2, Int.add_mul_fdiv_right _ _ (by omega), e0]
  omega
theorem lin_bd {x : Nat → Int} {a b : Int} {len : Nat} (hl : len ≤ 1000) (hx : ∀ i, i < len → -2147483648 ≤ x i ∧ x i ≤ 2147483647) (a1 : -2147483648 ≤ a) (a2 : a ≤ 2147483647) (b1 : -32768 ≤ b) (b2 : b ≤ 32767) : ∀ i, i < len → -1099511627776 ≤ lin x a b i ∧ lin x a b i ≤ 1099511627776 := by
  intro i hi
  have h := hx i hi
  have p1 := Int.mul_le_mul_of_nonneg_right (a := b) (b := 32767) (c := (i : Int)) b2 (by omega)
  have p2 := Int.mul_le_mul_of_nonneg_right (a := -32768) (b := b) (c := (i : Int)) b1 (by omega)
  unfold lin; omega
theorem lin_chk {x : Nat → Int} {a b : Int} {len : Nat} (hl : len ≤ 1000) (hx : ∀ i, i < len → -2147483648 ≤ x i ∧ x i ≤ 2147483647) (a1 : -2147483648 ≤ a) (a2 : a ≤ 2147483647) (b1 : -32768 ≤ b) (b2 : b ≤ 32767) : chk len (lin x a b) = 0 :=
  chk_of (by omega) (lin_bd hl hx a1 a2 b1 b2)
/-- Modified at distance one is Allan -/
theorem ms_one (x : Nat → Int) : ms x 1 = sd x 1 := by
  funext j; show 0 + sd x 1 (j + 0) = _; rw [Nat.add_zero]; omega
theorem one_eq (len : Nat) (x : Nat → Int) : moN len x 1 = alN len x 1 ∧ moD len x 1 = alD len x 1 ∧ moE len x 1 = alE len x 1 := by
  have n1 : (1 : Int).toNat = 1 := rfl
  have o : moOk len x 1 ↔ alOk len x 1 := by
    unfold moOk alOk
    rw [n1, ms_one]
    constructor
    · rintro ⟨a, b, c, d⟩
      rw [show len - 3 * 1 + 1 = len - 2 * 1 by omega] at d
      exact ⟨a, b, by omega, d⟩
    · rintro ⟨a, b, c, d⟩
      rw [← show len - 3 * 1 + 1 = len - 2 * 1 by omega] at d
      exact ⟨a, b, by omega, d⟩
  refine ⟨?_, ?_, ?_⟩
  · unfold moN alN
    by_cases c : alOk len x 1
    · have h := c.2.2.1
      rw [if_pos c, if_pos (o.2 c), n1, ms_one, show len - 3 * 1 + 1 = len - 2 * 1 by omega, show (2 : Int) * 1 * 1 * ((len : Int) - 3 * 1 + 1) = 2 * ((len : Int) - 2 * 1) by omega]
    · rw [if_neg c, if_neg (fun g => c (o.1 g))]
  · unfold moD alD
    by_cases c : alOk len x 1
    · have h := c.2.2.1
      rw [if_pos c, if_pos (o.2 c), n1, ms_one, show len - 3 * 1 + 1 = len - 2 * 1 by omega, show (2 : Int) * 1 * 1 * ((len : Int) - 3 * 1 + 1) = 2 * ((len : Int) - 2 * 1) by omega]
    · rw [if_neg c, if_neg (fun g => c (o.1 g))]
  · unfold moE alE
    by_cases hc : chk len x = 0
    · rw [if_pos hc, if_pos hc]
      by_cases h : 3 ≤ len
      · rw [if_pos ⟨by omega, by omega⟩, if_pos ⟨by omega, by omega⟩, n1, ms_one, show len - 3 * 1 + 1 = len - 2 * 1 by omega]
      · rw [if_neg (by omega), if_neg (by omega)]
    · rw [if_neg hc, if_neg hc]
/-- lowest terms -/
theorem low_terms {s c : Int} (hs : 0 ≤ s) (hc : 1 ≤ c) : 0 ≤ rN s c ∧ 1 ≤ rD s c ∧ rN s c ≤ s ∧ rD s c ≤ c ∧ Int.gcd (rN s c) (rD s c) = 1 ∧ ((rN s c = 0 ∧ rD s c = 1) ↔ s = 0) := by
  have g0 : 0 < Int.gcd s c := Nat.pos_of_ne_zero (by rw [Ne, Int.gcd_eq_zero_iff]; omega)
  have g1 : (1 : Int) ≤ (Int.gcd s c : Int) := by omega
  have ds := Int.gcd_dvd_left (a := s) (b := c)
  have dc := Int.gcd_dvd_right (a := s) (b := c)
  have e1 := Int.ediv_mul_cancel ds
  have e2 := Int.ediv_mul_cancel dc
  have n0 : 0 ≤ s / (Int.gcd s c : Int) := Int.ediv_nonneg hs (by omega)
  have d0 : 0 ≤ c / (Int.gcd s c : Int) := Int.ediv_nonneg (by omega) (by omega)
  have d1 : 1 ≤ c / (Int.gcd s c : Int) := by
    rcases Int.lt_or_le 0 (c / (Int.gcd s c : Int)) with h | h
    · omega
    · have : c / (Int.gcd s c : Int) = 0 := by omega
      rw [this] at e2; omega
  have hg : Int.gcd (s / (Int.gcd s c : Int)) (c / (Int.gcd s c : Int)) = 1 := by
    have := Int.gcd_ediv ds dc
    rw [this]; simp only [Int.natAbs_natCast]; exact Nat.div_self g0
  unfold rN rD
  refine ⟨n0, d1, Int.ediv_le_self _ hs, Int.ediv_le_self _ (by omega), hg, ?_⟩
  constructor
  · rintro ⟨h, _⟩; rw [h] at e1; omega
  · rintro rfl
    refine ⟨Int.zero_ediv _, ?_⟩
    rw [Int.gcd_zero_left, show ((c.natAbs : Nat) : Int) = c by omega]
    exact Int.ediv_self (by omega)
/-- all squares are 0 -/
theorem sqs_zero {f : Nat → Int} : ∀ {k : Nat}, sqs f k = 0 ↔ ∀ i, i < k → f i = 0
  | 0 => ⟨fun _ i hi => by omega, fun _ => rfl⟩
  | k + 1 => by
    rw [sqs_succ]
    have a := sqs_nonneg f k; have b := sq_nonneg (f k)
    constructor
    · intro h i hi
      by_cases e : i = k
      · subst e
        have : f i * f i = 0 := by omega
        exact (Int.mul_eq_zero.1 this).elim id id
      · exact sqs_zero.1 (show sqs f k = 0 by omega) i (by omega)
    · intro h
      rw [sqs_zero.2 fun i hi => h i (by omega), h k (by omega)]; rfl
end Go.Proofs.Ytbidogefodfakaa.Yx
