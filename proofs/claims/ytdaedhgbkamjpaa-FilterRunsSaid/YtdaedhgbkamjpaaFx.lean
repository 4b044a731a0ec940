/- Plain integer functions that the layer fixed computes (no program in sight). -/
set_option linter.unusedVariables false
set_option linter.unusedSimpArgs false
namespace Go.Proofs.Ytdaedhgbkamjpaa.Fx

/-- the number and true if it is an int, else 0 and false -/
def fitOk (v : Int) : Bool := decide (-9223372036854775808 ≤ v ∧ v ≤ 9223372036854775807)
def fitV (v : Int) : Int := if fitOk v = true then v else 0
def iabs (n : Int) : Int := if n < 0 then -n else n
/-- the number with the absolute value m and a sign -/
def sg (m : Int) (b : Bool) : Int := if b = true then -m else m
/-- a quotient by b: none by 0 -/
def qOk (b v : Int) : Bool := if b = 0 then false else fitOk v
def qV (b v : Int) : Int := if b = 0 then 0 else fitV v
def fl (a b : Int) : Int := a.fdiv b
def ce (a b : Int) : Int := -((-a).fdiv b)
def nr (a b : Int) : Int := if iabs b < 2 * iabs (a - fl a b * b) ∨ (iabs b = 2 * iabs (a - fl a b * b) ∧ fl a b % 2 ≠ 0) then fl a b + 1 else fl a b

theorem fitOk_true {v : Int} (h1 : -9223372036854775808 ≤ v) (h2 : v ≤ 9223372036854775807) : fitOk v = true := by
  unfold fitOk; exact decide_eq_true ⟨h1, h2⟩
theorem fitOk_false {v : Int} (h : ¬ (-9223372036854775808 ≤ v ∧ v ≤ 9223372036854775807)) : fitOk v = false := by
  unfold fitOk; exact decide_eq_false h
theorem fitOk_iff {v : Int} : fitOk v = true ↔ (-9223372036854775808 ≤ v ∧ v ≤ 9223372036854775807) := by
  unfold fitOk; simp
theorem fitV_of {v : Int} (h : fitOk v = true) : fitV v = v := by unfold fitV; rw [if_pos h]
theorem fitV_no {v : Int} (h : fitOk v = false) : fitV v = 0 := by unfold fitV; rw [h]; rfl
theorem fit_in {v : Int} (h1 : -9223372036854775808 ≤ v) (h2 : v ≤ 9223372036854775807) : v = fitV v ∧ true = fitOk v :=
  ⟨(fitV_of (fitOk_true h1 h2)).symm, (fitOk_true h1 h2).symm⟩
theorem fit_out {v : Int} (h : v < -9223372036854775808 ∨ 9223372036854775807 < v) : 0 = fitV v ∧ false = fitOk v := by
  have := fitOk_false (v := v) (by omega)
  exact ⟨(fitV_no this).symm, this.symm⟩
theorem fitV_bd (v : Int) : -9223372036854775808 ≤ fitV v ∧ fitV v ≤ 9223372036854775807 := by
  unfold fitV fitOk; split
  · rename_i h; exact of_decide_eq_true h
  · omega
theorem qV_bd (b v : Int) : -9223372036854775808 ≤ qV b v ∧ qV b v ≤ 9223372036854775807 := by
  unfold qV; split
  · omega
  · exact fitV_bd v
theorem q_in {b v : Int} (hb : b ≠ 0) (h1 : -9223372036854775808 ≤ v) (h2 : v ≤ 9223372036854775807) : v = qV b v ∧ true = qOk b v := by
  unfold qV qOk; rw [if_neg hb, if_neg hb]; exact fit_in h1 h2
theorem q_in' {b x v : Int} (hb : b ≠ 0) (e : x = v) (h1 : -9223372036854775808 ≤ x) (h2 : x ≤ 9223372036854775807) : x = qV b v ∧ true = qOk b v := by
  subst e; exact q_in hb h1 h2
theorem q_fit {b v : Int} (hb : b ≠ 0) : fitV v = qV b v ∧ fitOk v = qOk b v := by
  unfold qV qOk; rw [if_neg hb, if_neg hb]; exact ⟨rfl, rfl⟩
theorem q_zero {v : Int} : 0 = qV 0 v ∧ false = qOk 0 v := ⟨rfl, rfl⟩
theorem q_out {b v : Int} (h : b = 0 ∨ (v < -9223372036854775808 ∨ 9223372036854775807 < v)) : 0 = qV b v ∧ false = qOk b v := by
  unfold qV qOk; split
  · exact ⟨rfl, rfl⟩
  · exact fit_out (by omega)
theorem qOk_iff {b v : Int} : qOk b v = true ↔ (b ≠ 0 ∧ -9223372036854775808 ≤ v ∧ v ≤ 9223372036854775807) := by
  unfold qOk; split
  · simp; omega
  · rw [fitOk_iff]; omega
theorem qV_of {b v : Int} (h : qOk b v = true) : qV b v = v := by
  have h' := qOk_iff.1 h
  unfold qV; rw [if_neg h'.1]; exact fitV_of (fitOk_true h'.2.1 h'.2.2)
theorem qV_no {b v : Int} (h : qOk b v = false) : qV b v = 0 := by
  unfold qOk at h; unfold qV; split
  · rfl
  · rename_i hb; rw [if_neg hb] at h; exact fitV_no h
theorem iabs_bd (n : Int) (h1 : -9223372036854775808 ≤ n) (h2 : n ≤ 9223372036854775807) : 0 ≤ iabs n ∧ iabs n ≤ 9223372036854775808 := by
  unfold iabs; split <;> omega
theorem iabs_nonneg (n : Int) : 0 ≤ iabs n := by unfold iabs; split <;> omega
theorem iabs_mul (a b : Int) : iabs a * iabs b = iabs (a * b) := by
  have h (n : Int) : iabs n = (n.natAbs : Int) := by unfold iabs; split <;> omega
  rw [h, h, h, Int.natAbs_mul, Int.natCast_mul]

/-! quotients -/
theorem tdiv_bd (a b : Int) (h1 : -9223372036854775808 ≤ a) (h2 : a ≤ 9223372036854775807) (h0 : b ≠ 0) (h : ¬ (a = -9223372036854775808 ∧ b = -1)) :
    -9223372036854775808 ≤ a.tdiv b ∧ a.tdiv b ≤ 9223372036854775807 := by
  have e := Int.natAbs_tdiv a b
  have l : a.natAbs / b.natAbs ≤ a.natAbs := Nat.div_le_self _ _
  by_cases hb : b = -1
  · subst hb; rw [Int.tdiv_neg, Int.tdiv_one]; omega
  · by_cases hb1 : b = 1
    · subst hb1; rw [Int.tdiv_one]; omega
    · have l2 : a.natAbs / b.natAbs ≤ a.natAbs / 2 := Nat.div_le_div_left (by omega) (by omega)
      have l3 : a.natAbs / 2 ≤ 4611686018427387904 := by omega
      have : (a.tdiv b).natAbs ≤ 4611686018427387904 := by rw [e]; exact Nat.le_trans l2 l3
      omega
/-- the facts on a truncated quotient -/
theorem tdiv_facts (a b : Int) (h0 : b ≠ 0) : ∃ q r, a.tdiv b = q ∧ a.tmod b = r ∧ a = q * b + r ∧ (0 ≤ a → 0 ≤ r) ∧ (a ≤ 0 → r ≤ 0) ∧ iabs r < iabs b := by
  refine ⟨_, _, rfl, rfl, ?_, ?_, ?_, ?_⟩
  · have := Int.tmod_add_mul_tdiv a b; rw [Int.mul_comm]; omega
  · intro h; exact Int.tmod_nonneg b h
  · intro h
    have := Int.tmod_nonneg b (a := -a) (by omega)
    rw [Int.neg_tmod] at this; omega
  · have h := Int.natAbs_tmod a b
    have h2 : a.natAbs % b.natAbs < b.natAbs := Nat.mod_lt _ (by omega)
    have e (n : Int) : iabs n = (n.natAbs : Int) := by unfold iabs; split <;> omega
    rw [e, e, h]; omega
/-- what the quotient rounded down is -/
theorem fdiv_unique {a b q r : Int} (h : a = q * b + r) (hb : (0 < b ∧ 0 ≤ r ∧ r < b) ∨ (b < 0 ∧ b < r ∧ r ≤ 0)) : a.fdiv b = q := by
  rcases hb with ⟨hb, h1, h2⟩ | ⟨hb, h1, h2⟩
  · rw [Int.fdiv_eq_ediv_of_nonneg _ (by omega)]
    have : a / b = q ∧ a % b = r := (Int.ediv_emod_unique hb).2 ⟨by rw [h, Int.mul_comm]; omega, h1, h2⟩
    exact this.1
  · have e : a.fdiv b = (-a).fdiv (-b) := (Int.neg_fdiv_neg a b).symm
    rw [e, Int.fdiv_eq_ediv_of_nonneg _ (by omega)]
    have : (-a) / (-b) = q ∧ (-a) % (-b) = -r := (Int.ediv_emod_unique (by omega)).2 ⟨by rw [h, Int.neg_mul, Int.mul_comm]; omega, by omega, by omega⟩
    exact this.1
theorem fl_unique {a b q r : Int} (h : a = q * b + r) (hb : (0 < b ∧ 0 ≤ r ∧ r < b) ∨ (b < 0 ∧ b < r ∧ r ≤ 0)) : fl a b = q := fdiv_unique h hb
theorem ce_unique {a b q r : Int} (h : a = q * b + r) (hb : (0 < b ∧ r ≤ 0 ∧ -b < r) ∨ (b < 0 ∧ 0 ≤ r ∧ r < -b)) : ce a b = q := by
  unfold ce
  rw [fdiv_unique (a := -a) (b := b) (q := -q) (r := -r) (by rw [Int.neg_mul]; omega) (by omega)]; omega
/-- the facts on the quotient rounded down -/
theorem fl_facts (a b : Int) (h0 : b ≠ 0) : ∃ q r, fl a b = q ∧ a = q * b + r ∧ ((0 < b ∧ 0 ≤ r ∧ r < b) ∨ (b < 0 ∧ b < r ∧ r ≤ 0)) := by
  by_cases hb : 0 < b
  · have e := Int.emod_add_mul_ediv a b
    have l := Int.emod_nonneg a (b := b) (by omega)
    have l2 := Int.emod_lt_of_pos a hb
    have h : a = a / b * b + a % b := by rw [Int.mul_comm]; omega
    exact ⟨_, _, fl_unique h (.inl ⟨hb, l, l2⟩), h, .inl ⟨hb, l, l2⟩⟩
  · have e := Int.emod_add_mul_ediv (-a) (-b)
    have l := Int.emod_nonneg (-a) (b := -b) (by omega)
    have l2 := Int.emod_lt_of_pos (-a) (b := -b) (by omega)
    have h : a = (-a) / (-b) * b + -((-a) % (-b)) := by rw [Int.neg_mul] at e; rw [Int.mul_comm]; omega
    exact ⟨_, _, fl_unique h (.inr ⟨by omega, by omega, by omega⟩), h, .inr ⟨by omega, by omega, by omega⟩⟩
theorem tdiv_half (a b : Int) (h1 : -9223372036854775808 ≤ a) (h2 : a ≤ 9223372036854775807) (h0 : b ≠ 0) (hr : a.tmod b ≠ 0) :
    -4611686018427387904 ≤ a.tdiv b ∧ a.tdiv b ≤ 4611686018427387904 := by
  have e := Int.natAbs_tdiv a b
  have hb : b ≠ 1 := by intro hb; subst hb; simp at hr
  have hb' : b ≠ -1 := by intro hb; subst hb; simp at hr
  have l2 : a.natAbs / b.natAbs ≤ a.natAbs / 2 := Nat.div_le_div_left (by omega) (by omega)
  have l3 : a.natAbs / 2 ≤ 4611686018427387904 := by omega
  have : (a.tdiv b).natAbs ≤ 4611686018427387904 := by rw [e]; exact Nat.le_trans l2 l3
  omega
/-- what is rounded to the nearest, by what is left above the quotient rounded down -/
theorem nr_eq {a b q r : Int} (hq : fl a b = q) (h : a = q * b + r) :
    nr a b = if iabs b < 2 * iabs r ∨ (iabs b = 2 * iabs r ∧ q % 2 ≠ 0) then q + 1 else q := by
  unfold nr; rw [hq]
  have : a - q * b = r := by omega
  rw [this]
theorem fl_none {a b : Int} (h : b = 0 ∨ (a = -9223372036854775808 ∧ b = -1)) : b = 0 ∨ (fl a b < -9223372036854775808 ∨ 9223372036854775807 < fl a b) := by
  rcases h with h | ⟨rfl, rfl⟩
  · exact .inl h
  · exact .inr (by decide)
theorem ce_none {a b : Int} (h : b = 0 ∨ (a = -9223372036854775808 ∧ b = -1)) : b = 0 ∨ (ce a b < -9223372036854775808 ∨ 9223372036854775807 < ce a b) := by
  rcases h with h | ⟨rfl, rfl⟩
  · exact .inl h
  · exact .inr (by decide)
theorem nr_none {a b : Int} (h : b = 0 ∨ (a = -9223372036854775808 ∧ b = -1)) : b = 0 ∨ (nr a b < -9223372036854775808 ∨ 9223372036854775807 < nr a b) := by
  rcases h with h | ⟨rfl, rfl⟩
  · exact .inl h
  · exact .inr (by decide)
/-- the quotient rounded down is an int, but for two cases -/
theorem fl_bd (a b : Int) (h1 : -9223372036854775808 ≤ a) (h2 : a ≤ 9223372036854775807) (h0 : b ≠ 0) (h : ¬ (a = -9223372036854775808 ∧ b = -1)) :
    -9223372036854775808 ≤ fl a b ∧ fl a b ≤ 9223372036854775807 := by
  obtain ⟨q, r, hq, hr, hqr, s1, s2, s3⟩ := tdiv_facts a b h0
  have bd := tdiv_bd a b h1 h2 h0 h
  have hh := tdiv_half a b h1 h2 h0
  rw [hq] at bd hh; rw [hr] at hh
  unfold iabs at s3
  by_cases hz : r = 0
  · rw [fl_unique (q := q) (r := r) hqr (by omega)]; exact bd
  · have hh := hh hz
    by_cases hs : r < 0 ↔ b < 0
    · rw [fl_unique (q := q) (r := r) hqr (by split at s3 <;> split at s3 <;> omega)]; exact bd
    · rw [fl_unique (q := q - 1) (r := r + b) (by rw [Int.sub_mul]; omega) (by split at s3 <;> split at s3 <;> omega)]; omega
theorem fl_small (a b : Int) (h1 : -9223372036854775808 ≤ a) (h2 : a ≤ 9223372036854775807) (h0 : b ≠ 0) (h : b ≠ 1) (h' : b ≠ -1) :
    -4611686018427387905 ≤ fl a b ∧ fl a b ≤ 4611686018427387904 := by
  obtain ⟨q, r, hq, hr, hqr, s1, s2, s3⟩ := tdiv_facts a b h0
  have bd : -4611686018427387904 ≤ q ∧ q ≤ 4611686018427387904 := by
    have e := Int.natAbs_tdiv a b
    have l2 : a.natAbs / b.natAbs ≤ a.natAbs / 2 := Nat.div_le_div_left (by omega) (by omega)
    have l3 : a.natAbs / 2 ≤ 4611686018427387904 := by omega
    have : q.natAbs ≤ 4611686018427387904 := by rw [← hq, e]; exact Nat.le_trans l2 l3
    omega
  unfold iabs at s3
  by_cases hz : r = 0
  · rw [fl_unique (q := q) (r := r) hqr (by omega)]; omega
  · by_cases hs : r < 0 ↔ b < 0
    · rw [fl_unique (q := q) (r := r) hqr (by split at s3 <;> split at s3 <;> omega)]; omega
    · rw [fl_unique (q := q - 1) (r := r + b) (by rw [Int.sub_mul]; omega) (by split at s3 <;> split at s3 <;> omega)]; omega
/-- what is rounded to the nearest is an int, but for two cases -/
theorem nr_up {a b q r : Int} (h1 : -9223372036854775808 ≤ a) (h2 : a ≤ 9223372036854775807) (h0 : b ≠ 0) (hq : fl a b = q) (hr : r ≠ 0) (hrb : iabs r < iabs b) : q + 1 ≤ 9223372036854775807 := by
  unfold iabs at hrb
  have := fl_small a b h1 h2 h0 (by split at hrb <;> split at hrb <;> omega) (by split at hrb <;> split at hrb <;> omega)
  omega
/-! a product divided and rounded down, by absolute values -/
theorem prod_sign (a b : Int) : a * b = if (decide (a < 0) == decide (b < 0)) = true then iabs a * iabs b else -(iabs a * iabs b) := by
  unfold iabs
  by_cases ha : a < 0 <;> by_cases hb : b < 0 <;> simp [ha, hb, Int.neg_mul, Int.mul_neg]
theorem muldiv_core (x P c q r : Int) (hc : c ≠ 0) (e : P = q * iabs c + r) (h0 : 0 ≤ r) (h1 : r < iabs c) :
    (x = P → (c < 0 → (r = 0 → fl x c = -q) ∧ (r ≠ 0 → fl x c = -(q + 1))) ∧ (¬ c < 0 → fl x c = q)) ∧
    (x = -P → (c < 0 → fl x c = q) ∧ (¬ c < 0 → (r = 0 → fl x c = -q) ∧ (r ≠ 0 → fl x c = -(q + 1)))) := by
  unfold iabs at e h1
  by_cases hn : c < 0
  · rw [if_pos hn] at e h1
    rw [Int.mul_neg] at e
    refine ⟨fun hx => ⟨fun _ => ⟨fun hr => ?_, fun hr => ?_⟩, fun h => absurd hn h⟩, fun hx => ⟨fun _ => ?_, fun h => absurd hn h⟩⟩
    · exact fl_unique (r := 0) (by rw [Int.neg_mul]; omega) (by omega)
    · exact fl_unique (r := r + c) (by rw [Int.neg_mul, Int.add_mul]; omega) (by omega)
    · exact fl_unique (r := -r) (by omega) (by omega)
  · rw [if_neg hn] at e h1
    refine ⟨fun hx => ⟨fun h => absurd h hn, fun _ => ?_⟩, fun hx => ⟨fun h => absurd h hn, fun _ => ⟨fun hr => ?_, fun hr => ?_⟩⟩⟩
    · exact fl_unique (r := r) (by omega) (by omega)
    · exact fl_unique (r := 0) (by rw [Int.neg_mul]; omega) (by omega)
    · exact fl_unique (r := c - r) (by rw [Int.neg_mul, Int.add_mul]; omega) (by omega)
theorem iabs_pos {c : Int} (hc : c ≠ 0) : 0 < iabs c := by unfold iabs; split <;> omega
theorem quot_sum (P C : Int) : P = P / C * C + P % C := by
  have := Int.emod_add_mul_ediv P C
  rw [Int.mul_comm]; omega
theorem muldiv_neg (a b c : Int) (hc : c ≠ 0) (hn : (decide (a < 0) == decide (b < 0)) = decide (c < 0)) :
    ((iabs a * iabs b) % iabs c = 0 → fl (a * b) c = -((iabs a * iabs b) / iabs c)) ∧ ((iabs a * iabs b) % iabs c ≠ 0 → fl (a * b) c = -((iabs a * iabs b) / iabs c + 1)) := by
  have C := muldiv_core (a * b) (iabs a * iabs b) c _ _ hc (quot_sum _ _) (Int.emod_nonneg _ (by have := iabs_pos hc; omega)) (Int.emod_lt_of_pos _ (iabs_pos hc))
  have S := prod_sign a b
  by_cases h : c < 0
  · rw [decide_eq_true h] at hn; rw [if_pos hn] at S; exact (C.1 S).1 h
  · rw [decide_eq_false h] at hn; rw [if_neg (by rw [hn]; decide)] at S; exact (C.2 S).2 h
theorem muldiv_pos (a b c : Int) (hc : c ≠ 0) (hn : ¬ (decide (a < 0) == decide (b < 0)) = decide (c < 0)) :
    fl (a * b) c = (iabs a * iabs b) / iabs c := by
  have C := muldiv_core (a * b) (iabs a * iabs b) c _ _ hc (quot_sum _ _) (Int.emod_nonneg _ (by have := iabs_pos hc; omega)) (Int.emod_lt_of_pos _ (iabs_pos hc))
  have S := prod_sign a b
  by_cases h : c < 0
  · rw [decide_eq_true h] at hn; rw [if_neg hn] at S; exact (C.2 S).1 h
  · rw [decide_eq_false h] at hn; rw [if_pos (by revert hn; cases (decide (a < 0) == decide (b < 0)) <;> simp)] at S; exact (C.1 S).2 h
/-- the quotient of a product that is no int by far -/
theorem muldiv_far (a b c : Int) (h : iabs c ≤ iabs a * iabs b / 18446744073709551616) : c = 0 ∨ (fl (a * b) c < -9223372036854775808 ∨ 9223372036854775807 < fl (a * b) c) := by
  by_cases hc : c = 0
  · exact .inl hc
  · have hp := iabs_pos hc
    have hq : 18446744073709551616 ≤ iabs a * iabs b / iabs c := by
      rw [Int.le_ediv_iff_mul_le hp]; omega
    by_cases hn : (decide (a < 0) == decide (b < 0)) = decide (c < 0)
    · have := muldiv_neg a b c hc hn
      by_cases hr : (iabs a * iabs b) % iabs c = 0
      · have := this.1 hr; omega
      · have := this.2 hr; omega
    · have := muldiv_pos a b c hc hn; omega
/-! scaling, roots -/
def tolOk (p : Int) : Bool := decide (-500000 ≤ p ∧ p ≤ 500000)
def scV (n p : Int) : Int := if tolOk p = true then qV 1000000000 (fl (n * (1000000000 + p)) 1000000000) else 0
def scOk (n p : Int) : Bool := tolOk p && qOk 1000000000 (fl (n * (1000000000 + p)) 1000000000)
def unV (n p : Int) : Int := if tolOk p = true then qV (1000000000 + p) (fl (n * 1000000000) (1000000000 + p)) else 0
def unOk (n p : Int) : Bool := tolOk p && qOk (1000000000 + p) (fl (n * 1000000000) (1000000000 + p))
theorem sc_no {n p : Int} (h : p < -500000 ∨ 500000 < p) : 0 = scV n p ∧ false = scOk n p := by
  have : tolOk p = false := decide_eq_false (by omega)
  unfold scV scOk; rw [this]; exact ⟨rfl, rfl⟩
theorem un_no {n p : Int} (h : p < -500000 ∨ 500000 < p) : 0 = unV n p ∧ false = unOk n p := by
  have : tolOk p = false := decide_eq_false (by omega)
  unfold unV unOk; rw [this]; exact ⟨rfl, rfl⟩
theorem sc_yes {n p : Int} (h : -500000 ≤ p) (h' : p ≤ 500000) : qV 1000000000 (fl (n * (1000000000 + p)) 1000000000) = scV n p ∧ qOk 1000000000 (fl (n * (1000000000 + p)) 1000000000) = scOk n p := by
  have : tolOk p = true := decide_eq_true ⟨h, h'⟩
  unfold scV scOk; rw [this]; exact ⟨rfl, rfl⟩
theorem un_yes {n p : Int} (h : -500000 ≤ p) (h' : p ≤ 500000) : qV (1000000000 + p) (fl (n * 1000000000) (1000000000 + p)) = unV n p ∧ qOk (1000000000 + p) (fl (n * 1000000000) (1000000000 + p)) = unOk n p := by
  have : tolOk p = true := decide_eq_true ⟨h, h'⟩
  unfold unV unOk; rw [this]; exact ⟨rfl, rfl⟩
def isqN : Nat → Nat
  | 0 => 0
  | n + 1 => if (isqN n + 1) * (isqN n + 1) ≤ n + 1 then isqN n + 1 else isqN n
theorem sq_succ (r : Nat) : (r + 1) * (r + 1) = r * r + r + r + 1 := by rw [Nat.add_mul, Nat.mul_add]; omega
theorem isqN_spec : ∀ n, isqN n * isqN n ≤ n ∧ n < (isqN n + 1) * (isqN n + 1)
  | 0 => by decide
  | n + 1 => by
    have ih := isqN_spec n
    unfold isqN
    have s := sq_succ (isqN n)
    have s2 := sq_succ (isqN n + 1)
    split <;> omega
theorem isqN_unique {n r : Nat} (h1 : r * r ≤ n) (h2 : n < (r + 1) * (r + 1)) : isqN n = r := by
  have h := isqN_spec n
  have a : isqN n < r + 1 := by
    apply Nat.lt_of_not_le; intro l
    have := Nat.mul_le_mul l l; omega
  have b : r < isqN n + 1 := by
    apply Nat.lt_of_not_le; intro l
    have := Nat.mul_le_mul l l; omega
  omega
/-- the square root of n, rounded down -/
def isq (n : Int) : Int := (isqN n.toNat : Int)
theorem isq_nonneg (n : Int) : 0 ≤ isq n := by unfold isq; omega
theorem isq_spec {n : Int} (h : 0 ≤ n) : isq n * isq n ≤ n ∧ n < (isq n + 1) * (isq n + 1) := by
  obtain ⟨m, rfl⟩ := Int.eq_ofNat_of_zero_le h
  have := isqN_spec m
  unfold isq
  rw [Int.toNat_natCast]
  constructor
  · have := this.1; exact_mod_cast this
  · have := this.2; exact_mod_cast this
theorem isq_unique {n r : Int} (h0 : 0 ≤ r) (h1 : r * r ≤ n) (h2 : n < (r + 1) * (r + 1)) : isq n = r := by
  obtain ⟨k, rfl⟩ := Int.eq_ofNat_of_zero_le h0
  obtain ⟨m, rfl⟩ := Int.eq_ofNat_of_zero_le (Int.le_trans (Int.mul_nonneg h0 h0) h1)
  unfold isq
  rw [Int.toNat_natCast, isqN_unique (by exact_mod_cast h1) (by exact_mod_cast h2)]
theorem isq_le {n r : Int} (hr : 0 ≤ r) (hn : 0 ≤ n) (h : n < (r + 1) * (r + 1)) : isq n ≤ r := by
  have a := (isq_spec hn).1
  have b := isq_nonneg n
  apply Int.not_lt.1; intro l
  have := Int.mul_le_mul (show r + 1 ≤ isq n by omega) (show r + 1 ≤ isq n by omega) (by omega) b
  omega
/-- the bits of the root above place k -/
structure RootAt (n root k : Nat) : Prop where
  low : root * root ≤ n
  high : n < (root + 2 ^ k) * (root + 2 ^ k)
  div : root % 2 ^ k = 0
  lt : root + 2 ^ k ≤ 4294967296
theorem root_start {n : Nat} (h : n < 18446744073709551616) : RootAt n 0 32 := ⟨Nat.zero_le _, h, rfl, Nat.le_refl _⟩
theorem root_step {n root k : Nat} (H : RootAt n root (k + 1)) :
    root ||| 2 ^ k = root + 2 ^ k ∧ root + 2 ^ k < 4294967296 ∧ (root + 2 ^ k) * (root + 2 ^ k) < 18446744073709551616 ∧
    ((root + 2 ^ k) * (root + 2 ^ k) ≤ n → RootAt n (root + 2 ^ k) k) ∧ (¬ (root + 2 ^ k) * (root + 2 ^ k) ≤ n → RootAt n root k) := by
  have hp := Nat.two_pow_pos k
  have e2 : 2 ^ (k + 1) = 2 ^ k + 2 ^ k := by rw [Nat.pow_succ]; omega
  have hl := H.lt
  have hd := H.div
  have hk : root % 2 ^ k = 0 := by
    have : root % 2 ^ (k + 1) % 2 ^ k = root % 2 ^ k := Nat.mod_mod_of_dvd _ ⟨2, by rw [Nat.pow_succ]⟩
    rw [hd] at this; simpa using this.symm
  have hlt : root + 2 ^ k < 4294967296 := by omega
  have hb : (root + 2 ^ k) * (root + 2 ^ k) ≤ 4294967295 * 4294967295 := Nat.mul_le_mul (by omega) (by omega)
  refine ⟨?_, hlt, by omega, fun h => ⟨h, ?_, by rw [Nat.add_mod_right]; exact hk, by omega⟩, fun h => ⟨H.low, by omega, hk, by omega⟩⟩
  · obtain ⟨m, hm⟩ : ∃ m, root = 2 ^ (k + 1) * m := ⟨root / 2 ^ (k + 1), by have := Nat.div_add_mod root (2 ^ (k + 1)); omega⟩
    rw [hm]; exact (Nat.two_pow_add_eq_or_of_lt (by omega) m).symm
  · have := H.high
    rw [e2] at this
    rw [Nat.add_assoc]; exact this
theorem root_end {n root : Nat} (H : RootAt n root 0) : isq (n : Int) = (root : Int) := by
  have a := H.low
  have b := H.high
  unfold isq
  rw [Int.toNat_natCast, isqN_unique a (by simpa using b)]
/-! the reference's ways to round -/
theorem ce_of_fl {a b q r : Int} (h : a = q * b + r) (hr : (0 < b ∧ 0 ≤ r ∧ r < b) ∨ (b < 0 ∧ b < r ∧ r ≤ 0)) : (r = 0 → ce a b = q) ∧ (r ≠ 0 → ce a b = q + 1) := by
  refine ⟨fun h0 => ce_unique (r := r) h (by omega), fun h0 => ce_unique (r := r - b) (by rw [Int.add_mul]; omega) (by omega)⟩
theorem emod_abs (a b : Int) (hb : b ≠ 0) : ∃ k, iabs a = k * iabs b + iabs a % iabs b ∧ 0 ≤ iabs a % iabs b ∧ iabs a % iabs b < iabs b :=
  ⟨_, quot_sum _ _, Int.emod_nonneg _ (by have := iabs_pos hb; omega), Int.emod_lt_of_pos _ (iabs_pos hb)⟩
/-- the distance from the quotient rounded down, by absolute values -/
theorem near_rem {a b q r : Int} (hb : b ≠ 0) (h : a = q * b + r) (hr : (0 < b ∧ 0 ≤ r ∧ r < b) ∨ (b < 0 ∧ b < r ∧ r ≤ 0)) :
    ((decide (a < 0) == decide (b < 0)) = true → iabs a % iabs b = iabs r) ∧
    (iabs a % iabs b = 0 → iabs r = 0) ∧
    ((decide (a < 0) == decide (b < 0)) = false → 0 < iabs a % iabs b → iabs b - iabs a % iabs b = iabs r) := by
  have key (m : Int) (x : Int) (h1 : iabs a = m * iabs b + x) (h2 : 0 ≤ x) (h3 : x < iabs b) : iabs a % iabs b = x := by
    rw [h1, Int.add_comm, Int.add_mul_emod_self_right]; exact Int.emod_eq_of_lt h2 h3
  rcases hr with ⟨b0, r0, r1⟩ | ⟨b0, r1, r0⟩
  · have eb : iabs b = b := by unfold iabs; rw [if_neg (by omega)]
    have er : iabs r = r := by unfold iabs; rw [if_neg (by omega)]
    rw [eb] at key ⊢; rw [er]
    by_cases ha : a < 0
    · have ea : iabs a = -a := by unfold iabs; rw [if_pos ha]
      have hd : (decide (a < 0) == decide (b < 0)) = false := by simp [ha]; omega
      by_cases hz : r = 0
      · have := key (-q) 0 (by rw [ea, Int.neg_mul]; omega) (by omega) (by omega)
        rw [this]; exact ⟨fun _ => by omega, fun _ => hz, fun _ h => by omega⟩
      · have := key (-q - 1) (b - r) (by rw [ea, Int.sub_mul, Int.neg_mul]; omega) (by omega) (by omega)
        rw [this, hd]; exact ⟨fun h => by simp at h, fun h => by omega, fun _ _ => by omega⟩
    · have ea : iabs a = a := by unfold iabs; rw [if_neg ha]
      have hd : (decide (a < 0) == decide (b < 0)) = true := by simp [ha]; omega
      have := key q r (by rw [ea]; omega) r0 r1
      rw [this, hd]; exact ⟨fun _ => rfl, fun h => h, fun h => by simp at h⟩
  · have eb : iabs b = -b := by unfold iabs; rw [if_pos b0]
    have er : iabs r = -r := by unfold iabs; split <;> omega
    rw [eb] at key ⊢; rw [er]
    by_cases ha : a < 0
    · have ea : iabs a = -a := by unfold iabs; rw [if_pos ha]
      have hd : (decide (a < 0) == decide (b < 0)) = true := by simp [ha, b0]
      have := key q (-r) (by rw [ea, Int.mul_neg]; omega) (by omega) (by omega)
      rw [this, hd]; exact ⟨fun _ => rfl, fun h => h, fun h => by simp at h⟩
    · have ea : iabs a = a := by unfold iabs; rw [if_neg ha]
      have hd : (decide (a < 0) == decide (b < 0)) = false := by simp [ha, b0]
      by_cases hz : r = 0
      · have := key (-q) 0 (by rw [ea, Int.neg_mul, Int.mul_neg]; omega) (by omega) (by omega)
        rw [this]; exact ⟨fun _ => by omega, fun _ => by omega, fun _ h => by omega⟩
      · have := key (-q - 1) (-b + r) (by rw [ea, Int.sub_mul, Int.neg_mul, Int.mul_neg]; omega) (by omega) (by omega)
        rw [this, hd]; exact ⟨fun h => by simp at h, fun h => by omega, fun _ _ => by omega⟩
/-! for the laws of layer 1 -/
theorem mul_box {n p N P : Int} (h1 : -N ≤ n) (h2 : n ≤ N) (h3 : -P ≤ p) (h4 : p ≤ P) : -(N * P) ≤ n * p ∧ n * p ≤ N * P := by
  have e (x : Int) : iabs x = (x.natAbs : Int) := by unfold iabs; split <;> omega
  have a : iabs n ≤ N := by unfold iabs; split <;> omega
  have b : iabs p ≤ P := by unfold iabs; split <;> omega
  have c : iabs n * iabs p ≤ N * P := Int.mul_le_mul a b (iabs_nonneg p) (by have := iabs_nonneg n; omega)
  rw [iabs_mul] at c
  unfold iabs at c; split at c <;> omega
/-- scaled and scaled back -/
theorem returns (n p : Int) (n1 : -1152921504606846976 ≤ n) (n2 : n ≤ 1152921504606846976) (p1 : -500000 ≤ p) (p2 : p ≤ 500000) :
    scOk n p = true ∧ unOk (scV n p) p = true ∧ unV (scV n p) p ≤ n ∧ n - 2 ≤ unV (scV n p) p ∧ (0 ≤ n → 0 ≤ p → n ≤ scV n p) ∧ (0 ≤ n → p ≤ 0 → scV n p ≤ n) ∧
      -9223372036854775808 ≤ scV n p ∧ scV n p ≤ 9223372036854775807 := by
  obtain ⟨s, r, hs, hr, hrb⟩ := fl_facts (n * (1000000000 + p)) 1000000000 (by omega)
  obtain ⟨u, t, hu, ht, htb⟩ := fl_facts (s * 1000000000) (1000000000 + p) (by omega)
  have bx := mul_box n1 n2 p1 p2
  have e1 : n * (1000000000 + p) = n * 1000000000 + n * p := Int.mul_add _ _ _
  have sb : -9223372036854775808 ≤ s ∧ s ≤ 9223372036854775807 := by omega
  obtain ⟨v, o⟩ := q_in (b := 1000000000) (v := s) (by omega) sb.1 sb.2
  obtain ⟨y1, y2⟩ := sc_yes (n := n) p1 p2
  obtain ⟨z1, z2⟩ := un_yes (n := s) p1 p2
  rw [hs] at y1 y2
  rw [hu] at z1 z2
  have hsv : scV n p = s := by rw [← y1, ← v]
  have d : (n - u) * (1000000000 + p) = t + r := by rw [Int.sub_mul]; omega
  have u1 : u ≤ n := by
    apply Int.not_lt.1; intro l
    have : (1 : Int) * (1000000000 + p) ≤ (u - n) * (1000000000 + p) := Int.mul_le_mul_of_nonneg_right (by omega) (by omega)
    have e : (u - n) * (1000000000 + p) = -((n - u) * (1000000000 + p)) := by rw [← Int.neg_mul]; congr 1; omega
    omega
  have u2 : n - 2 ≤ u := by
    apply Int.not_lt.1; intro l
    have : (3 : Int) * (1000000000 + p) ≤ (n - u) * (1000000000 + p) := Int.mul_le_mul_of_nonneg_right (by omega) (by omega)
    omega
  obtain ⟨v2, o2⟩ := q_in (b := 1000000000 + p) (v := u) (by omega) (by omega) (by omega)
  have huv : unV s p = u := by rw [← z1, ← v2]
  rw [hsv, huv]
  refine ⟨by rw [← y2, ← o], by rw [← z2, ← o2], u1, u2, fun h1 h2 => ?_, fun h1 h2 => ?_, sb.1, sb.2⟩
  · have : 0 ≤ n * p := Int.mul_nonneg h1 h2
    omega
  · have : n * p ≤ 0 := Int.mul_nonpos_of_nonneg_of_nonpos h1 h2
    omega
theorem fl_mul (a b : Int) (h : b ≠ 0) : fl (a * b) b = a := fl_unique (r := 0) (by omega) (by omega)
/-- the neighbours -/
theorem neighbours (a b : Int) (a1 : -9223372036854775808 ≤ a) (a2 : a ≤ 9223372036854775807) (h0 : b ≠ 0) (h1 : ¬ (a = -9223372036854775808 ∧ b = -1)) :
    ∃ f c n, qV b (fl a b) = f ∧ qOk b (fl a b) = true ∧ qV b (ce a b) = c ∧ qOk b (ce a b) = true ∧ qV b (nr a b) = n ∧ qOk b (nr a b) = true ∧
      f ≤ c ∧ c - f ≤ 1 ∧ (n = f ∨ n = c) ∧ -9223372036854775808 ≤ f ∧ c ≤ 9223372036854775807 := by
  have fb := fl_bd a b a1 a2 h0 h1
  obtain ⟨q, r, hq, hqr, hr⟩ := fl_facts a b h0
  rw [hq] at fb
  have hn := nr_eq hq hqr
  have hc := ce_of_fl hqr hr
  obtain ⟨v, o⟩ := q_in h0 fb.1 fb.2
  have ir : 0 ≤ iabs r ∧ iabs r < iabs b := by unfold iabs; split <;> split <;> omega
  by_cases hz : r = 0
  · have c1 := hc.1 hz
    have hp := iabs_pos h0
    have e0 : iabs r = 0 := by rw [hz]; rfl
    have n1 : nr a b = q := by rw [hn, if_neg (by omega)]
    rw [hq, c1, n1]
    exact ⟨q, q, q, v.symm, o.symm, v.symm, o.symm, v.symm, o.symm, by omega, by omega, .inl rfl, fb.1, fb.2⟩
  · have up := nr_up a1 a2 h0 hq hz ir.2
    have c1 := hc.2 hz
    obtain ⟨v2, o2⟩ := q_in (b := b) (v := q + 1) h0 (by omega) up
    rw [hq, c1, hn]
    split
    · exact ⟨q, q + 1, q + 1, v.symm, o.symm, v2.symm, o2.symm, v2.symm, o2.symm, by omega, by omega, .inr rfl, fb.1, by omega⟩
    · exact ⟨q, q + 1, q, v.symm, o.symm, v2.symm, o2.symm, v.symm, o.symm, by omega, by omega, .inl rfl, fb.1, by omega⟩
end Go.Proofs.Ytdaedhgbkamjpaa.Fx
