/- Plain laws of layer 48: all elements multiplied by k. -/
import Derived.Test.YtbidogefodfakaaYg
set_option linter.unusedVariables false
set_option linter.unusedSimpArgs false
namespace Go.Proofs.Ytbidogefodfakaa.Yx
def mul (x : Nat → Int) (k : Int) (i : Nat) : Int := x i * k
theorem mul_abs {a B k : Int} (a1 : -B ≤ a) (a2 : a ≤ B) (k1 : -128 ≤ k) (k2 : k ≤ 128) (hB : 0 ≤ B) : -(B * 128) ≤ a * k ∧ a * k ≤ B * 128 := by
  rcases Int.le_total 0 k with h | h
  · have p1 := Int.mul_le_mul_of_nonneg_right a2 h
    have p2 := Int.mul_le_mul_of_nonneg_right a1 h
    have p3 := Int.mul_le_mul_of_nonneg_left k2 hB
    rw [Int.neg_mul] at p2
    omega
  · have p1 := Int.mul_le_mul_of_nonpos_right a2 h
    have p2 := Int.mul_le_mul_of_nonpos_right a1 h
    have p3 := Int.mul_le_mul_of_nonneg_left k1 hB
    rw [Int.neg_mul] at p2
    rw [show B * -128 = -(B * 128) by omega] at p3
    omega
theorem hi_mul {x : Nat → Int} {k : Int} (h : 0 ≤ k) (i : Nat) : ∀ m, hiW (mul x k) i m = hiW x i m * k ∧ loW (mul x k) i m = loW x i m * k
  | 0 => ⟨rfl, rfl⟩
  | m + 1 => by
    obtain ⟨e1, e2⟩ := hi_mul (x := x) h i m
    show max (hiW (mul x k) i m) (x (i + m) * k) = max (hiW x i m) (x (i + m)) * k ∧ min (loW (mul x k) i m) (x (i + m) * k) = min (loW x i m) (x (i + m)) * k
    rw [e1, e2]
    have p := fun a b : Int => fun (g : a ≤ b) => Int.mul_le_mul_of_nonneg_right g h
    constructor
    · rcases Int.le_total (hiW x i m) (x (i + m)) with g | g
      · have := p _ _ g; rw [show max (hiW x i m) (x (i + m)) = x (i + m) by omega]; omega
      · have := p _ _ g; rw [show max (hiW x i m) (x (i + m)) = hiW x i m by omega]; omega
    · rcases Int.le_total (loW x i m) (x (i + m)) with g | g
      · have := p _ _ g; rw [show min (loW x i m) (x (i + m)) = loW x i m by omega]; omega
      · have := p _ _ g; rw [show min (loW x i m) (x (i + m)) = x (i + m) by omega]; omega
theorem lo_mul {x : Nat → Int} {k : Int} (h : k ≤ 0) (i : Nat) : ∀ m, hiW (mul x k) i m = loW x i m * k ∧ loW (mul x k) i m = hiW x i m * k
  | 0 => ⟨rfl, rfl⟩
  | m + 1 => by
    obtain ⟨e1, e2⟩ := lo_mul (x := x) h i m
    show max (hiW (mul x k) i m) (x (i + m) * k) = min (loW x i m) (x (i + m)) * k ∧ min (loW (mul x k) i m) (x (i + m) * k) = max (hiW x i m) (x (i + m)) * k
    rw [e1, e2]
    have p := fun a b : Int => fun (g : a ≤ b) => Int.mul_le_mul_of_nonpos_right g h
    constructor
    · rcases Int.le_total (loW x i m) (x (i + m)) with g | g
      · have := p _ _ g; rw [show min (loW x i m) (x (i + m)) = loW x i m by omega]; omega
      · have := p _ _ g; rw [show min (loW x i m) (x (i + m)) = x (i + m) by omega]; omega
    · rcases Int.le_total (hiW x i m) (x (i + m)) with g | g
      · have := p _ _ g; rw [show max (hiW x i m) (x (i + m)) = x (i + m) by omega]; omega
      · have := p _ _ g; rw [show max (hiW x i m) (x (i + m)) = hiW x i m by omega]; omega
theorem win_mul (x : Nat → Int) (k : Int) (i m : Nat) : hiW (mul x k) i m - loW (mul x k) i m = (hiW x i m - loW x i m) * max k (-k) := by
  rcases Int.le_total 0 k with h | h
  · obtain ⟨e1, e2⟩ := hi_mul (x := x) h i m
    rw [e1, e2, show max k (-k) = k by omega, Int.sub_mul]
  · obtain ⟨e1, e2⟩ := lo_mul (x := x) h i m
    rw [e1, e2, show max k (-k) = -k by omega, Int.sub_mul, Int.mul_neg, Int.mul_neg]; omega
theorem gr_mul (x : Nat → Int) (k : Int) (n : Nat) : ∀ m, gr (mul x k) n m = gr x n m * max k (-k)
  | 0 => by simp [gr]
  | m + 1 => by
    have hk : 0 ≤ max k (-k) := by omega
    simp only [gr]
    rw [gr_mul x k n m, win_mul]
    generalize max k (-k) = q at *
    generalize hiW x m (n + 1) - loW x m (n + 1) = b
    generalize gr x n m = a
    rcases Int.le_total a b with g | g
    · have := Int.mul_le_mul_of_nonneg_right g hk; rw [show max a b = b by omega]; omega
    · have := Int.mul_le_mul_of_nonneg_right g hk; rw [show max a b = a by omega]; omega
theorem sd_mul (x : Nat → Int) (k : Int) (n i : Nat) : sd (mul x k) n i = sd x n i * k := by
  unfold sd mul
  rw [Int.add_mul, Int.sub_mul, Int.mul_assoc]
theorem sum_mul (f : Nat → Int) (k : Int) : ∀ m, sum (fun i => f i * k) m = sum f m * k
  | 0 => by simp [sum]
  | m + 1 => by simp only [sum]; rw [sum_mul f k m, Int.add_mul]
theorem ms_mul (x : Nat → Int) (k : Int) (n j : Nat) : ms (mul x k) n j = ms x n j * k := by
  unfold ms
  rw [← sum_mul]
  exact sum_congr fun i _ => sd_mul x k n (j + i)
theorem sqs_mul {f g : Nat → Int} {k : Int} (h : ∀ i, g i = f i * k) (m : Nat) : sqs g m = sqs f m * (k * k) := by
  unfold sqs
  rw [← sum_mul]
  refine sum_congr fun i _ => ?_
  rw [h i, Int.mul_assoc, Int.mul_assoc, Int.mul_left_comm k (f i) k]
theorem sqs_bd {f : Nat → Int} {B : Int} : ∀ {m : Nat}, (∀ i, i < m → -B ≤ f i ∧ f i ≤ B) → sqs f m ≤ m * (B * B)
  | 0, _ => by simp [sqs, sum]
  | m + 1, h => by
    have a := sqs_bd (f := f) (B := B) (m := m) fun i hi => h i (by omega)
    obtain ⟨b1, b2⟩ := h m (by omega)
    have c : f m * f m ≤ B * B := by
      rcases Int.le_total 0 (f m) with g | g
      · exact Int.mul_le_mul b2 b2 g (by omega)
      · have := Int.mul_le_mul (show -f m ≤ B by omega) (show -f m ≤ B by omega) (by omega) (by omega)
        rw [Int.neg_mul_neg] at this; exact this
    rw [sqs_succ]
    have e : ((m + 1 : Nat) : Int) * (B * B) = m * (B * B) + B * B := by rw [show ((m + 1 : Nat) : Int) = (m : Int) + 1 by omega, Int.add_mul, Int.one_mul]
    omega
theorem sum_bd {f : Nat → Int} {B : Int} : ∀ {m : Nat}, (∀ i, i < m → -B ≤ f i ∧ f i ≤ B) → -(m * B) ≤ sum f m ∧ sum f m ≤ m * B
  | 0, _ => by simp [sum]
  | m + 1, h => by
    have a := sum_bd (f := f) (B := B) (m := m) fun i hi => h i (by omega)
    have b := h m (by omega)
    have e : ((m + 1 : Nat) : Int) * B = m * B + B := by rw [show ((m + 1 : Nat) : Int) = (m : Int) + 1 by omega, Int.add_mul, Int.one_mul]
    simp only [sum]; omega
theorem mul_bd {x : Nat → Int} {k : Int} {len : Nat} (hx : ∀ i, i < len → -32768 ≤ x i ∧ x i ≤ 32767) (k1 : -128 ≤ k) (k2 : k ≤ 128) : ∀ i, i < len → -4194304 ≤ mul x k i ∧ mul x k i ≤ 4194304 := fun i hi => by
  have h := hx i hi
  have := mul_abs (a := x i) (B := 32768) (k := k) (by omega) (by omega) k1 k2 (by omega)
  unfold mul; omega
/-- lists of at most 60 elements of at most 2^22: every sum of squares is an int -/
theorem sd_small {x : Nat → Int} {len : Nat} (hx : ∀ i, i < len → -4194304 ≤ x i ∧ x i ≤ 4194304) {n i : Nat} (hi : i + 2 * n < len) : -16777216 ≤ sd x n i ∧ sd x n i ≤ 16777216 := by
  have := hx (i + 2 * n) hi; have := hx (i + n) (by omega); have := hx i (by omega)
  unfold sd; omega
theorem al_fits {x : Nat → Int} {len : Nat} (hx : ∀ i, i < len → -4194304 ≤ x i ∧ x i ≤ 4194304) (hl : len ≤ 60) (n : Nat) (hn : 2 * n < len) : sqs (sd x n) (len - 2 * n) ≤ 9223372036854775807 := by
  have := sqs_bd (f := sd x n) (B := 16777216) (m := len - 2 * n) fun i hi => sd_small hx (by omega)
  omega
theorem mo_fits {x : Nat → Int} {len : Nat} (hx : ∀ i, i < len → -4194304 ≤ x i ∧ x i ≤ 4194304) (hl : len ≤ 60) (n : Nat) (h1 : 1 ≤ n) (hn : 3 * n ≤ len) : sqs (ms x n) (len - 3 * n + 1) ≤ 9223372036854775807 := by
  have := sqs_bd (f := ms x n) (B := 335544320) (m := len - 3 * n + 1) fun j hj => by
    have := sum_bd (f := fun i => sd x n (j + i)) (B := 16777216) (m := n) fun i hi => sd_small hx (by omega)
    unfold ms; omega
  omega
/-- lowest terms of a fraction times q -/
theorem rN_mul {s c q : Int} (hs : 0 ≤ s) (hc : 1 ≤ c) (hq : 0 ≤ q) :
    rN (s * q) c = rN s c * (q / (Int.gcd q (rD s c) : Int)) ∧ rD (s * q) c = rD s c / (Int.gcd q (rD s c) : Int) := by
  obtain ⟨a, rfl⟩ := Int.eq_ofNat_of_zero_le hs
  obtain ⟨b, rfl⟩ := Int.eq_ofNat_of_zero_le (show 0 ≤ c by omega)
  obtain ⟨r, rfl⟩ := Int.eq_ofNat_of_zero_le hq
  have hb : 0 < b := by omega
  unfold rN rD
  have g1 : Int.gcd (a : Int) (b : Int) = Nat.gcd a b := rfl
  have g2 : Int.gcd ((a : Int) * (r : Int)) (b : Int) = Nat.gcd (a * r) b := rfl
  have gp : 0 < Nat.gcd a b := Nat.gcd_pos_of_pos_right _ hb
  rw [g1, g2]
  have e0 : (b : Int) / (Nat.gcd a b : Int) = ((b / Nat.gcd a b : Nat) : Int) := by simp
  have e1 : (a : Int) / (Nat.gcd a b : Int) = ((a / Nat.gcd a b : Nat) : Int) := by simp
  rw [e0, e1]
  have g3 : Int.gcd (r : Int) ((b / Nat.gcd a b : Nat) : Int) = Nat.gcd r (b / Nat.gcd a b) := rfl
  rw [g3]
  obtain ⟨u, hu⟩ := Nat.gcd_dvd_left a b
  obtain ⟨v, hv⟩ := Nat.gcd_dvd_right a b
  generalize hg : Nat.gcd a b = g at *
  subst hu
  subst hv
  have co : Nat.gcd u v = 1 := by
    have := Nat.gcd_mul_left g u v
    rw [hg] at this
    exact Nat.eq_of_mul_eq_mul_left gp (by omega)
  have vp : 0 < v := Nat.pos_of_mul_pos_left hb |> fun _ => by
    rcases Nat.eq_zero_or_pos v with h | h
    · subst h; simp at hb
    · exact h
  rw [Nat.mul_div_cancel_left _ gp, Nat.mul_div_cancel_left _ gp]
  have key : Nat.gcd (g * u * r) (g * v) = g * Nat.gcd r v := by
    rw [Nat.mul_assoc, Nat.gcd_mul_left]
    congr 1
    exact Nat.Coprime.gcd_mul_left_cancel r (show Nat.Coprime u v from co)
  rw [key]
  have xp : 0 < Nat.gcd r v := Nat.gcd_pos_of_pos_right _ vp
  obtain ⟨r', hr'⟩ := Nat.gcd_dvd_left r v
  obtain ⟨v', hv'⟩ := Nat.gcd_dvd_right r v
  generalize Nat.gcd r v = d at *
  have e3 : ((g * u : Nat) : Int) * (r : Int) / ((g * d : Nat) : Int) = ((g * u * r / (g * d) : Nat) : Int) := by simp
  have e4 : ((g * v : Nat) : Int) / ((g * d : Nat) : Int) = ((g * v / (g * d) : Nat) : Int) := by simp
  have e5 : (r : Int) / (d : Int) = ((r / d : Nat) : Int) := by simp
  have e6 : (v : Int) / (d : Int) = ((v / d : Nat) : Int) := by simp
  rw [e3, e4, e5, e6]
  subst hr'
  subst hv'
  constructor
  · have : g * u * (d * r') / (g * d) = u * (d * r' / d) := by
      rw [Nat.mul_div_cancel_left _ xp, show g * u * (d * r') = g * d * (u * r') by ac_rfl, Nat.mul_div_cancel_left _ (Nat.mul_pos gp xp)]
    rw [this]; simp
  · have : g * (d * v') / (g * d) = d * v' / d := by
      rw [Nat.mul_div_cancel_left _ xp, show g * (d * v') = g * d * v' by ac_rfl, Nat.mul_div_cancel_left _ (Nat.mul_pos gp xp)]
    rw [this]
/-- what 'equal' asks -/
def eqK (a1 a2 b1 b2 k : Int) : Bool := if b2 < 1 then decide (a1 = b1 ∧ a2 = b2) else decide (a1 = b1 * (k / (Int.gcd k b2 : Int)) ∧ a2 = b2 / (Int.gcd k b2 : Int))
theorem abs_sq (k : Int) : max k (-k) * max k (-k) = k * k := by
  rcases Int.le_total 0 k with h | h
  · rw [show max k (-k) = k by omega]
  · rw [show max k (-k) = -k by omega, Int.neg_mul_neg]
theorem al_scale {x : Nat → Int} {k : Int} {len : Nat} (hx : ∀ i, i < len → -4194304 ≤ x i ∧ x i ≤ 4194304) (hy : ∀ i, i < len → -4194304 ≤ mul x k i ∧ mul x k i ≤ 4194304) (hl : len ≤ 60) (n : Int) :
    alE len (mul x k) n = alE len x n ∧ eqK (alN len (mul x k) n) (alD len (mul x k) n) (alN len x n) (alD len x n) (max k (-k) * max k (-k)) = true := by
  have c1 := chk_of (n := len) (x := x) (by omega) fun i hi => by have := hx i hi; omega
  have c2 := chk_of (n := len) (x := mul x k) (by omega) fun i hi => by have := hy i hi; omega
  have ms := sqs_mul (f := sd x n.toNat) (g := sd (mul x k) n.toNat) (k := k) (fun i => sd_mul x k _ i) (len - 2 * n.toNat)
  by_cases g : 1 ≤ n ∧ 2 * n < len
  · have f1 := al_fits hx hl n.toNat (by omega)
    have f2 := al_fits hy hl n.toNat (by omega)
    have o1 : alOk len x n := ⟨c1, g.1, g.2, f1⟩
    have o2 : alOk len (mul x k) n := ⟨c2, g.1, g.2, f2⟩
    have hs := sqs_nonneg (sd x n.toNat) (len - 2 * n.toNat)
    have lt := low_terms (s := sqs (sd x n.toNat) (len - 2 * n.toNat)) (c := 2 * (len - 2 * n)) hs (by omega)
    have hm := rN_mul (s := sqs (sd x n.toNat) (len - 2 * n.toNat)) (c := 2 * (len - 2 * n)) (q := k * k) hs (by omega) (sq_nonneg k)
    refine ⟨?_, ?_⟩
    · unfold alE sqE; rw [if_pos c1, if_pos c2, if_pos g, if_pos f1, if_pos g, if_pos f2]
    · unfold alN alD; rw [if_pos o1, if_pos o2, if_pos o1, if_pos o2, ms, abs_sq]
      unfold eqK; rw [if_neg (by omega)]
      exact decide_eq_true hm
  · have o1 : ¬ alOk len x n := fun h => g ⟨h.2.1, h.2.2.1⟩
    have o2 : ¬ alOk len (mul x k) n := fun h => g ⟨h.2.1, h.2.2.1⟩
    refine ⟨?_, ?_⟩
    · unfold alE; rw [if_pos c1, if_pos c2, if_neg g, if_neg g]
    · unfold alN alD; rw [if_neg o1, if_neg o2, if_neg o1, if_neg o2]; rfl
theorem mo_scale {x : Nat → Int} {k : Int} {len : Nat} (hx : ∀ i, i < len → -4194304 ≤ x i ∧ x i ≤ 4194304) (hy : ∀ i, i < len → -4194304 ≤ mul x k i ∧ mul x k i ≤ 4194304) (hl : len ≤ 60) (n : Int) :
    moE len (mul x k) n = moE len x n ∧ eqK (moN len (mul x k) n) (moD len (mul x k) n) (moN len x n) (moD len x n) (max k (-k) * max k (-k)) = true := by
  have c1 := chk_of (n := len) (x := x) (by omega) fun i hi => by have := hx i hi; omega
  have c2 := chk_of (n := len) (x := mul x k) (by omega) fun i hi => by have := hy i hi; omega
  have mq := sqs_mul (f := ms x n.toNat) (g := ms (mul x k) n.toNat) (k := k) (fun i => ms_mul x k _ i) (len - 3 * n.toNat + 1)
  by_cases g : 1 ≤ n ∧ 3 * n ≤ len
  · have f1 := mo_fits hx hl n.toNat (by omega) (by omega)
    have f2 := mo_fits hy hl n.toNat (by omega) (by omega)
    have o1 : moOk len x n := ⟨c1, g.1, g.2, f1⟩
    have o2 : moOk len (mul x k) n := ⟨c2, g.1, g.2, f2⟩
    have hs := sqs_nonneg (ms x n.toNat) (len - 3 * n.toNat + 1)
    have p1 : 1 ≤ 2 * n * n := by
      have := Int.mul_le_mul (show (2 : Int) ≤ 2 * n by omega) g.1 (by omega) (by omega); omega
    have p2 : 1 ≤ 2 * n * n * (len - 3 * n + 1) := by
      have := Int.mul_le_mul p1 (show (1 : Int) ≤ len - 3 * n + 1 by omega) (by omega) (by omega); omega
    have lt := low_terms (s := sqs (ms x n.toNat) (len - 3 * n.toNat + 1)) (c := 2 * n * n * (len - 3 * n + 1)) hs p2
    have hm := rN_mul (s := sqs (ms x n.toNat) (len - 3 * n.toNat + 1)) (c := 2 * n * n * (len - 3 * n + 1)) (q := k * k) hs p2 (sq_nonneg k)
    refine ⟨?_, ?_⟩
    · unfold moE sqE; rw [if_pos c1, if_pos c2, if_pos g, if_pos f1, if_pos g, if_pos f2]
    · unfold moN moD; rw [if_pos o1, if_pos o2, if_pos o1, if_pos o2, mq, abs_sq]
      unfold eqK; rw [if_neg (by omega)]
      exact decide_eq_true hm
  · have o1 : ¬ moOk len x n := fun h => g ⟨h.2.1, h.2.2.1⟩
    have o2 : ¬ moOk len (mul x k) n := fun h => g ⟨h.2.1, h.2.2.1⟩
    refine ⟨?_, ?_⟩
    · unfold moE; rw [if_pos c1, if_pos c2, if_neg g, if_neg g]
    · unfold moN moD; rw [if_neg o1, if_neg o2, if_neg o1, if_neg o2]; rfl
theorem rng_scale {x : Nat → Int} {k : Int} {len : Nat} (hx : ∀ i, i < len → -4194304 ≤ x i ∧ x i ≤ 4194304) (hy : ∀ i, i < len → -4194304 ≤ mul x k i ∧ mul x k i ≤ 4194304) (hl : len ≤ 60) (n : Int) :
    rngE len (mul x k) n = rngE len x n ∧ rng len (mul x k) n = rng len x n * max k (-k) := by
  have c1 := chk_of (n := len) (x := x) (by omega) fun i hi => by have := hx i hi; omega
  have c2 := chk_of (n := len) (x := mul x k) (by omega) fun i hi => by have := hy i hi; omega
  unfold rngE rng
  rw [c1, c2, gr_mul]
  refine ⟨rfl, ?_⟩
  split
  · rfl
  · simp
theorem al_in {x : Nat → Int} {len : Nat} (hl : len ≤ 60) (n : Int) : 0 ≤ alN len x n ∧ alN len x n ≤ 9223372036854775807 ∧ 0 ≤ alD len x n ∧ alD len x n ≤ 9223372036854775807 := by
  by_cases o : alOk len x n
  · have g := o
    obtain ⟨_, g1, g2, g3⟩ := g
    have lt := low_terms (s := sqs (sd x n.toNat) (len - 2 * n.toNat)) (c := 2 * (len - 2 * n)) (sqs_nonneg _ _) (by omega)
    unfold alN alD; rw [if_pos o, if_pos o]
    omega
  · unfold alN alD; rw [if_neg o, if_neg o]; omega
theorem mo_in {x : Nat → Int} {len : Nat} (hl : len ≤ 60) (n : Int) : 0 ≤ moN len x n ∧ moN len x n ≤ 9223372036854775807 ∧ 0 ≤ moD len x n ∧ moD len x n ≤ 9223372036854775807 := by
  by_cases o : moOk len x n
  · have g := o
    obtain ⟨_, g1, g2, g3⟩ := g
    have p1 : 1 ≤ 2 * n * n := by
      have := Int.mul_le_mul (show (2 : Int) ≤ 2 * n by omega) g1 (by omega) (by omega); omega
    have p1' : 2 * n * n ≤ 800 := by
      have := Int.mul_le_mul (show 2 * n ≤ (40 : Int) by omega) (show n ≤ (20 : Int) by omega) (by omega) (by omega); omega
    have p2 : 1 ≤ 2 * n * n * (len - 3 * n + 1) := by
      have := Int.mul_le_mul p1 (show (1 : Int) ≤ len - 3 * n + 1 by omega) (by omega) (by omega); omega
    have p2' : 2 * n * n * (len - 3 * n + 1) ≤ 48800 := by
      have := Int.mul_le_mul p1' (show len - 3 * n + 1 ≤ (61 : Int) by omega) (by omega) (by omega); omega
    have lt := low_terms (s := sqs (ms x n.toNat) (len - 3 * n.toNat + 1)) (c := 2 * n * n * (len - 3 * n + 1)) (sqs_nonneg _ _) p2
    unfold moN moD; rw [if_pos o, if_pos o]
    omega
  · unfold moN moD; rw [if_neg o, if_neg o]; omega
theorem rng_in {x : Nat → Int} {len : Nat} (n : Int) : 0 ≤ rng len x n ∧ rng len x n ≤ 2199023255552 := by
  unfold rng
  split
  · rename_i g
    have := gr_bd (chk_ok g.1).2 n.toNat (len - n.toNat) (by omega)
    omega
  · omega
end Go.Proofs.Ytbidogefodfakaa.Yx
