/- Plain laws: systems of difference constraints: the check, the rounds of Bellman and Ford. -/
import Derived.Test.YtieggiplbghecaaRows
set_option linter.unusedVariables false
set_option linter.unusedSimpArgs false
namespace Go.Proofs.Ytieggiplbghecaa.Bx
/-- constraint i is z i: from variable z i 0 to z i 1 with the weight z i 2 -/
def okC (n : Int) (z : Nat → Nat → Int) (i : Nat) : Bool := decide (0 ≤ z i 0 ∧ z i 0 < n ∧ 0 ≤ z i 1 ∧ z i 1 < n ∧ -9007199254740992 ≤ z i 2 ∧ z i 2 ≤ 9007199254740992)
theorem okC_iff {n : Int} {z : Nat → Nat → Int} {i : Nat} : okC n z i = true ↔ (0 ≤ z i 0 ∧ z i 0 < n ∧ 0 ≤ z i 1 ∧ z i 1 < n ∧ -9007199254740992 ≤ z i 2 ∧ z i 2 ≤ 9007199254740992) := by unfold okC; simp
def scan (n : Int) (z : Nat → Nat → Int) : Nat → Int
  | 0 => 0
  | k + 1 => if scan n z k = 0 then (if okC n z k = true then 0 else 3) else 3
theorem scan_two (n : Int) (z : Nat → Nat → Int) (k : Nat) : scan n z k = 0 ∨ scan n z k = 3 := by
  cases k with
  | zero => exact .inl rfl
  | succ k =>
    unfold scan
    by_cases h : scan n z k = 0
    · by_cases h2 : okC n z k = true <;> simp [h, h2]
    · simp [h]
theorem scan_go {n : Int} {z : Nat → Nat → Int} {k : Nat} (h : scan n z k = 0) (h2 : okC n z k = true) : scan n z (k + 1) = 0 := by unfold scan; simp [h, h2]
theorem scan_no {n : Int} {z : Nat → Nat → Int} {k : Nat} (h2 : okC n z k = false) : ∀ m, k < m → scan n z m = 3
  | 0, h => by omega
  | m + 1, h => by
    unfold scan
    by_cases e : k = m
    · subst e; simp [h2]
    · rw [scan_no h2 m (by omega)]; rfl
theorem scan_all {n : Int} {z : Nat → Nat → Int} : ∀ {m : Nat}, scan n z m = 0 → ∀ i, i < m → okC n z i = true
  | 0, _, i, hi => by omega
  | m + 1, h, i, hi => by
    unfold scan at h
    by_cases h1 : scan n z m = 0
    · by_cases h2 : okC n z m = true
      · by_cases e : i = m
        · rw [e]; exact h2
        · exact scan_all h1 i (by omega)
      · simp [h1, h2] at h
    · simp [h1] at h
theorem scan_of {n : Int} {z : Nat → Nat → Int} : ∀ {m : Nat}, (∀ i, i < m → okC n z i = true) → scan n z m = 0
  | 0, _ => rfl
  | m + 1, h => scan_go (scan_of fun i hi => h i (by omega)) (h m (by omega))
def chk (n : Int) (m : Nat) (z : Nat → Nat → Int) : Int := if n < 1 ∨ 160 < n then 3 else if 4096 < m then 6 else scan n z m
/-- a valid system of n variables and m constraints -/
structure Vs (n m : Nat) (z : Nat → Nat → Int) : Prop where
  n1 : 1 ≤ n
  n2 : n ≤ 160
  m2 : m ≤ 4096
  ok : ∀ i, i < m → 0 ≤ z i 0 ∧ z i 0 < n ∧ 0 ≤ z i 1 ∧ z i 1 < n ∧ -9007199254740992 ≤ z i 2 ∧ z i 2 ≤ 9007199254740992
theorem vs_of {n : Int} {m : Nat} {z : Nat → Nat → Int} (h : chk n m z = 0) : 1 ≤ n ∧ n ≤ 160 ∧ Vs n.toNat m z := by
  unfold chk at h
  split at h
  · omega
  · split at h
    · omega
    · refine ⟨by omega, by omega, by omega, by omega, by omega, fun i hi => ?_⟩
      have := okC_iff.1 (scan_all h i hi)
      omega
theorem of_vs {n m : Nat} {z : Nat → Nat → Int} (h : Vs n m z) : chk n m z = 0 := by
  have h1 := h.n1; have h2 := h.n2; have h3 := h.m2
  unfold chk
  rw [if_neg (by omega), if_neg (by omega)]
  exact scan_of fun i hi => okC_iff.2 (h.ok i hi)

/-- the variable that constraint i starts from, ends at -/
def fr (z : Nat → Nat → Int) (i : Nat) : Nat := (z i 0).toNat
def to (z : Nat → Nat → Int) (i : Nat) : Nat := (z i 1).toNat
theorem Vs.fr_lt {n m : Nat} {z : Nat → Nat → Int} (h : Vs n m z) {i : Nat} (hi : i < m) : fr z i < n := by have := h.ok i hi; unfold fr; omega
theorem Vs.to_lt {n m : Nat} {z : Nat → Nat → Int} (h : Vs n m z) {i : Nat} (hi : i < m) : to z i < n := by have := h.ok i hi; unfold to; omega
/-- numbers x, lessened by the first i constraints from x -/
def rel (z : Nat → Nat → Int) (x : Nat → Int) : Nat → Nat → Int
  | 0 => x
  | i + 1 => fun j => if to z i = j ∧ x (fr z i) + z i 2 < rel z x i j then x (fr z i) + z i 2 else rel z x i j
/-- the last constraint that lessened variable j -/
def cau (z : Nat → Nat → Int) (x : Nat → Int) : Nat → Nat → Int
  | 0 => fun _ => -1
  | i + 1 => fun j => if to z i = j ∧ x (fr z i) + z i 2 < rel z x i j then i else cau z x i j
theorem rel_succ_le (z : Nat → Nat → Int) (x : Nat → Int) (i j : Nat) : rel z x (i + 1) j ≤ rel z x i j := by
  simp only [rel]; split <;> omega
theorem rel_le (z : Nat → Nat → Int) (x : Nat → Int) : ∀ i j, rel z x i j ≤ x j
  | 0, _ => Int.le_refl _
  | i + 1, j => Int.le_trans (rel_succ_le z x i j) (rel_le z x i j)
theorem rel_anti (z : Nat → Nat → Int) (x : Nat → Int) (j : Nat) {i : Nat} : ∀ {m}, i ≤ m → rel z x m j ≤ rel z x i j
  | 0, h => by obtain rfl : i = 0 := by omega
               exact Int.le_refl _
  | m + 1, h => by
    by_cases e : i = m + 1
    · subst e; exact Int.le_refl _
    · exact Int.le_trans (rel_succ_le z x m j) (rel_anti z x j (by omega))
theorem rel_edge (z : Nat → Nat → Int) (x : Nat → Int) {i m : Nat} (h : i < m) : rel z x m (to z i) ≤ x (fr z i) + z i 2 := by
  refine Int.le_trans (rel_anti z x (to z i) (i := i + 1) h) ?_
  simp only [rel]
  by_cases g : x (fr z i) + z i 2 < rel z x i (to z i)
  · rw [if_pos ⟨trivial, g⟩]; exact Int.le_refl _
  · rw [if_neg (fun e => g e.2)]; omega
theorem rel_from (z : Nat → Nat → Int) (x : Nat → Int) (j : Nat) : ∀ m, rel z x m j = x j ∨ ∃ i, i < m ∧ to z i = j ∧ rel z x m j = x (fr z i) + z i 2
  | 0 => .inl rfl
  | m + 1 => by
    by_cases h : to z m = j ∧ x (fr z m) + z m 2 < rel z x m j
    · exact .inr ⟨m, by omega, h.1, by simp only [rel]; rw [if_pos h]⟩
    · have e : rel z x (m + 1) j = rel z x m j := by simp only [rel]; rw [if_neg h]
      rcases rel_from z x j m with g | ⟨i, hi, h1, h2⟩
      · exact .inl (e.trans g)
      · exact .inr ⟨i, by omega, h1, e.trans h2⟩
/-- what lessened variable j, if anything has -/
theorem cau_from (z : Nat → Nat → Int) (x : Nat → Int) (j : Nat) : ∀ m, (cau z x m j = -1 ∧ rel z x m j = x j) ∨ ∃ i : Nat, i < m ∧ cau z x m j = i ∧ to z i = j ∧ rel z x m j = x (fr z i) + z i 2 ∧ rel z x m j < x j
  | 0 => .inl ⟨rfl, rfl⟩
  | m + 1 => by
    by_cases h : to z m = j ∧ x (fr z m) + z m 2 < rel z x m j
    · have e : rel z x (m + 1) j = x (fr z m) + z m 2 := by simp only [rel]; rw [if_pos h]
      have := rel_le z x m j
      exact .inr ⟨m, by omega, by simp only [cau]; rw [if_pos h], h.1, e, by omega⟩
    · have e : rel z x (m + 1) j = rel z x m j := by simp only [rel]; rw [if_neg h]
      have c : cau z x (m + 1) j = cau z x m j := by simp only [cau]; rw [if_neg h]
      rw [e, c]
      rcases cau_from z x j m with g | ⟨i, hi, h1⟩
      · exact .inl g
      · exact .inr ⟨i, by omega, h1⟩
theorem cau_neg (z : Nat → Nat → Int) (x : Nat → Int) (j m : Nat) : cau z x m j < 0 ↔ rel z x m j = x j := by
  rcases cau_from z x j m with ⟨h1, h2⟩ | ⟨i, _, h1, _, _, h2⟩ <;> omega
theorem rel_congr {n m : Nat} {z : Nat → Nat → Int} (V : Vs n m z) {x y : Nat → Int} (h : ∀ j, j < n → x j = y j) : ∀ i, i ≤ m → ∀ j, j < n → rel z x i j = rel z y i j
  | 0, _, j, hj => h j hj
  | i + 1, hi, j, hj => by
    simp only [rel]
    rw [rel_congr V h i (by omega) j hj, h _ (V.fr_lt (by omega))]
/-- the least weights of paths of at most k constraints -/
def bf (z : Nat → Nat → Int) (m : Nat) : Nat → Nat → Int
  | 0 => fun _ => 0
  | k + 1 => rel z (bf z m k) m
theorem bf_succ_le (z : Nat → Nat → Int) (m k j : Nat) : bf z m (k + 1) j ≤ bf z m k j := rel_le _ _ _ _
theorem bf_anti (z : Nat → Nat → Int) (m j : Nat) {k : Nat} : ∀ {l}, k ≤ l → bf z m l j ≤ bf z m k j
  | 0, h => by obtain rfl : k = 0 := by omega
               exact Int.le_refl _
  | l + 1, h => by
    by_cases e : k = l + 1
    · subst e; exact Int.le_refl _
    · exact Int.le_trans (bf_succ_le z m l j) (bf_anti z m j (by omega))
theorem bf_bd {n m : Nat} {z : Nat → Nat → Int} (V : Vs n m z) : ∀ (k j : Nat), -((k : Int) * 9007199254740992) ≤ bf z m k j ∧ bf z m k j ≤ 0
  | 0, j => by simp [bf]
  | k + 1, j => by
    have h1 := bf_bd V k j
    have h2 := bf_succ_le z m k j
    refine ⟨?_, by omega⟩
    rcases rel_from z (bf z m k) j m with g | ⟨i, hi, _, g⟩
    · have e : bf z m (k + 1) j = bf z m k j := g
      omega
    · have e : bf z m (k + 1) j = bf z m k (fr z i) + z i 2 := g
      have := bf_bd V k (fr z i); have := V.ok i hi
      omega
theorem rel_bd {n m : Nat} {z : Nat → Nat → Int} (V : Vs n m z) (k : Nat) {i : Nat} (hi : i ≤ m) (j : Nat) : -(((k + 1 : Nat) : Int) * 9007199254740992) ≤ rel z (bf z m k) i j ∧ rel z (bf z m k) i j ≤ 0 := by
  have h1 := (bf_bd V (k + 1) j).1
  have h2 := rel_anti z (bf z m k) j hi
  have h3 := rel_le z (bf z m k) i j
  have h4 := (bf_bd V k j).2
  have e : bf z m (k + 1) j = rel z (bf z m k) m j := rfl
  omega
/-- round k + 1 changes nothing -/
def St (n : Nat) (z : Nat → Nat → Int) (m k : Nat) : Prop := ∀ j, j < n → bf z m (k + 1) j = bf z m k j
theorem St.stays {n m : Nat} {z : Nat → Nat → Int} (V : Vs n m z) {k : Nat} (h : St n z m k) : ∀ s j, j < n → bf z m (k + s) j = bf z m k j
  | 0, j, _ => rfl
  | s + 1, j, hj => by
    have e : bf z m (k + (s + 1)) j = rel z (bf z m (k + s)) m j := rfl
    rw [e, rel_congr V (h.stays V s) m (Nat.le_refl _) j hj]
    exact h j hj
theorem St.edge {n m : Nat} {z : Nat → Nat → Int} (V : Vs n m z) {k : Nat} (h : St n z m k) {i : Nat} (hi : i < m) : bf z m k (to z i) ≤ bf z m k (fr z i) + z i 2 := by
  have := rel_edge z (bf z m k) hi
  rw [← h _ (V.to_lt hi)]; exact this
/-- how many of the first n satisfy p -/
def cnt (p : Nat → Bool) : Nat → Nat
  | 0 => 0
  | n + 1 => cnt p n + if p n then 1 else 0
theorem cnt_le (p : Nat → Bool) : ∀ n, cnt p n ≤ n
  | 0 => Nat.le_refl _
  | n + 1 => by have := cnt_le p n; unfold cnt; split <;> omega
theorem cnt_mono {p q : Nat → Bool} : ∀ {n}, (∀ j, j < n → p j = true → q j = true) → cnt p n ≤ cnt q n
  | 0, _ => Nat.le_refl _
  | n + 1, h => by
    have := cnt_mono (n := n) fun j hj => h j (by omega)
    have g := h n (by omega)
    unfold cnt
    by_cases hp : p n = true
    · rw [if_pos hp, if_pos (g hp)]; omega
    · rw [if_neg hp]; omega
theorem cnt_lt {p q : Nat → Bool} : ∀ {n}, (∀ j, j < n → p j = true → q j = true) → (∃ j, j < n ∧ q j = true ∧ p j = false) → cnt p n < cnt q n
  | 0, _, ⟨j, hj, _⟩ => by omega
  | n + 1, h, ⟨j, hj, h1, h2⟩ => by
    have m := cnt_mono (n := n) fun j hj => h j (by omega)
    have g := h n (by omega)
    unfold cnt
    by_cases e : j = n
    · subst e; rw [if_pos h1, if_neg (by simp [h2])]; omega
    · have := cnt_lt (n := n) (fun j hj => h j (by omega)) ⟨j, by omega, h1, h2⟩
      by_cases hp : p n = true
      · rw [if_pos hp, if_pos (g hp)]; omega
      · rw [if_neg hp]; omega
theorem cnt_full {p : Nat → Bool} {n : Nat} (h : n ≤ cnt p n) : ∀ j, j < n → p j = true := by
  intro j hj
  by_cases e : p j = true
  · exact e
  · exfalso
    have := cnt_lt (p := p) (q := fun _ => true) (n := n) (fun _ _ _ => rfl) ⟨j, hj, rfl, by simpa using e⟩
    have := cnt_le (fun _ => true) n
    omega
/-- variable j has its last value from round t on, and not before -/
def At (z : Nat → Nat → Int) (m : Nat) (x : Nat → Int) (t j : Nat) : Prop := bf z m t j = x j ∧ ∀ s, s < t → bf z m s j ≠ x j
theorem at_down {n m K : Nat} {z : Nat → Nat → Int} (V : Vs n m z) (S : St n z m K) {t j : Nat} (hj : j < n) (h : At z m (bf z m K) (t + 1) j) : ∃ a, a < n ∧ At z m (bf z m K) t a := by
  have lo : ∀ s a, a < n → bf z m K a ≤ bf z m s a := fun s a ha => by
    by_cases c : s ≤ K
    · exact bf_anti z m a c
    · have := S.stays V (s - K) a ha
      rw [show K + (s - K) = s by omega] at this; omega
  rcases rel_from z (bf z m t) j m with g | ⟨i, hi, g1, g2⟩
  · exfalso
    have e : bf z m (t + 1) j = bf z m t j := g
    exact h.2 t (by omega) (by rw [← e]; exact h.1)
  · have e : bf z m (t + 1) j = bf z m t (fr z i) + z i 2 := g2
    have f := V.fr_lt hi
    have e1 := S.edge V hi
    have e2 := lo t _ f
    have e3 := h.1
    rw [g1] at e1
    refine ⟨fr z i, f, by omega, fun s hs hc => ?_⟩
    have r : bf z m (s + 1) (to z i) ≤ bf z m s (fr z i) + z i 2 := rel_edge z (bf z m s) hi
    rw [g1] at r
    have := lo (s + 1) j hj
    exact h.2 (s + 1) (by omega) (by omega)
theorem at_some {m K : Nat} {z : Nat → Nat → Int} {j : Nat} : ∀ {T}, bf z m T j = bf z m K j → ∃ t, t ≤ T ∧ At z m (bf z m K) t j
  | 0, h => ⟨0, Nat.le_refl _, h, fun s hs => by omega⟩
  | T + 1, h => by
    by_cases c : bf z m T j = bf z m K j
    · obtain ⟨t, ht, a⟩ := at_some c; exact ⟨t, by omega, a⟩
    · by_cases d : ∃ s, s < T + 1 ∧ bf z m s j = bf z m K j
      · obtain ⟨s, hs, e⟩ := d
        by_cases e' : s = T
        · subst e'; exact absurd e c
        · have : bf z m T j = bf z m K j ∨ bf z m T j ≠ bf z m K j := by omega
          have k1 := bf_anti z m j (show s ≤ T by omega)
          have k2 := bf_anti z m j (show T ≤ T + 1 by omega)
          omega
      · exact ⟨T + 1, Nat.le_refl _, h, fun s hs he => d ⟨s, hs, he⟩⟩
theorem at_all {n m K : Nat} {z : Nat → Nat → Int} (V : Vs n m z) (S : St n z m K) {t : Nat} : ∀ {T j}, t ≤ T → j < n → At z m (bf z m K) T j → ∃ a, a < n ∧ At z m (bf z m K) t a
  | 0, j, ht, hj, h => by obtain rfl : t = 0 := by omega
                          exact ⟨j, hj, h⟩
  | T + 1, j, ht, hj, h => by
    by_cases e : t = T + 1
    · subst e; exact ⟨j, hj, h⟩
    · obtain ⟨a, ha, h'⟩ := at_down V S hj h
      exact at_all V S (by omega) ha h'
/-- if any round changes nothing, round n does not -/
theorem settles {n m K : Nat} {z : Nat → Nat → Int} (V : Vs n m z) (S : St n z m K) : St n z m (n - 1) := by
  have n1 := V.n1
  have lo : ∀ s a, a < n → bf z m K a ≤ bf z m s a := fun s a ha => by
    by_cases c : s ≤ K
    · exact bf_anti z m a c
    · have := S.stays V (s - K) a ha
      rw [show K + (s - K) = s by omega] at this; omega
  have key : ∀ t, min n (t + 1) ≤ cnt (fun j => decide (bf z m t j = bf z m K j)) n := by
    intro t
    induction t with
    | zero =>
      obtain ⟨t0, ht0, a0⟩ := at_some (z := z) (m := m) (K := K) (j := 0) (T := K) rfl
      obtain ⟨a, ha, h⟩ := at_all V S (t := 0) (Nat.zero_le _) (show 0 < n by omega) a0
      have := cnt_lt (p := fun _ => false) (q := fun j => decide (bf z m 0 j = bf z m K j)) (n := n) (fun _ _ h => by simp at h) ⟨a, ha, by simpa using h.1, rfl⟩
      omega
    | succ t ih =>
      have mono : ∀ j, j < n → decide (bf z m t j = bf z m K j) = true → decide (bf z m (t + 1) j = bf z m K j) = true := fun j hj h => by
        simp only [decide_eq_true_eq] at h ⊢
        have := bf_succ_le z m t j; have := lo (t + 1) j hj
        omega
      by_cases c : ∃ j, j < n ∧ bf z m t j ≠ bf z m K j
      · obtain ⟨j, hj, hne⟩ := c
        obtain ⟨T, hT, a0⟩ := at_some (z := z) (m := m) (K := K) (j := j) (T := K) rfl
        have hlt : t < T := by
          apply Nat.lt_of_not_le; intro hle
          have k1 := bf_anti z m j hle; have k2 := lo t j hj; have := a0.1
          omega
        obtain ⟨a, ha, h⟩ := at_all V S (t := t + 1) hlt hj a0
        have := cnt_lt mono ⟨a, ha, by simpa using h.1, by simpa using h.2 t (by omega)⟩
        omega
      · have := cnt_mono (n := n) (p := fun _ => true) (q := fun j => decide (bf z m (t + 1) j = bf z m K j)) (fun j hj _ => mono j hj (by
          simp only [decide_eq_true_eq]
          by_cases e : bf z m t j = bf z m K j
          · exact e
          · exact absurd ⟨j, hj, e⟩ c))
        have full : ∀ n, cnt (fun _ => true) n = n := fun n => by
          induction n with
          | zero => rfl
          | succ n ih => unfold cnt; rw [ih]; rfl
        rw [full] at this
        omega
  have full := cnt_full (p := fun j => decide (bf z m (n - 1) j = bf z m K j)) (n := n) (by have := key (n - 1); omega)
  intro j hj
  have e := full j hj
  simp only [decide_eq_true_eq] at e
  have := bf_succ_le z m (n - 1) j; have := lo (n - 1 + 1) j hj
  omega
theorem settled {n m K : Nat} {z : Nat → Nat → Int} (V : Vs n m z) (S : St n z m K) (j : Nat) (hj : j < n) : bf z m K j = bf z m (n - 1) j := by
  have T := settles V S
  by_cases c : K ≤ n - 1
  · have := S.stays V (n - 1 - K) j hj
    rw [show K + (n - 1 - K) = n - 1 by omega] at this; exact this.symm
  · have := T.stays V (K - (n - 1)) j hj
    rw [show n - 1 + (K - (n - 1)) = K by omega] at this; exact this
end Go.Proofs.Ytieggiplbghecaa.Bx
