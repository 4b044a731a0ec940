/- Plain laws of layer 51: the path of the last causes; the stack that finds a cycle of negative weight. -/
import Derived.Test.YtieggiplbghecaaBx
set_option linter.unusedVariables false
set_option linter.unusedSimpArgs false
namespace Go.Proofs.Ytieggiplbghecaa.Bx
/-- the total weight of constraints -/
def sw (z : Nat → Nat → Int) (s : List Int) : Int := (s.map fun i => z i.toNat 2).sum
theorem sw_append (z : Nat → Nat → Int) (s t : List Int) : sw z (s ++ t) = sw z s + sw z t := by unfold sw; rw [List.map_append, List.sum_append]
theorem sw_one (z : Nat → Nat → Int) (i : Int) : sw z [i] = z i.toNat 2 := by simp [sw]
theorem sw_split (z : Nat → Nat → Int) (s : List Int) (k : Nat) : sw z s = sw z (s.take k) + sw z (s.drop k) := by rw [← sw_append, List.take_append_drop]
theorem sw_drop (z : Nat → Nat → Int) {s : List Int} {k : Nat} (h : k < s.length) : sw z (s.drop k) = z (s.getD k 0).toNat 2 + sw z (s.drop (k + 1)) := by
  rw [List.drop_eq_getElem_cons h, show s.getD k 0 = s[k] by simp [List.getD_eq_getElem?_getD, h], ← sw_one z, ← sw_append]; rfl
theorem sw_take (z : Nat → Nat → Int) {s : List Int} {k : Nat} (h : k < s.length) : sw z (s.take (k + 1)) = sw z (s.take k) + z (s.getD k 0).toNat 2 := by
  rw [List.take_succ_eq_append_getElem h, sw_append, sw_one, show s.getD k 0 = s[k] by simp [List.getD_eq_getElem?_getD, h]]
theorem getD_take {s : List Int} {j k : Nat} (h : j < k) : (s.take k).getD j 0 = s.getD j 0 := by
  rw [List.getD_eq_getElem?_getD, List.getElem?_take, if_pos h, ← List.getD_eq_getElem?_getD]
theorem getD_drop (s : List Int) (j k : Nat) : (s.drop k).getD j 0 = s.getD (k + j) 0 := by
  rw [List.getD_eq_getElem?_getD, List.getElem?_drop, ← List.getD_eq_getElem?_getD]
theorem getD_last (s : List Int) (i : Int) : (s ++ [i]).getD s.length 0 = i := by simp [List.getD_eq_getElem?_getD]
theorem getD_init {s : List Int} (i : Int) {j : Nat} (h : j < s.length) : (s ++ [i]).getD j 0 = s.getD j 0 := by simp [List.getD_eq_getElem?_getD, List.getElem?_append_left h]
/-- where element j of the list starts and ends -/
def fl (z : Nat → Nat → Int) (s : List Int) (j : Nat) : Nat := fr z (s.getD j 0).toNat
def tl (z : Nat → Nat → Int) (s : List Int) (j : Nat) : Nat := to z (s.getD j 0).toNat
/-- constraints, each starting where the one before ends, from different variables -/
structure Chain (m : Nat) (z : Nat → Nat → Int) (s : List Int) : Prop where
  ok : ∀ j, j < s.length → 0 ≤ s.getD j 0 ∧ s.getD j 0 < m
  link : ∀ j, j + 1 < s.length → tl z s j = fl z s (j + 1)
  apart : ∀ i j, i < j → j < s.length → fl z s i ≠ fl z s j
/-- a cycle of negative weight -/
structure Neg (n m : Nat) (z : Nat → Nat → Int) (s : List Int) : Prop where
  c : Chain m z s
  pos : 0 < s.length
  len : s.length ≤ n
  back : tl z s (s.length - 1) = fl z s 0
  neg : sw z s < 0
/-- the stack before constraint t of the path, whose variables are at -/
structure Good (m : Nat) (z : Nat → Nat → Int) (at_ : Nat → Nat) (s : List Int) (t : Nat) : Prop where
  c : Chain m z s
  len : s.length ≤ t
  last : ∀ j, j + 1 = s.length → tl z s j = at_ t
  far : ∀ j, j < s.length → fl z s j ≠ at_ t
  w : sw z s ≤ bf z m t (at_ t)
theorem good0 (m : Nat) (z : Nat → Nat → Int) (at_ : Nat → Nat) : Good m z at_ [] 0 :=
  ⟨⟨fun j hj => by simp at hj, fun j hj => by simp at hj, fun i j _ hj => by simp at hj⟩, by simp, fun j hj => by simp at hj, fun j hj => by simp at hj, by simp [sw, bf]⟩
/-- what the stack holds when constraint p is on it -/
structure Pushed (m : Nat) (z : Nat → Nat → Int) (at_ : Nat → Nat) (s : List Int) (t : Nat) : Prop where
  c : Chain m z s
  pos : 0 < s.length
  len : s.length ≤ t + 1
  last : tl z s (s.length - 1) = at_ (t + 1)
  w : sw z s ≤ bf z m (t + 1) (at_ (t + 1))
theorem Good.push {m : Nat} {z : Nat → Nat → Int} {at_ : Nat → Nat} {s : List Int} {t : Nat} (g : Good m z at_ s t) {p : Nat} (hp : p < m) (h1 : fr z p = at_ t) (h2 : to z p = at_ (t + 1)) (h3 : bf z m (t + 1) (at_ (t + 1)) = bf z m t (at_ t) + z p 2) : Pushed m z at_ (s ++ [(p : Int)]) t := by
  have hl : (s ++ [(p : Int)]).length = s.length + 1 := by simp
  have el : ∀ j, j < s.length → fl z (s ++ [(p : Int)]) j = fl z s j ∧ tl z (s ++ [(p : Int)]) j = tl z s j := fun j hj => by
    unfold fl tl; rw [getD_init _ hj]; exact ⟨rfl, rfl⟩
  have ef : fl z (s ++ [(p : Int)]) s.length = at_ t ∧ tl z (s ++ [(p : Int)]) s.length = at_ (t + 1) := by
    unfold fl tl; rw [getD_last, Int.toNat_natCast]; exact ⟨h1, h2⟩
  refine ⟨⟨fun j hj => ?_, fun j hj => ?_, fun i j hij hj => ?_⟩, by omega, by have := g.len; omega, by rw [hl]; exact ef.2, ?_⟩
  · rw [hl] at hj
    by_cases e : j = s.length
    · subst e; rw [getD_last]; omega
    · rw [getD_init _ (by omega)]; exact g.c.ok j (by omega)
  · rw [hl] at hj
    by_cases e : j + 1 = s.length
    · rw [(el j (by omega)).2, e, ef.1]; exact g.last j e
    · rw [(el j (by omega)).2, (el (j + 1) (by omega)).1]; exact g.c.link j (by omega)
  · rw [hl] at hj
    by_cases e : j = s.length
    · subst e; rw [(el i (by omega)).1, ef.1]; exact g.far i (by omega)
    · rw [(el i (by omega)).1, (el j (by omega)).1]; exact g.c.apart i j hij (by omega)
  · rw [sw_append, sw_one, Int.toNat_natCast, h3]; have := g.w; omega
theorem Chain.take {m : Nat} {z : Nat → Nat → Int} {s : List Int} (c : Chain m z s) (k : Nat) : Chain m z (s.take k) := by
  have hl : (s.take k).length ≤ s.length ∧ (s.take k).length ≤ k := by simp; omega
  refine ⟨fun j hj => ?_, fun j hj => ?_, fun i j hij hj => ?_⟩
  · rw [getD_take (by omega)]; exact c.ok j (by omega)
  · unfold tl fl; rw [getD_take (by omega), getD_take (by omega)]; exact c.link j (by omega)
  · unfold fl; rw [getD_take (by omega), getD_take (by omega)]; exact c.apart i j hij (by omega)
theorem Chain.drop {m : Nat} {z : Nat → Nat → Int} {s : List Int} (c : Chain m z s) (k : Nat) : Chain m z (s.drop k) := by
  have hl : (s.drop k).length = s.length - k := by simp
  refine ⟨fun j hj => ?_, fun j hj => ?_, fun i j hij hj => ?_⟩
  · rw [getD_drop]; exact c.ok _ (by omega)
  · unfold tl fl; rw [getD_drop, getD_drop]; exact c.link (k + j) (by omega)
  · unfold fl; rw [getD_drop, getD_drop]; exact c.apart (k + i) (k + j) (by omega) (by omega)
/-- nothing closes a cycle -/
theorem Pushed.keep {m : Nat} {z : Nat → Nat → Int} {at_ : Nat → Nat} {s : List Int} {t : Nat} (g : Pushed m z at_ s t) (h : ∀ j, j < s.length → fl z s j ≠ at_ (t + 1)) : Good m z at_ s (t + 1) :=
  ⟨g.c, g.len, fun j hj => by rw [← g.last]; congr 1; omega, h, g.w⟩
/-- a cycle whose weight is not negative is taken off -/
theorem Pushed.pop {m : Nat} {z : Nat → Nat → Int} {at_ : Nat → Nat} {s : List Int} {t : Nat} (g : Pushed m z at_ s t) {k : Nat} (hk : k < s.length) (h : fl z s k = at_ (t + 1)) (hw : 0 ≤ sw z (s.drop k)) : Good m z at_ (s.take k) (t + 1) := by
  have hl : (s.take k).length = k := by simp; omega
  refine ⟨g.c.take k, by have := g.len; omega, fun j hj => ?_, fun j hj => ?_, ?_⟩
  · unfold tl; rw [getD_take (by omega), ← h, show k = j + 1 by omega]; exact g.c.link j (by omega)
  · unfold fl; rw [getD_take (by omega), ← h]; exact g.c.apart j k (by omega) hk
  · have := sw_split z s k; have := g.w; omega
theorem pigeon : ∀ {n L : Nat} {f : Nat → Nat}, (∀ i, i < L → f i < n) → (∀ i j, i < j → j < L → f i ≠ f j) → L ≤ n
  | 0, L, f, h, _ => by
    apply Nat.le_of_not_lt; intro hL
    have := h 0 (by omega); omega
  | n + 1, L, f, h, d => by
    by_cases c : ∃ j, j < L ∧ f j = n
    · obtain ⟨j, hj, hn⟩ := c
      have ih := pigeon (n := n) (L := L - 1) (f := fun i => if i < j then f i else f (i + 1)) (fun i hi => by
        show (if i < j then f i else f (i + 1)) < n
        by_cases e : i < j
        · rw [if_pos e]; have := h i (by omega); have := d i j e hj; omega
        · rw [if_neg e]; have := h (i + 1) (by omega); have := d j (i + 1) (by omega) (by omega); omega) (fun a b hab hb => by
        show (if a < j then f a else f (a + 1)) ≠ (if b < j then f b else f (b + 1))
        by_cases e : a < j <;> by_cases e2 : b < j
        · rw [if_pos e, if_pos e2]; exact d a b hab (by omega)
        · rw [if_pos e, if_neg e2]; exact d a (b + 1) (by omega) (by omega)
        · omega
        · rw [if_neg e, if_neg e2]; exact d (a + 1) (b + 1) (by omega) (by omega))
      omega
    · have := pigeon (n := n) (L := L) (f := f) (fun i hi => by
        have := h i hi
        have : f i ≠ n := fun e => c ⟨i, hi, e⟩
        omega) d
      omega
theorem Chain.len {n m : Nat} {z : Nat → Nat → Int} {s : List Int} (V : Vs n m z) (c : Chain m z s) : s.length ≤ n :=
  pigeon (f := fl z s) (fun i hi => V.fr_lt (by have := c.ok i hi; omega)) c.apart
/-- a cycle whose weight is negative is the answer -/
theorem Pushed.neg {n m : Nat} {z : Nat → Nat → Int} {at_ : Nat → Nat} {s : List Int} {t : Nat} (V : Vs n m z) (g : Pushed m z at_ s t) {k : Nat} (hk : k < s.length) (h : fl z s k = at_ (t + 1)) (hw : sw z (s.drop k) < 0) : Neg n m z (s.drop k) := by
  have hl : (s.drop k).length = s.length - k := by simp
  refine ⟨g.c.drop k, by omega, (g.c.drop k).len V, ?_, hw⟩
  have e1 : tl z (s.drop k) ((s.drop k).length - 1) = tl z s (s.length - 1) := by unfold tl; rw [getD_drop, hl]; congr 3; omega
  have e2 : fl z (s.drop k) 0 = fl z s k := by unfold fl; rw [getD_drop]; rfl
  rw [e1, e2, h, g.last]
/-- a chain is as a path -/
theorem Chain.path {m : Nat} {z : Nat → Nat → Int} {s : List Int} (c : Chain m z s) : ∀ k, k < s.length → bf z m (k + 1) (tl z s k) ≤ sw z (s.take (k + 1))
  | 0, h => by
    have := rel_edge z (bf z m 0) (m := m) (i := (s.getD 0 0).toNat) (by have := c.ok 0 h; omega)
    rw [sw_take z h]
    simp only [List.take_zero, sw, List.map_nil, List.sum_nil, bf] at this ⊢
    unfold tl; simpa [bf] using this
  | k + 1, h => by
    have ih := c.path k (by omega)
    have e : bf z m (k + 1 + 1) (tl z s (k + 1)) ≤ bf z m (k + 1) (fl z s (k + 1)) + z (s.getD (k + 1) 0).toNat 2 := rel_edge z (bf z m (k + 1)) (by have := c.ok (k + 1) h; omega)
    rw [sw_take z h]
    rw [← c.link k h] at e
    omega
/-- the whole path leaves no stack -/
theorem Good.absurd {n m : Nat} {z : Nat → Nat → Int} {at_ : Nat → Nat} {s : List Int} (V : Vs n m z) (g : Good m z at_ s n) (he : at_ n < n) (h : bf z m n (at_ n) < bf z m (n - 1) (at_ n)) : False := by
  have n1 := V.n1
  have hlen : s.length + 1 ≤ n := by
    refine pigeon (f := fun i => if i < s.length then fl z s i else at_ n) (fun i hi => ?_) (fun i j hij hj => ?_)
    · show (if i < s.length then fl z s i else at_ n) < n
      by_cases e : i < s.length
      · rw [if_pos e]; exact V.fr_lt (by have := g.c.ok i e; omega)
      · rw [if_neg e]; exact he
    · show (if i < s.length then fl z s i else at_ n) ≠ (if j < s.length then fl z s j else at_ n)
      rw [if_pos (by omega)]
      by_cases e : j < s.length
      · rw [if_pos e]; exact g.c.apart i j hij e
      · rw [if_neg e]; exact g.far i (by omega)
  have hw := g.w
  by_cases e : s.length = 0
  · have : s = [] := List.eq_nil_of_length_eq_zero e
    subst this
    have := (bf_bd V (n - 1) (at_ n)).2
    simp [sw] at hw; omega
  · have h1 := g.c.path (s.length - 1) (by omega)
    rw [g.last (s.length - 1) (by omega), show s.length - 1 + 1 = s.length by omega, List.take_length] at h1
    have := bf_anti z m (at_ n) (show s.length ≤ n - 1 by omega)
    omega
/-- the variables of the path of causes, backwards from e: atv r is the variable before the last r constraints -/
def atv (n : Nat) (z : Nat → Nat → Int) (m e : Nat) : Nat → Nat
  | 0 => e
  | r + 1 => fr z (cau z (bf z m (n - 1 - r)) m (atv n z m e r)).toNat
/-- constraint k of the path -/
def pth (n : Nat) (z : Nat → Nat → Int) (m e k : Nat) : Int := cau z (bf z m k) m (atv n z m e (n - 1 - k))
theorem path_step {n m e : Nat} {z : Nat → Nat → Int} (V : Vs n m z) (he : e < n) (h : bf z m n e < bf z m (n - 1) e) : ∀ r, r ≤ n - 1 → atv n z m e r < n ∧ bf z m (n - r) (atv n z m e r) < bf z m (n - 1 - r) (atv n z m e r)
  | 0, _ => ⟨he, h⟩
  | r + 1, hr => by
    obtain ⟨h1, h2⟩ := path_step V he h r (by omega)
    have n1 := V.n1
    rcases cau_from z (bf z m (n - 1 - r)) (atv n z m e r) m with ⟨_, g⟩ | ⟨i, hi, g1, g2, g3, _⟩
    · exfalso
      have : bf z m (n - 1 - r + 1) (atv n z m e r) = bf z m (n - 1 - r) (atv n z m e r) := g
      rw [show n - 1 - r + 1 = n - r by omega] at this; omega
    · have ea : atv n z m e (r + 1) = fr z i := by unfold atv; rw [g1, Int.toNat_natCast]
      rw [ea]
      refine ⟨V.fr_lt hi, ?_⟩
      have q1 : bf z m (n - r) (atv n z m e r) = bf z m (n - 1 - r) (fr z i) + z i 2 := by rw [show n - r = n - 1 - r + 1 by omega]; exact g3
      have q2 := rel_edge z (bf z m (n - 1 - r - 1)) hi
      rw [g2] at q2
      have q3 : bf z m (n - 1 - r) (atv n z m e r) ≤ bf z m (n - 1 - r - 1) (fr z i) + z i 2 := by
        rw [show n - 1 - r = n - 1 - r - 1 + 1 by omega]; exact q2
      rw [show n - (r + 1) = n - 1 - r by omega, show n - 1 - (r + 1) = n - 1 - r - 1 by omega]
      omega
/-- each constraint of the path -/
theorem pth_ok {n m e : Nat} {z : Nat → Nat → Int} (V : Vs n m z) (he : e < n) (h : bf z m n e < bf z m (n - 1) e) {k : Nat} (hk : k < n) :
    ∃ p : Nat, pth n z m e k = p ∧ p < m ∧ fr z p = atv n z m e (n - k) ∧ to z p = atv n z m e (n - 1 - k) ∧ bf z m (k + 1) (atv n z m e (n - 1 - k)) = bf z m k (fr z p) + z p 2 := by
  obtain ⟨h1, h2⟩ := path_step V he h (n - 1 - k) (by omega)
  rw [show n - (n - 1 - k) = k + 1 by omega, show n - 1 - (n - 1 - k) = k by omega] at h2
  unfold pth
  rcases cau_from z (bf z m k) (atv n z m e (n - 1 - k)) m with ⟨_, g⟩ | ⟨i, hi, g1, g2, g3, _⟩
  · exfalso
    have : bf z m (k + 1) (atv n z m e (n - 1 - k)) = bf z m k (atv n z m e (n - 1 - k)) := g
    omega
  · refine ⟨i, g1, hi, ?_, g2, g3⟩
    rw [show n - k = n - 1 - k + 1 by omega]
    unfold atv
    rw [show n - 1 - (n - 1 - k) = k by omega, g1, Int.toNat_natCast]
end Go.Proofs.Ytieggiplbghecaa.Bx
