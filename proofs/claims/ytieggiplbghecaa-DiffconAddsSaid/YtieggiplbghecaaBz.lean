/- Plain laws of layer 51: solutions, tight solutions, one constraint more. -/
import Derived.Test.YtieggiplbghecaaBy
import Derived.Test.YtieggiplbghecaaBf
set_option linter.unusedVariables false
set_option linter.unusedSimpArgs false
namespace Go.Proofs.Ytieggiplbghecaa.Bx
/-- a round lessens a variable -/
theorem not_st {n m : Nat} {z : Nat → Nat → Int} (V : Vs n m z) (h : ¬ St n z m (n - 1)) : ∃ e, e < n ∧ bf z m n e < bf z m (n - 1) e := by
  have n1 := V.n1
  by_cases c : ∃ e, e < n ∧ bf z m n e < bf z m (n - 1) e
  · exact c
  · exfalso; apply h; intro j hj
    have h1 := bf_succ_le z m (n - 1) j
    have h2 : ¬ bf z m n j < bf z m (n - 1) j := fun g => c ⟨j, hj, g⟩
    rw [show n - 1 + 1 = n by omega] at h1 ⊢; omega
/-- a system that lessens to the end has a cycle of negative weight -/
theorem has_neg {n m : Nat} {z : Nat → Nat → Int} (V : Vs n m z) (h : ¬ St n z m (n - 1)) : ∃ s, Neg n m z s := by
  obtain ⟨e, he, hl⟩ := not_st V h
  have key : ∀ t, t ≤ n → (∃ s, Neg n m z s) ∨ ∃ s, Good m z (fun t => atv n z m e (n - t)) s t := by
    intro t
    induction t with
    | zero => intro _; exact .inr ⟨[], good0 _ _ _⟩
    | succ t ih =>
      intro ht
      rcases ih (by omega) with g | ⟨s, g⟩
      · exact .inl g
      · obtain ⟨p, _, hp, q1, q2, q3⟩ := pth_ok V he hl (k := t) (by omega)
        have q4 : n - 1 - t = n - (t + 1) := by omega
        rw [q4] at q2 q3
        have P := g.push (p := p) hp q1 q2 (by rw [q3, q1])
        by_cases c : ∃ j, j < (s ++ [(p : Int)]).length ∧ fl z (s ++ [(p : Int)]) j = atv n z m e (n - (t + 1))
        · obtain ⟨k, hk, hf⟩ := c
          by_cases hw : 0 ≤ sw z ((s ++ [(p : Int)]).drop k)
          · exact .inr ⟨_, P.pop hk hf hw⟩
          · exact .inl ⟨_, P.neg V hk hf (by omega)⟩
        · exact .inr ⟨_, P.keep fun j hj hf => c ⟨j, hj, hf⟩⟩
  rcases key n (Nat.le_refl _) with g | ⟨s, g⟩
  · exact g
  · exfalso
    refine g.absurd V ?_ ?_
    · rw [Nat.sub_self]; exact he
    · rw [Nat.sub_self]; exact hl
theorem Chain.sum {m : Nat} {z : Nat → Nat → Int} {s : List Int} {y : Nat → Int} (c : Chain m z s) (hy : Pt m z y) : ∀ k, k < s.length → y (tl z s k) - y (fl z s 0) ≤ sw z (s.take (k + 1))
  | 0, h => by
    have := hy (s.getD 0 0).toNat (by have := c.ok 0 h; omega)
    rw [sw_take z h]
    unfold tl fl; simp only [List.take_zero, sw, List.map_nil, List.sum_nil]; omega
  | k + 1, h => by
    have ih := c.sum hy k (by omega)
    have := hy (s.getD (k + 1) 0).toNat (by have := c.ok (k + 1) h; omega)
    rw [sw_take z h]
    have e := c.link k h
    unfold tl fl at *
    rw [e] at ih; omega
theorem Neg.none {n m : Nat} {z : Nat → Nat → Int} {s : List Int} {y : Nat → Int} (h : Neg n m z s) (hy : Pt m z y) : False := by
  have h1 := h.c.sum hy (s.length - 1) (by have := h.pos; omega)
  have := h.pos
  rw [h.back, show s.length - 1 + 1 = s.length by omega, List.take_length] at h1
  have := h.neg; omega
/-- a system with a solution settles -/
theorem st_of {n m : Nat} {z : Nat → Nat → Int} {y : Nat → Int} (V : Vs n m z) (hy : Pt m z y) : St n z m (n - 1) := by
  by_cases c : St n z m (n - 1)
  · exact c
  · obtain ⟨s, hs⟩ := has_neg V c
    exact (hs.none hy).elim
theorem pt_of {n m : Nat} {z : Nat → Nat → Int} (V : Vs n m z) (h : St n z m (n - 1)) : Pt m z (bf z m (n - 1)) := fun c hc => h.edge V hc
/-- every other solution without positive numbers is nowhere greater -/
theorem bf_great {m : Nat} {z : Nat → Nat → Int} {y : Nat → Int} (hy : Pt m z y) (h0 : ∀ j, y j ≤ 0) : ∀ k j, y j ≤ bf z m k j
  | 0, j => h0 j
  | k + 1, j => by
    rcases rel_from z (bf z m k) j m with g | ⟨i, hi, e, g⟩
    · have e : bf z m (k + 1) j = bf z m k j := g
      rw [e]; exact bf_great hy h0 k j
    · have e2 : bf z m (k + 1) j = bf z m k (fr z i) + z i 2 := g
      have h1 := hy i hi; have := bf_great hy h0 k (fr z i)
      rw [e] at h1; omega
/-- what a variable without a bound must be raised by -/
def tk (z : Nat → Nat → Int) (b y : Nat → Int) : Nat → Int
  | 0 => 0
  | c + 1 => if b (fr z c) = 4611686018427387904 ∧ b (to z c) ≠ 4611686018427387904 then max (tk z b y c) (b (to z c) - z c 2 - y (fr z c)) else tk z b y c
theorem tk_mono (z : Nat → Nat → Int) (b y : Nat → Int) {c : Nat} : ∀ {m}, c ≤ m → tk z b y c ≤ tk z b y m
  | 0, h => by obtain rfl : c = 0 := by omega
               exact Int.le_refl _
  | m + 1, h => by
    by_cases e : c = m + 1
    · subst e; exact Int.le_refl _
    · have := tk_mono z b y (c := c) (m := m) (by omega)
      simp only [tk]; split <;> omega
theorem tk_edge (z : Nat → Nat → Int) (b y : Nat → Int) {c m : Nat} (hc : c < m) (h1 : b (fr z c) = 4611686018427387904) (h2 : b (to z c) ≠ 4611686018427387904) : b (to z c) - z c 2 - y (fr z c) ≤ tk z b y m := by
  have := tk_mono z b y (c := c + 1) (m := m) hc
  simp only [tk] at this
  rw [if_pos ⟨h1, h2⟩] at this; omega
theorem tk_bd {n m : Nat} {z : Nat → Nat → Int} {b y : Nat → Int} (V : Vs n m z) (hb : ∀ j, b j = 4611686018427387904 ∨ b j ≤ 1459166279268040704) (hy : ∀ j, -1441151880758558720 ≤ y j) : ∀ c, c ≤ m → 0 ≤ tk z b y c ∧ tk z b y c ≤ 2909325359281340416
  | 0, _ => by simp [tk]
  | c + 1, hc => by
    have ih := tk_bd V hb hy c (by omega)
    have h1 := V.ok c (by omega)
    have h2 := hy (fr z c)
    simp only [tk]; split
    · rename_i g; rcases hb (to z c) with h | h
      · exact absurd h g.2
      · omega
    · exact ih
/-- the tight solution -/
def tx (z : Nat → Nat → Int) (m : Nat) (b y : Nat → Int) (j : Nat) : Int := if b j = 4611686018427387904 then y j + tk z b y m else b j
theorem F_edge {n m : Nat} {z : Nat → Nat → Int} (V : Vs n m z) {c : Nat} (hc : c < m) (k : Nat) : F z m k (fr z c) (to z c) ≤ z c 2 ∧ F z m k (fr z c) (to z c) ≠ 4611686018427387904 := by
  have h1 := F_le0 z m (fr z c) (to z c) k; have h2 := M0_edge z hc; have := V.ok c hc
  omega
theorem tx_pt {n m : Nat} {z : Nat → Nat → Int} {y : Nat → Int} (V : Vs n m z) (hy : Pt m z y) (a : Nat) : Pt m z (tx z m (F z m n a) y) := by
  intro c hc
  have n2 := V.n2
  obtain ⟨e1, e2⟩ := F_edge V hc n
  have T := tri V hy n n2 (fr z c) (V.fr_lt hc) a (to z c)
  have B := F_bd V hy n2 a (to z c)
  unfold tx
  by_cases h1 : F z m n a (fr z c) = 4611686018427387904
  · rw [if_pos h1]
    by_cases h2 : F z m n a (to z c) = 4611686018427387904
    · rw [if_pos h2]; have := hy c hc; omega
    · rw [if_neg h2]; have := tk_edge z (F z m n a) y hc h1 h2; omega
  · rw [if_neg h1]
    have h3 := T h1 e2
    have B2 := F_bd V hy n2 a (fr z c)
    have := V.ok c hc
    rw [if_neg (by omega)]; omega
theorem tx_at {n m : Nat} {z : Nat → Nat → Int} {y : Nat → Int} (a : Nat) {j : Nat} (h : F z m n a j ≠ 4611686018427387904) : tx z m (F z m n a) y j = F z m n a j := by unfold tx; rw [if_neg h]
/-- outside the variables there is no bound -/
theorem M0_out {n m : Nat} {z : Nat → Nat → Int} (V : Vs n m z) {i j : Nat} (h : n ≤ i ∨ n ≤ j) (hij : i ≠ j) : ∀ c, c ≤ m → M0 z c i j = 4611686018427387904
  | 0, _ => by simp only [M0]; rw [if_neg hij]
  | c + 1, hc => by
    have := V.fr_lt (i := c) (by omega); have := V.to_lt (i := c) (by omega)
    simp only [M0]; rw [if_neg (by omega)]; exact M0_out V h hij c (by omega)
theorem F_out {n m : Nat} {z : Nat → Nat → Int} (V : Vs n m z) {i j : Nat} (h : n ≤ i ∨ n ≤ j) (hij : i ≠ j) : ∀ k, k ≤ n → F z m k i j = 4611686018427387904
  | 0, _ => M0_out V h hij m (Nat.le_refl _)
  | k + 1, hk => by
    rcases F_succ z m k i j with g | ⟨g1, g2, _⟩
    · rw [g]; exact F_out V h hij k (by omega)
    · rcases h with h | h
      · exact absurd (F_out V (.inl h) (by omega) k (by omega)) g1
      · exact absurd (F_out V (.inr h) (by omega) k (by omega)) g2
/-- the closure is closed everywhere -/
theorem F_tri {n m : Nat} {z : Nat → Nat → Int} {y : Nat → Int} (V : Vs n m z) (hy : Pt m z y) (a i j : Nat) (h1 : F z m n i a ≠ 4611686018427387904) (h2 : F z m n a j ≠ 4611686018427387904) : F z m n i j ≤ F z m n i a + F z m n a j := by
  by_cases ha : a < n
  · exact tri V hy n V.n2 a ha i j h1 h2
  · by_cases e : i = a
    · subst e; rw [F_self hy]; omega
    · exact absurd (F_out V (.inr (by omega)) e n (Nat.le_refl _)) h1
/-- Add's number: the bounds f with one more constraint from A to B with the weight W -/
def ad (f : Nat → Nat → Int) (A B : Nat) (W : Int) (i j : Nat) : Int := if f i A ≠ 4611686018427387904 ∧ f B j ≠ 4611686018427387904 then min (f i j) (f i A + W + f B j) else f i j
def cyc (f : Nat → Nat → Int) (A B : Nat) (W : Int) : Prop := f B A ≠ 4611686018427387904 ∧ f B A + W < 0
instance (f : Nat → Nat → Int) (A B : Nat) (W : Int) : Decidable (cyc f A B W) := by unfold cyc; infer_instance
section
variable {n m : Nat} {z : Nat → Nat → Int} {y : Nat → Int}
theorem ad_le (f : Nat → Nat → Int) (A B : Nat) (W : Int) (i j : Nat) : ad f A B W i j ≤ f i j := by unfold ad; split <;> omega
theorem ad_two (f : Nat → Nat → Int) (A B : Nat) (W : Int) (i j : Nat) : ad f A B W i j = f i j ∨ (f i A ≠ 4611686018427387904 ∧ f B j ≠ 4611686018427387904 ∧ ad f A B W i j = f i A + W + f B j) := by
  unfold ad; split
  · rename_i h
    by_cases g : f i j ≤ f i A + W + f B j
    · exact .inl (by omega)
    · exact .inr ⟨h.1, h.2, by omega⟩
  · exact .inl rfl
theorem ad_sum (f : Nat → Nat → Int) (A B : Nat) (W : Int) (i j : Nat) (h1 : f i A ≠ 4611686018427387904) (h2 : f B j ≠ 4611686018427387904) : ad f A B W i j ≤ f i A + W + f B j := by
  unfold ad; rw [if_pos ⟨h1, h2⟩]; omega
theorem Vs.less (V : Vs n (m + 1) z) : Vs n m z := by
  constructor
  · exact V.n1
  · exact V.n2
  · have := V.m2; omega
  · intro i hi; exact V.ok i (by omega)
theorem Pt.less (h : Pt (m + 1) z y) : Pt m z y := fun c hc => h c (by omega)
/-- the sum of two bounds that are none of None's -/
theorem ad_closed (V : Vs n (m + 1) z) (hy : Pt m z y) (hc : ¬ cyc (F z m n) (fr z m) (to z m) (z m 2)) (a i j : Nat) (h1 : ad (F z m n) (fr z m) (to z m) (z m 2) i a ≠ 4611686018427387904) (h2 : ad (F z m n) (fr z m) (to z m) (z m 2) a j ≠ 4611686018427387904) :
    ad (F z m n) (fr z m) (to z m) (z m 2) i j ≤ ad (F z m n) (fr z m) (to z m) (z m 2) i a + ad (F z m n) (fr z m) (to z m) (z m 2) a j := by
  have V' := V.less
  have n2 := V.n2
  have T := fun a i j => F_tri V' hy a i j
  generalize hA : fr z m = A at *
  generalize hB : to z m = B at *
  generalize hW : z m 2 = W at *
  have bd := fun i j => F_bd V' hy n2 i j
  generalize hf : F z m n = f at *
  have lub : ∀ i j, f i j ≤ 1459166279268040704 ∨ f i j = 4611686018427387904 := fun i j => by have := bd i j; omega
  have S := ad_sum f A B W i j
  have L := ad_le f A B W i j
  rcases ad_two f A B W i a with e1 | ⟨p1, p2, e1⟩ <;> rcases ad_two f A B W a j with e2 | ⟨q1, q2, e2⟩
  · rw [e1] at h1 ⊢; rw [e2] at h2 ⊢
    have := T a i j h1 h2; omega
  · rw [e1] at h1 ⊢; rw [e2]
    have t := T a i A h1 q1
    have l1 := lub i a; have l2 := lub a A; have l3 := lub i A
    have := S (by omega) q2; omega
  · rw [e1]; rw [e2] at h2 ⊢
    have t := T a B j p2 h2
    have l1 := lub B a; have l2 := lub a j; have l3 := lub B j
    have := S p1 (by omega); omega
  · rw [e1, e2]
    have t := T a B A p2 q1
    have l1 := lub B a; have l2 := lub a A; have l3 := lub B A
    have := S p1 q2
    have : ¬ (f B A + W < 0) := fun g => hc ⟨by omega, g⟩
    omega
theorem ad_self (hy : Pt m z y) (A B : Nat) (W : Int) (i : Nat) : ad (F z m n) A B W i i ≤ 0 := by
  have := ad_le (F z m n) A B W i i; rw [F_self hy] at this; exact this
theorem ad_edge (V : Vs n (m + 1) z) (hy : Pt m z y) {c : Nat} (hc : c < m + 1) : ad (F z m n) (fr z m) (to z m) (z m 2) (fr z c) (to z c) ≤ z c 2 := by
  by_cases e : c = m
  · subst e
    have h1 := F_self hy n (fr z c); have h2 := F_self hy n (to z c)
    have := ad_sum (F z c n) (fr z c) (to z c) (z c 2) (fr z c) (to z c) (by omega) (by omega)
    omega
  · have := (F_edge V.less (c := c) (by omega) n).1
    have := ad_le (F z m n) (fr z m) (to z m) (z m 2) (fr z c) (to z c)
    omega
/-- the column's least number -/
def colmin (g : Nat → Nat → Int) (j : Nat) : Nat → Int
  | 0 => 0
  | i + 1 => min (colmin g j i) (g i j)
theorem colmin_le (g : Nat → Nat → Int) (j : Nat) {i : Nat} : ∀ {n}, i < n → colmin g j n ≤ g i j
  | 0, h => by omega
  | n + 1, h => by
    by_cases e : i = n
    · subst e; simp only [colmin]; omega
    · have := colmin_le g j (i := i) (n := n) (by omega); simp only [colmin]; omega
theorem colmin_from (g : Nat → Nat → Int) (j : Nat) : ∀ n, (colmin g j n ≤ 0) ∧ (colmin g j n = 0 ∨ ∃ i, i < n ∧ colmin g j n = g i j)
  | 0 => ⟨Int.le_refl _, .inl rfl⟩
  | n + 1 => by
    obtain ⟨h, h2⟩ := colmin_from g j n
    simp only [colmin]
    refine ⟨by omega, ?_⟩
    by_cases c : colmin g j n ≤ g n j
    · rw [show min (colmin g j n) (g n j) = colmin g j n by omega]
      rcases h2 with h2 | ⟨i, hi, h2⟩
      · exact .inl h2
      · exact .inr ⟨i, by omega, h2⟩
    · exact .inr ⟨n, by omega, by omega⟩
/-- where Add finds no cycle there is a solution -/
theorem ad_pt (V : Vs n (m + 1) z) (hy : Pt m z y) (hc : ¬ cyc (F z m n) (fr z m) (to z m) (z m 2)) : ∃ y', Pt (m + 1) z y' := by
  refine ⟨fun j => colmin (ad (F z m n) (fr z m) (to z m) (z m 2)) j n, fun c hcm => ?_⟩
  have E := ad_edge V hy hcm
  have hu := V.fr_lt hcm
  have W := V.ok c hcm
  have D := fun i h1 h2 => ad_closed V hy hc (fr z c) i (to z c) h1 h2
  have Z := ad_self (n := n) hy (fr z m) (to z m) (z m 2) (fr z c)
  generalize hg : ad (F z m n) (fr z m) (to z m) (z m 2) = g at *
  dsimp
  obtain ⟨k1, k2⟩ := colmin_from g (fr z c) n
  have : ∃ i, i < n ∧ g i (fr z c) ≤ colmin g (fr z c) n := by
    rcases k2 with k2 | ⟨i, hi, k2⟩
    · exact ⟨fr z c, hu, by omega⟩
    · exact ⟨i, hi, by omega⟩
  obtain ⟨i, hi, hle⟩ := this
  have := colmin_le g (to z c) hi
  have := D i (by omega) (by omega)
  omega
/-- Add of the bounds are the bounds with one more constraint -/
theorem F_more (V : Vs n (m + 1) z) (hy : Pt (m + 1) z y) (i j : Nat) : F z (m + 1) n i j = ad (F z m n) (fr z m) (to z m) (z m 2) i j ∧ ¬ cyc (F z m n) (fr z m) (to z m) (z m 2) := by
  have V' := V.less
  have hy' := hy.less
  have n2 := V.n2
  have hc : ¬ cyc (F z m n) (fr z m) (to z m) (z m 2) := fun ⟨c1, c2⟩ => by
    have := F_lo hy' n _ _ c1; have := hy m (by omega); omega
  refine ⟨?_, hc⟩
  have up : ∀ i j, F z (m + 1) n i j ≤ F z m n i j := fun i j => by
    by_cases h : F z m n i j = 4611686018427387904
    · rw [h]; exact F_top V _ _ _
    · exact F_greatest V' hy' (H := F z (m + 1) n) (fun i => by rw [F_self hy]; omega) (fun c hc => (F_edge V (by omega) n).1) (fun a i j => F_tri V hy a i j) n n2 i j h
  have le1 : F z (m + 1) n i j ≤ ad (F z m n) (fr z m) (to z m) (z m 2) i j := by
    rcases ad_two (F z m n) (fr z m) (to z m) (z m 2) i j with e | ⟨p1, p2, e⟩
    · rw [e]; exact up i j
    · rw [e]
      have u1 := up i (fr z m); have u2 := up (to z m) j
      have b1 := F_bd V' hy' n2 i (fr z m); have b2 := F_bd V' hy' n2 (to z m) j
      obtain ⟨e1, e2⟩ := F_edge V (c := m) (by omega) n
      have W := V.ok m (by omega)
      have t1 := F_tri V hy (fr z m) i (to z m) (by omega) e2
      have t2 := F_tri V hy (to z m) i j (by omega) (by omega)
      omega
  by_cases h : F z (m + 1) n i j = 4611686018427387904
  · have := ad_le (F z m n) (fr z m) (to z m) (z m 2) i j
    have := F_top V' n i j
    omega
  · have := F_greatest V hy (H := ad (F z m n) (fr z m) (to z m) (z m 2)) (ad_self hy' _ _ _) (fun c hc => ad_edge V hy' hc) (fun a i j => ad_closed V hy' hc a i j) n n2 i j h
    omega
end
end Go.Proofs.Ytieggiplbghecaa.Bx
