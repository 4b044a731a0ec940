/- Plain laws: the mean lies between, Dist is the least, the jitter's bound. -/
import Derived.Test.YtdnpidcchcefeaaCp
set_option linter.unusedVariables false
set_option linter.unusedSimpArgs false
namespace Go.Proofs.Ytdnpidcchcefeaa.Cx
def lowN (z : Nat → Nat → Int) : Nat → Int
  | 0 => z 0 1
  | k + 1 => min (lowN z k) (z k 1)
def highN (z : Nat → Nat → Int) : Nat → Int
  | 0 => z 0 1
  | k + 1 => max (highN z k) (z k 1)
theorem low_le (z : Nat → Nat → Int) : ∀ n, lowN z n ≤ z 0 1 ∧ ∀ i, i < n → lowN z n ≤ z i 1
  | 0 => ⟨Int.le_refl _, fun i hi => by omega⟩
  | n + 1 => by
    obtain ⟨a, b⟩ := low_le z n
    refine ⟨by unfold lowN; omega, fun i hi => ?_⟩
    by_cases e : i = n
    · subst e; unfold lowN; omega
    · have := b i (by omega); unfold lowN; omega
theorem high_ge (z : Nat → Nat → Int) : ∀ n, z 0 1 ≤ highN z n ∧ ∀ i, i < n → z i 1 ≤ highN z n
  | 0 => ⟨Int.le_refl _, fun i hi => by omega⟩
  | n + 1 => by
    obtain ⟨a, b⟩ := high_ge z n
    refine ⟨by unfold highN; omega, fun i hi => ?_⟩
    by_cases e : i = n
    · subst e; unfold highN; omega
    · have := b i (by omega); unfold highN; omega
theorem ends_bd {n : Nat} {z : Nat → Nat → Int} (h : chk n z = 0) (hn : 0 < n) : ∀ k, k ≤ n → -4503599627370496 ≤ lowN z k ∧ lowN z k ≤ 4503599627370496 ∧ -4503599627370496 ≤ highN z k ∧ highN z k ≤ 4503599627370496
  | 0, _ => by
    obtain ⟨_, _, h3⟩ := chk_ok h
    have := h3 0 hn
    unfold lowN highN; omega
  | k + 1, hk => by
    obtain ⟨_, _, h3⟩ := chk_ok h
    have := h3 k (by omega)
    have := ends_bd h hn k (by omega)
    unfold lowN highN; omega
theorem mean_between {n : Nat} {z : Nat → Nat → Int} (h : chk n z = 0) (hn : 0 < n) : lowN z n - n ≤ mean n z ∧ mean n z ≤ highN z n := by
  have a := low_le z n
  have b := high_ge z n
  have e := ends_bd h hn n (Nat.le_refl _)
  have f := chk_ok h
  have f0 := f.2.2 0 hn
  have := ws_bd (x := dif z) h hn (lo := lowN z n - z 0 1) (hi := highN z n - z 0 1) (by omega) (by omega) (by omega) (by omega) (fun i hi => by have := a.2 i hi; have := b.2 i hi; unfold dif; omega) n (Nat.le_refl _)
  unfold mean; rw [if_pos ⟨h, hn⟩]; omega
theorem far_max (a m : Int) : far a m = max (m - a) (a - m) := by unfold far Fx.iabs; split <;> omega
theorem least_le {z : Nat → Nat → Int} {m : Int} : ∀ {n : Nat} {i : Nat}, i < n → leastN z m n ≤ z i 2 + far (z i 1) m
  | 0, i, hi => by omega
  | n + 1, i, hi => by
    by_cases e : i = n
    · subst e; unfold leastN; omega
    · have := least_le (z := z) (m := m) (n := n) (i := i) (by omega)
      unfold leastN; omega
theorem dist_le {n : Nat} {z : Nat → Nat → Int} (h : chk n z = 0) (hn : 0 < n) {i : Nat} (hi : i < n) : dist n z ≤ z i 2 + max (mean n z - z i 1) (z i 1 - mean n z) := by
  have := least_le (z := z) (m := mean n z) hi
  unfold dist; rw [if_pos ⟨h, hn⟩, ← far_max]; exact this
theorem dist_bd {n : Nat} {z : Nat → Nat → Int} (h : chk n z = 0) (hn : 0 < n) : 0 ≤ dist n z ∧ dist n z ≤ 72057594037927936 := by
  unfold dist; rw [if_pos ⟨h, hn⟩]; exact leastN_bd h hn n (Nat.le_refl _)
theorem jit_bd {n : Nat} {z : Nat → Nat → Int} (h : chk n z = 0) (hn : 0 < n) : 0 ≤ jit n z ∧ jit n z ≤ max (highN z n - mean n z) (mean n z - lowN z n) + 1 := by
  obtain ⟨m1, m2⟩ := mean_between h hn
  have a := low_le z n
  have b := high_ge z n
  have e : jit n z = Fx.isq (ws n z (sq n z) n) := by unfold jit; rw [if_pos ⟨h, hn⟩]
  obtain ⟨D, hD⟩ : ∃ D, max (highN z n - mean n z) (mean n z - lowN z n) = D := ⟨_, rfl⟩
  have d0 : 0 ≤ D := by omega
  obtain ⟨E, hE⟩ : ∃ E, min D 1073741824 = E := ⟨_, rfl⟩
  have e0 : 0 ≤ E := by omega
  have e1 : E ≤ 1073741824 := by omega
  have ee : E * E ≤ 1152921504606846976 := by have := Int.mul_le_mul e1 e1 e0 (by omega); omega
  have e00 : 0 ≤ E * E := Int.mul_nonneg e0 e0
  have hx : ∀ i, i < n → 0 ≤ sq n z i ∧ sq n z i ≤ E * E := by
    intro i hi
    refine ⟨(sq_bd n z i).1, ?_⟩
    have k0 := near_bd (z i 1) (mean n z)
    have k1 : near (z i 1) (mean n z) ≤ E := by
      have := a.2 i hi; have := b.2 i hi
      unfold near; rw [far_max]; omega
    unfold sq
    exact Int.mul_le_mul k1 k1 k0.1 e0
  have s1 := (ws_bd (x := sq n z) h hn (lo := 0) (hi := E * E) (by omega) e00 (by omega) (by omega) hx n (Nat.le_refl _)).2
  have s0 := (sqs_bd h hn n (Nat.le_refl _)).1
  rw [hD, e]
  refine ⟨Fx.isq_nonneg _, ?_⟩
  have := Fx.isq_le (n := ws n z (sq n z) n) e0 s0 (by rw [Int.add_mul, Int.mul_add]; omega)
  omega
end Go.Proofs.Ytdnpidcchcefeaa.Cx
