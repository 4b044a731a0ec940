/- Plain laws of layer 45: which numbers the bits stand for. -/
import Derived.Test.YthmkckdjddgmhaaPx
set_option linter.unusedVariables false
set_option linter.unusedSimpArgs false
namespace Go.Proofs.Ythmkckdjddgmhaa.Px
/-- the bits are those of the numbers in l -/
structure Seen (next : Int) (B : Nat) (l : List Int) : Prop where
  bit : ∀ d : Nat, d < 256 → (B.testBit d = true ↔ next - 1 - d ∈ l)
  bd : ∀ x ∈ l, 0 ≤ x ∧ x < next
theorem Seen.nil : Seen 0 0 [] := ⟨fun d _ => by simp, fun x h => by simp at h⟩
theorem Seen.up {next : Int} {B : Nat} {l : List Int} (S : Seen next B l) {n : Int} (h0 : 0 ≤ next) (hn : next ≤ n) : Seen (n + 1) (bitsOf next B n) (l ++ [n]) := by
  unfold bitsOf
  rw [if_pos hn]
  refine ⟨fun d hd => ?_, fun x hx => ?_⟩
  · rw [put, Nat.testBit_or, testBit_up, Nat.testBit_two_pow, List.mem_append, List.mem_singleton, show n + 1 - 1 - (d : Int) = n - d by omega]
    by_cases h : d = 0
    · subst h
      simp
    · have e1 : ¬ (0 = d) := by omega
      have e2 : ¬ (n - (d : Int) = n) := by omega
      by_cases hs : (n + 1 - next).toNat ≤ d
      · have := S.bit (d - (n + 1 - next).toNat) (by omega)
        have e3 : next - 1 - ((d - (n + 1 - next).toNat : Nat) : Int) = n - (d : Int) := by omega
        rw [e3] at this
        simp only [hd, hs, e1, e2, this, decide_true, decide_false, Bool.true_and, Bool.or_false, or_false]
      · have : n - (d : Int) ∉ l := fun h => by have := S.bd _ h; omega
        simp only [hs, e1, e2, this, decide_false, Bool.false_and, Bool.and_false, Bool.or_false, or_false, Bool.false_eq_true]
  · rcases List.mem_append.1 hx with h | h
    · have := S.bd _ h; omega
    · simp at h; omega
theorem Seen.low {next : Int} {B : Nat} {l : List Int} (S : Seen next B l) {n : Int} (h0 : 0 ≤ n) (hn : ¬ next ≤ n) (hw : next - 1 - n < 256) : Seen next (bitsOf next B n) (l ++ [n]) := by
  unfold bitsOf
  rw [if_neg hn]
  refine ⟨fun d hd => ?_, fun x hx => ?_⟩
  · rw [put, Nat.testBit_or, Nat.testBit_two_pow, List.mem_append, List.mem_singleton]
    have := S.bit d hd
    by_cases h : (next - 1 - n).toNat = d
    · have e : next - 1 - (d : Int) = n := by omega
      simp [h, e]
    · have e : ¬ (next - 1 - (d : Int) = n) := by omega
      simp [h, e, this]
  · rcases List.mem_append.1 hx with h | h
    · exact S.bd _ h
    · simp at h; omega
theorem Seen.refuse {next : Int} {B : Nat} {l : List Int} (S : Seen next B l) {size n : Int} (s1 : size ≤ 256) (h0 : 0 ≤ n) (h1 : n ≤ 4611686018427387904) :
    refuse size next B n = if n ≤ next - 1 - size then 17 else if n ∈ l then 10 else 0 := by
  have hr : ¬ (n < 0 ∨ 4611686018427387904 < n) := by omega
  unfold Px.refuse
  rw [if_neg hr]
  by_cases hs : size ≤ next - 1 - n
  · have hs' : n ≤ next - 1 - size := by omega
    rw [if_pos hs, if_pos hs']
  · have hs' : ¬ n ≤ next - 1 - size := by omega
    rw [if_neg hs, if_neg hs']
    by_cases hb : 0 ≤ next - 1 - n
    · have := S.bit (next - 1 - n).toNat (by omega)
      rw [show next - 1 - ((next - 1 - n).toNat : Int) = n by omega] at this
      by_cases hm : n ∈ l
      · rw [if_pos hm, if_pos ⟨hb, this.2 hm⟩]
      · rw [if_neg hm, if_neg (fun h => hm (this.1 h.2))]
    · have hb' : ¬ (0 ≤ next - 1 - n ∧ B.testBit (next - 1 - n).toNat = true) := fun h => hb h.1
      rw [if_neg hb', if_neg (fun hm => by have := S.bd _ hm; omega)]
theorem Seen.stale {next : Int} {B : Nat} {l : List Int} (S : Seen next B l) {size n : Int} (s1 : size ≤ 256) (h0 : 0 ≤ n) (h1 : n ≤ 4611686018427387904) (h : n ≤ next - 1 - size) : Px.refuse size next B n = 17 := by
  rw [S.refuse s1 h0 h1, if_pos h]
theorem Seen.twice {next : Int} {B : Nat} {l : List Int} (S : Seen next B l) {size n : Int} (s1 : size ≤ 256) (h0 : 0 ≤ n) (h1 : n ≤ 4611686018427387904) (h : ¬ n ≤ next - 1 - size) (hm : n ∈ l) : Px.refuse size next B n = 10 := by
  rw [S.refuse s1 h0 h1, if_neg h, if_pos hm]
theorem Seen.fresh {next : Int} {B : Nat} {l : List Int} (S : Seen next B l) {size n : Int} (s1 : size ≤ 256) (h0 : 0 ≤ n) (h1 : n ≤ 4611686018427387904) (h : ¬ n ≤ next - 1 - size) (hm : n ∉ l) : Px.refuse size next B n = 0 := by
  rw [S.refuse s1 h0 h1, if_neg h, if_neg hm]
theorem nextOf_up {next n : Int} (h : next ≤ n) : nextOf next n = n + 1 := by unfold nextOf; rw [if_pos h]
theorem nextOf_low {next n : Int} (h : ¬ next ≤ n) : nextOf next n = next := by unfold nextOf; rw [if_neg h]
/-- counted from below: the numbers of the window that are not in l -/
theorem miss_step {next : Int} {B : Nat} {l : List Int} (S : Seen next B l) {M j : Nat} (hj : j < M) (hM : M ≤ 256) :
    miss B (M - j) = miss B (M - (j + 1)) + (if next - 1 - ((M - (j + 1) : Nat) : Int) ∈ l then 0 else 1) := by
  rw [show M - j = (M - (j + 1)) + 1 by omega, miss]
  have := S.bit (M - (j + 1)) (by omega)
  by_cases h : B.testBit (M - (j + 1)) = true
  · rw [if_pos h, if_pos (this.1 h)]
  · rw [if_neg h, if_neg (fun hm => h (this.2 hm))]
/-- blocks: where the next number stands after j numbers of a block of L numbers from b on, forwards or (r) backwards -/
def nx (r : Bool) (b : Int) (L j : Nat) : Int := if r then (if j = 0 then b else b + L) else b + j
def blk (r : Bool) (b : Int) (L j : Nat) (x : Int) : Prop := if r then b + L - j ≤ x ∧ x < b + L else b ≤ x ∧ x < b + j
def num (r : Bool) (b : Int) (L j : Nat) : Int := if r then b + L - 1 - j else b + j
theorem block_step {r : Bool} {b next size : Int} {L j B : Nat} {l l' : List Int} (b0 : 0 ≤ b) (b1 : b ≤ 1000000) (hL : L ≤ size) (hs : size ≤ 256) (hj : j < L) (S : Seen next B l') (hn : next = nx r b L j)
    (hm : ∀ x, x ∈ l' ↔ x ∈ l ∨ blk r b L j x) (hl : ∀ x ∈ l, x < b) :
    refuse size next B (num r b L j) = 0 ∧ Seen (nextOf next (num r b L j)) (bitsOf next B (num r b L j)) (l' ++ [num r b L j]) ∧ nextOf next (num r b L j) = nx r b L (j + 1) ∧ (∀ x, x ∈ l' ++ [num r b L j] ↔ x ∈ l ∨ blk r b L (j + 1) x) := by
  have n0 : 0 ≤ next := by subst hn; unfold nx; split <;> (try split) <;> omega
  have z0 : 0 ≤ num r b L j ∧ num r b L j ≤ 2000000 := by unfold num; split <;> omega
  have hnot : num r b L j ∉ l' := by
    intro h
    rcases (hm _).1 h with h | h
    · have := hl _ h; unfold num at this; split at this <;> omega
    · unfold blk num at h; split at h <;> omega
  have hst : next - 1 - num r b L j < size := by subst hn; unfold nx num; split <;> (try split) <;> omega
  refine ⟨S.fresh hs z0.1 (by omega) (by omega) hnot, ?_, ?_, fun x => ?_⟩
  · by_cases hu : next ≤ num r b L j
    · rw [nextOf_up hu]; exact S.up n0 hu
    · rw [nextOf_low hu]; exact S.low z0.1 hu (by omega)
  · by_cases hu : next ≤ num r b L j
    · rw [nextOf_up hu]; subst hn; unfold nx num at *; cases r <;> simp at * <;> (try split at hu) <;> omega
    · rw [nextOf_low hu]; subst hn; unfold nx num at *; cases r <;> simp at * <;> (try split) <;> omega
  · rw [List.mem_append, List.mem_singleton, hm x]
    have : blk r b L (j + 1) x ↔ blk r b L j x ∨ x = num r b L j := by unfold blk num; cases r <;> simp <;> omega
    rw [this, or_assoc]
theorem miss_zero {next : Int} {B : Nat} {l : List Int} (S : Seen next B l) : ∀ M : Nat, M ≤ 256 → (∀ d : Nat, d < M → next - 1 - d ∈ l) → miss B M = 0
  | 0, _, _ => rfl
  | M + 1, h, hf => by
    rw [miss, miss_zero S M (by omega) (fun d hd => hf d (by omega)), if_pos ((S.bit M (by omega)).2 (hf M (by omega)))]
end Go.Proofs.Ythmkckdjddgmhaa.Px
