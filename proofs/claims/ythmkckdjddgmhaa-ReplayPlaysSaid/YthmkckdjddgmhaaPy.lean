/- Plain laws of layer 45: the reference's list of numbers. -/
import Derived.Test.YthmkckdjddgmhaaPk
set_option linter.unusedVariables false
set_option linter.unusedSimpArgs false
namespace Go.Proofs.Ythmkckdjddgmhaa.Px
/-- l has the numbers of s that are in the window, each once -/
structure RI (size next : Int) (s l : List Int) : Prop where
  nd : l.Nodup
  mem : ∀ x, x ∈ l ↔ x ∈ s ∧ next - 1 - size < x
theorem RI.nil (size next : Int) : RI size next [] [] := ⟨List.nodup_nil, fun x => by simp⟩
theorem nodup_snoc {l : List Int} {n : Int} (h : l.Nodup) (hn : n ∉ l) : (l ++ [n]).Nodup := by
  rw [List.nodup_append]
  exact ⟨h, by simp, fun a ha b hb e => by simp at hb; subst hb; subst e; exact hn ha⟩
theorem RI.up {size next n : Int} {s l : List Int} (R : RI size next s l) (hs : 1 ≤ size) (hn : next ≤ n) (bd : ∀ x ∈ s, x < next) : RI size (n + 1) (s ++ [n]) ((l ++ [n]).filter fun x => decide (n - size < x)) := by
  have hno : n ∉ l := fun h => by have := bd n ((R.mem n).1 h).1; omega
  refine ⟨(nodup_snoc R.nd hno).sublist List.filter_sublist, fun x => ?_⟩
  simp only [List.mem_filter, List.mem_append, List.mem_singleton, decide_eq_true_eq, R.mem]
  constructor
  · rintro ⟨⟨h, _⟩ | h, h2⟩
    · exact ⟨.inl h, by omega⟩
    · exact ⟨.inr h, by omega⟩
  · rintro ⟨h | h, h2⟩
    · exact ⟨.inl ⟨h, by omega⟩, by omega⟩
    · exact ⟨.inr h, by omega⟩
theorem RI.low {size next n : Int} {s l : List Int} (R : RI size next s l) (hn : next - 1 - size < n) (hf : n ∉ l) : RI size next (s ++ [n]) (l ++ [n]) := by
  refine ⟨nodup_snoc R.nd hf, fun x => ?_⟩
  simp only [List.mem_append, List.mem_singleton, R.mem]
  constructor
  · rintro (⟨h, h2⟩ | h)
    · exact ⟨.inl h, h2⟩
    · exact ⟨.inr h, by omega⟩
  · rintro ⟨h | h, h2⟩
    · exact .inl ⟨h, h2⟩
    · exact .inr h
/-- the reference's list behind an accepted number -/
def accL (size next n : Int) (l : List Int) : List Int := if next ≤ n then (l ++ [n]).filter (fun x => decide (n - size < x)) else l ++ [n]
theorem accL_up {size next n : Int} {l : List Int} (h : next ≤ n) : accL size next n l = (l ++ [n]).filter (fun x => decide (n - size < x)) := by unfold accL; rw [if_pos h]
theorem accL_low {size next n : Int} {l : List Int} (h : ¬ next ≤ n) : accL size next n l = l ++ [n] := by unfold accL; rw [if_neg h]
theorem accL_le (size next n : Int) (l : List Int) : (accL size next n l).length ≤ l.length + 1 := by
  unfold accL
  split
  · have := List.length_filter_le (fun x => decide (n - size < x)) (l ++ [n]); simp at this ⊢; omega
  · simp
theorem miss_card (B : Nat) : ∀ M : Nat, ((List.range M).filter fun d => B.testBit d).length + miss B M = M
  | 0 => rfl
  | M + 1 => by
    have := miss_card B M
    rw [List.range_succ, List.filter_append, List.length_append, miss]
    cases h : B.testBit M <;> simp [h] <;> omega
theorem RI.card {size next : Int} {B : Nat} {s l : List Int} (R : RI size next s l) (S : Seen next B s) (s0 : 0 ≤ size) (s1 : size ≤ 256) (n0 : 0 ≤ next) : (l.length : Int) + miss B (min size next).toNat = min size next := by
  obtain ⟨M, hM⟩ : ∃ M : Nat, (M : Int) = min size next := ⟨(min size next).toNat, by omega⟩
  have hM' : (min size next).toNat = M := by omega
  rw [hM']
  have key : l.Perm (((List.range M).filter fun d => B.testBit d).map fun d : Nat => next - 1 - (d : Int)) := by
    refine (List.perm_ext_iff_of_nodup R.nd ?_).2 fun x => ?_
    · refine List.Pairwise.map _ (fun a b h e => h (by omega)) ((List.nodup_range (n := M)).sublist List.filter_sublist)
    · simp only [R.mem, List.mem_map, List.mem_filter, List.mem_range]
      constructor
      · rintro ⟨h, h2⟩
        have b := S.bd x h
        refine ⟨(next - 1 - x).toNat, ⟨by omega, (S.bit _ (by omega)).2 ?_⟩, by omega⟩
        rw [show next - 1 - ((next - 1 - x).toNat : Int) = x by omega]; exact h
      · rintro ⟨d, ⟨hd, hb⟩, rfl⟩
        exact ⟨(S.bit d (by omega)).1 hb, by omega⟩
  have e := key.length_eq
  rw [List.length_map] at e
  have := miss_card B M
  omega
end Go.Proofs.Ythmkckdjddgmhaa.Px
