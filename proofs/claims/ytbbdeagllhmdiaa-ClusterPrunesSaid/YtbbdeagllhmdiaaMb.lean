/- A set of integers that is kept in a map[int]bool that the call makes: look-ups and stores. -/
import Derived.Test.YtbbdeagllhmdiaaHp
import Derived.Maps.OwnOps
import Derived.Maps.OwnSet
import Derived.Lib.Hide
set_option linter.unusedVariables false
set_option linter.unusedSimpArgs false
namespace Go.Proofs.Ytbbdeagllhmdiaa.Mb
open Go.RowKit Go.Maps
theorem lawK : Keyed Try.prog 3 := int_keyed Try.underlying3
theorem zeroB (w : World) : (zeroValue 4).run Try.prog w = .ok (.bool false) w := by kernel_rfl
/-- block b is a map of at most n entries, true at the numbers of l alone -/
def Has (w : World) (b n : Nat) (l : List Int) : Prop :=
  ∃ D : DataW Unit, w.ownsMap Try.prog 3 (plainElem Try.prog 4) b n D ∧ IsMap D ∧ ∀ id : Int, D.atKey (.int .i64 id) (.lit (.bool false)) = .lit (.bool (decide (id ∈ l)))
theorem Has.made (w : World) : Has (w.alloc (.map #[] 0)) w.heap.size 0 [] :=
  ⟨_, World.ownsMap_made _ _ _ _, ⟨[], rfl⟩, fun id => by simp [DataW.atKey]⟩
theorem plainB_inv {e : TypeId} (he : Try.prog.underlying e = some .bool) {v : Value} {z : DataW Unit × List MemPlace} (h : plainElem Try.prog e v = some z) : ∃ x, v = .bool x ∧ z.1 = .lit (.bool x) := by
  unfold plainElem at h
  rw [he] at h
  cases v <;> simp at h
  exact ⟨_, rfl, by rw [← h]⟩
/-- seen[id] -/
theorem look {w : World} {ops : Array Oper} {rest : List Oper} {o : Oper} {a : Act} {Q : Exit → Act → World → Prop} {b n : Nat} {l : List Int} {id : Int} (hg : o.guard = none) (m x : Operand)
    (hop : o.op = Op.lookup 49 m x false) (hm : a.eval m = .map (some b)) (hx : a.eval x = .int .i64 id) (hw : (Lit.int .i64 id).wf = true) (H : Has w b n l) {c : Bool} (hc : decide (id ∈ l) = c)
    (hK : wpList Try.prog ops Q rest (a.put o.dst (.bool c)) w) : wpList Try.prog ops Q (o :: rest) a w := by
  refine wpList_plain hg fun K' hK' => ?_
  obtain ⟨D, hown, _, hat⟩ := H
  obtain ⟨v, ps, hrun, hv⟩ := hown.lookup lawK Try.underlying49 (zeroB w) (plainElem_bool Try.underlying4 false) (keyOf_int_mk Try.underlying3 hw)
  obtain ⟨y, rfl, hy⟩ := plainB_inv Try.underlying4 hv
  have e : y = c := by
    have := hat id
    rw [show D.atKey (.int .i64 id) (.lit (.bool false)) = .lit (.bool y) from hy, hc] at this
    simpa using this
  subst e
  unfold Oper.wp
  simp [execOp, hop, hm, hx, hrun, Result.andThen]
  exact hK' _ _ hK
/-- seen[id] = true -/
theorem store {w : World} {ops : Array Oper} {rest : List Oper} {o : Oper} {a : Act} {Q : Exit → Act → World → Prop} {b n : Nat} {l : List Int} {id : Int} (hg : o.guard = none) (m x v : Operand)
    (hop : o.op = Op.mapUpdate 49 m x v) (hm : a.eval m = .map (some b)) (hx : a.eval x = .int .i64 id) (hv : a.eval v = .bool true) (hw : (Lit.int .i64 id).wf = true) (H : Has w b n l) (hn : n ≤ 1000000)
    (hK : ∀ w', Has w' b (n + 1) (l ++ [id]) → w.grownBy w' (some b) → wpList Try.prog ops Q rest (a.put o.dst undef) w') : wpList Try.prog ops Q (o :: rest) a w := by
  obtain ⟨D, hown, hM, hat⟩ := H
  refine wpList_mapUpdate_own w hg m x v 49 hop 3 4 lawK Try.underlying49 _ b n D hm hown (by unfold maxLen; omega) _ _ _ hx hv (keyOf_int_mk Try.underlying3 hw) _ [] (plainElem_bool Try.underlying4 true) (fun w' h1 h2 => hK w' ⟨_, h1, ?_, fun id' => ?_⟩ h2)
  · obtain ⟨es, rfl⟩ := hM
    exact ⟨_, rfl⟩
  · by_cases e : id' = id
    · subst e
      rw [atKey_put_same hM (lawK.key (keyOf_int_mk Try.underlying3 hw))]
      simp
    · rw [atKey_put_other (fun h => e (by simpa using h)), hat]
      simp [e]
/-- the map's block is none of cells -/
theorem Has.ne {w : World} {b c n : Nat} {l : List Int} {vs : Array Value} {T : TypeId} {f : Nat × Nat} (h : Has w b n l) (hc : w.heap[c]? = some (.cells vs T f)) : c ≠ b := by
  intro e
  subst e
  obtain ⟨D, ⟨es, clock, hb, _⟩, _⟩ := h
  rw [hc] at hb
  simp at hb
theorem Has.of_block {w w' : World} {b n : Nat} {l : List Int} (h : Has w b n l) (hs : w'.heap[b]? = w.heap[b]?) : Has w' b n l := by
  obtain ⟨D, ⟨es, clock, hb, r⟩, r2⟩ := h
  exact ⟨D, ⟨es, clock, by rw [hs]; exact hb, r⟩, r2⟩
theorem Has.lt {w : World} {b n : Nat} {l : List Int} (h : Has w b n l) : b < w.heap.size := by
  obtain ⟨D, ⟨es, clock, hb, _⟩, _⟩ := h
  exact (Array.getElem?_eq_some_iff.1 hb).1
end Go.Proofs.Ytbbdeagllhmdiaa.Mb
