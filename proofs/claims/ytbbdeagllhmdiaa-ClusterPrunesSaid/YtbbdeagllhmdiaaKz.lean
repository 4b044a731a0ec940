/- Lists that are turned; for the law ClusterIndependent of layer 25. -/
import Derived.Test.YtbbdeagllhmdiaaKy
set_option linter.unusedVariables false
set_option linter.unusedSimpArgs false
namespace Go.Proofs.Ytbbdeagllhmdiaa.CxW
open Go.RowKit
open Go.Proofs.Ytbbdeagllhmdiaa.Kx
/-- the places of a list of n, from place t on and round its end -/
theorem turn_perm (n t : Nat) (h : 0 < n) : ((List.range n).map fun i => (i + t) % n).Perm (List.range n) := by
  obtain ⟨s, hs⟩ : ∃ s, t % n = s := ⟨_, rfl⟩
  have sl : s < n := by rw [← hs]; exact Nat.mod_lt _ h
  have e1 : ((List.range n).map fun i => (i + t) % n) = (List.range n).map fun i => (i + s) % n := List.map_congr_left fun i _ => by rw [← hs, Nat.add_mod_mod]
  have e2 : List.range n = List.range (n - s) ++ (List.range s).map ((n - s) + ·) := by rw [← List.range_add]; congr 1; omega
  have e3 : List.range n = List.range s ++ (List.range (n - s)).map (s + ·) := by rw [← List.range_add]; congr 1; omega
  have a1 : (List.range (n - s)).map (fun i => (i + s) % n) = (List.range (n - s)).map (s + ·) := List.map_congr_left fun i hi => by
    have := List.mem_range.1 hi
    rw [Nat.mod_eq_of_lt (by omega)]; omega
  have a2 : (List.range s).map (fun i => (n - s + i + s) % n) = List.range s := by
    have : (List.range s).map (fun i => (n - s + i + s) % n) = (List.range s).map id := List.map_congr_left fun i hi => by
      have := List.mem_range.1 hi
      rw [show n - s + i + s = n + i by omega, Nat.add_mod_left, Nat.mod_eq_of_lt (by omega)]; rfl
    rw [this, List.map_id]
  rw [e1]
  conv => lhs; rw [e2, List.map_append, a1, List.map_map]
  rw [show ((fun i => (i + s) % n) ∘ fun x => n - s + x) = fun i => (n - s + i + s) % n from rfl, a2]
  conv => rhs; rw [e3]
  exact List.perm_append_comm
/-- the first k candidates from place t on, the last one first -/
def trn (l : List Cd) (t : Nat) : Nat → List Cd
  | 0 => []
  | k + 1 => nth l ((k + t) % l.length) :: trn l t k
theorem trn_len (l : List Cd) (t : Nat) : ∀ k, (trn l t k).length = k
  | 0 => rfl
  | k + 1 => by simp only [trn, List.length_cons, trn_len l t k]
theorem trn_eq (l : List Cd) (t : Nat) : ∀ k, trn l t k = ((List.range k).map fun i => nth l ((i + t) % l.length)).reverse
  | 0 => rfl
  | k + 1 => by rw [List.range_succ, List.map_append, List.reverse_append, ← trn_eq l t k]; rfl
theorem map_nth (l : List Cd) : (List.range l.length).map (nth l) = l := by
  refine List.ext_getElem (by simp) fun i h1 h2 => ?_
  rw [List.getElem_map, List.getElem_range, nth_eq h2]
theorem trn_perm (l : List Cd) (t : Nat) (h : 0 < l.length) : (trn l t l.length).Perm l := by
  rw [trn_eq]
  refine (List.reverse_perm _).trans ?_
  have := (turn_perm l.length t h).map (nth l)
  rw [List.map_map, map_nth] at this
  exact this
theorem trn_ord {l : List Cd} (V : Val l) (t : Nat) (h : 0 < l.length) : ord (trn l t l.length) = ord l := (ord_of V (trn_perm l t h).symm).symm
theorem trn_prune {l : List Cd} (V : Val l) (t : Nat) (h : 0 < l.length) (keep : Int) : prune keep (trn l t l.length) = prune keep l := by
  unfold prune; rw [trn_ord V t h, trn_len]
theorem trn_val {l : List Cd} (V : Val l) (t : Nat) (h : 0 < l.length) : Val (trn l t l.length) := V.perm (trn_perm l t h).symm
theorem flat_apps : ∀ (m l : List Cd), flat (zof (l ++ m)) (l.length + m.length) = flat (zof l) l.length ++ flat (zof m) m.length
  | [], l => by rw [List.append_nil, List.length_nil, Nat.add_zero]; simp [flat]
  | x :: m, l => by
    have e := flat_apps m (l ++ [x])
    have e1 := flat_apps m [x]
    have e2 : flat (zof [x]) [x].length = [.int .i64 x.a, .int .i64 x.b, .int .i64 x.c, .int .i64 x.d, .int .i64 x.e] := flat_app [] x
    rw [List.append_assoc, List.length_append, show ([x] : List Cd).length = 1 from rfl, flat_app, List.append_assoc, ← e2, ← e1] at e
    rw [show ([x] : List Cd) ++ m = x :: m from rfl, show ([x] : List Cd).length = 1 from rfl] at e
    rw [List.length_cons, Nat.add_comm m.length 1, ← Nat.add_assoc]
    exact e
/-- out = append(out, m...) for a list m that is not empty -/
theorem append_cands {w : World} {ops : Array Oper} {rest : List Oper} {o : Oper} {a : Act} {Q : Exit → Act → World → Prop} {base : Nat} {v : Value} {l m : List Cd} {g c : Nat} (hgd : o.guard = none) (s xo : Operand)
    (ho : o.op = .call { callee := .builtin .append, args := #[s, xo], argTypes := #[22, 22] }) (hs : a.eval s = v) (own : Rk w base v l) (hx : a.eval xo = .slice (some ⟨g, 0, none⟩) m.length c)
    (hc : Cs w (some ⟨g, 0, none⟩) m.length (zof m)) (small : l.length + m.length ≤ 1000000) (hb : base ≤ w.heap.size) (h : ∀ v' w', Rk w' base v' (l ++ m) → w.grownBy w' v.ownBlock → wpList Try.prog ops Q rest (a.put o.dst v') w') : wpList Try.prog ops Q (o :: rest) a w := by
  obtain ⟨i0, hi, hz0, hz1, hz2⟩ := info_parts info_cand
  refine wpList_append_own w hgd s xo 22 ho base 36 i0 _ 5 40 Try.underlying22 hi hz0 hz1 hz2 rfl (by decide) v l.length _ hs own.own ⟨g, 0, none⟩ m.length c (flat (zof m) m.length) hx (flat_len _ _) ?_ ?_ ?_ ?_ hb ?_
  · intro j u hj
    rw [add_at, Nat.zero_add]
    have lt : j < m.length * 5 := by
      have := (List.getElem?_eq_some_iff.1 hj).1; rw [flat_len] at this; exact this
    have e := cs_at hc (j / 5) (j % 5) (by omega) (by omega)
    have f := flat_at (zof m) (n := m.length) (i := j / 5) (j := j % 5) (by omega) (by omega)
    rw [show j / 5 * 5 + j % 5 = j by omega] at e f
    rw [f] at hj
    rw [e]; exact hj
  · intro u hu
    unfold flat at hu
    obtain ⟨t, _, rfl⟩ := List.mem_map.1 hu
    rfl
  · unfold maxLen; omega
  · omega
  · intro v' w' h1 h2 _
    refine h v' w' ⟨?_⟩ h2
    rw [List.length_append, flat_apps]; exact h1
theorem Rk.rd0 {w : World} {base : Nat} {v : Value} {l : List Cd} (h : Rk w base v l) (h0 : 0 < l.length) : ∃ g c, v = .slice (some ⟨g, 0, none⟩) l.length c ∧ Cs w (some ⟨g, 0, none⟩) l.length (zof l) := by
  obtain ⟨_, h2⟩ := h.own
  rcases h2 with ⟨_, h1⟩ | ⟨g, cap, cur, hv, hg, hh, hc, _, hs, ht⟩
  · omega
  · refine ⟨g, cap, hv, ⟨.inr ⟨g, 0, rfl, Hp.blk_lt hh, fun i j hi hj => ?_⟩⟩⟩
    rw [Nat.zero_add]
    have e := flat_at (zof l) hi hj
    rw [← ht, List.getElem?_take, if_pos (by omega)] at e
    exact Hp.blk_cell hh (by rw [← Array.getElem?_toList]; exact e)
theorem Rk.one {w : World} {base : Nat} (x : Cd) (hb : base ≤ w.heap.size) : Rk (w.alloc (.cells #[.int .i64 x.a, .int .i64 x.b, .int .i64 x.c, .int .i64 x.d, .int .i64 x.e] 36)) base (.slice (some ⟨w.heap.size, 0, none⟩) 1 1) [x] :=
  ⟨⟨flat_len _ _, .inr ⟨w.heap.size, 1, _, rfl, hb, Hp.blk_new w _, Nat.le_refl _, by unfold maxLen; omega, rfl, (flat_app [] x).symm⟩⟩⟩
end Go.Proofs.Ytbbdeagllhmdiaa.CxW
