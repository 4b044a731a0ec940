/- Lists of constraints of the call's own: slices.Clone, append of one. -/
import Derived.Test.YtieggiplbghecaaBc
import Derived.Outline
import Derived.OwnWalk
import Derived.Lib.SliceRun
set_option linter.unusedVariables false
set_option linter.unusedSimpArgs false
namespace Go.Proofs.Ytieggiplbghecaa.BxW
open Go.RowKit Ls
def flat3 (z : Nat → Nat → Int) (n : Nat) : List Value := (List.range (n * 3)).map fun t => Value.int .i64 (z (t / 3) (t % 3))
theorem add_at3 (b o j : Nat) : (⟨b, o, none⟩ : Addr).add j = ⟨b, o + j, none⟩ := by
  unfold Addr.add; split
  · rename_i h; subst h; rfl
  · rfl
theorem flat3_len (z : Nat → Nat → Int) (n : Nat) : (flat3 z n).length = n * 3 := by simp [flat3]
theorem flat3_at (z : Nat → Nat → Int) {n i j : Nat} (hi : i < n) (hj : j < 3) : (flat3 z n)[i * 3 + j]? = some (.int .i64 (z i j)) := by
  unfold flat3
  rw [List.getElem?_map, List.getElem?_range (by omega)]
  simp only [Option.map_some]
  rw [show (i * 3 + j) / 3 = i by omega, show (i * 3 + j) % 3 = j by omega]
theorem flat3_one (z : Nat → Nat → Int) {n : Nat} : ∀ u ∈ flat3 z n, u.oneCell' = true := fun u hu => by
  unfold flat3 at hu; simp only [List.mem_map] at hu; obtain ⟨t, _, rfl⟩ := hu; rfl
theorem flat3_more (z : Nat → Nat → Int) (n : Nat) : flat3 z (n + 1) = flat3 z n ++ [.int .i64 (z n 0), .int .i64 (z n 1), .int .i64 (z n 2)] := by
  unfold flat3
  rw [show (n + 1) * 3 = n * 3 + 3 by omega, List.range_add, List.map_append]
  congr 1
  simp only [List.map_map, show List.range 3 = [0, 1, 2] from rfl, List.map_cons, List.map_nil, Function.comp]
  rw [show (n * 3 + 0) / 3 = n by omega, show (n * 3 + 1) / 3 = n by omega, show (n * 3 + 2) / 3 = n by omega, show (n * 3 + 0) % 3 = 0 by omega, show (n * 3 + 1) % 3 = 1 by omega, show (n * 3 + 2) % 3 = 2 by omega]
/-- v is a slice of n constraints in memory from block base on -/
structure RowC (w : World) (base : Nat) (v : Value) (n : Nat) (z : Nat → Nat → Int) : Prop where
  own : w.ownsRow base 40 3 v n (flat3 z n)
theorem RowC.ss {w : World} {base n : Nat} {v : Value} {z : Nat → Nat → Int} (h : RowC w base v n z) : ∃ a c, v = .slice a n c ∧ Ss 3 w a n z := by
  obtain ⟨_, h2⟩ := h.own
  rcases h2 with ⟨hv, h0⟩ | ⟨g, cap, cur, hv, hg, hh, hc, _, hs, ht⟩
  · subst h0; exact ⟨_, _, hv, ⟨.inl rfl⟩⟩
  · refine ⟨_, cap, hv, ⟨.inr ⟨g, 0, rfl, Hp.blk_lt hh, fun i j hi hj => ?_⟩⟩⟩
    rw [Nat.zero_add]
    have e := flat3_at z hi hj
    rw [← ht, List.getElem?_take, if_pos (by omega)] at e
    exact Hp.blk_cell hh (by rw [← Array.getElem?_toList]; exact e)
theorem RowC.later {w w' : World} {base n : Nat} {v : Value} {z : Nat → Nat → Int} (h : RowC w base v n z) (k : Below w.heap.size w w') : RowC w' base v n z := by
  obtain ⟨h1, h2⟩ := h.own
  refine ⟨h1, ?_⟩
  rcases h2 with h2 | ⟨g, cap, cur, hv, hg, hh, r⟩
  · exact .inl h2
  · exact .inr ⟨g, cap, cur, hv, hg, (k.block g (Hp.blk_lt hh)).trans hh, r⟩
theorem RowC.below {w0 w w' : World} {base B0 n : Nat} {v : Value} {z : Nat → Nat → Int} (h : RowC w base v n z) (hb : B0 ≤ base) (k : w.grownBy w' v.ownBlock) (hB : Below B0 w0 w) (hs : B0 ≤ w.heap.size) : Below B0 w0 w' :=
  hB.grown k hs (fun i hi => by have := (World.ownsRow.lt h.own i hi).1; omega)
theorem RowC.mono {w : World} {base base' n : Nat} {v : Value} {z : Nat → Nat → Int} (h : RowC w base v n z) (hb : base' ≤ base) : RowC w base' v n z := by
  obtain ⟨h1, h2⟩ := h.own
  refine ⟨h1, ?_⟩
  rcases h2 with h2 | ⟨g, cap, cur, hv, hg, r⟩
  · exact .inl h2
  · exact .inr ⟨g, cap, cur, hv, Nat.le_trans hb hg, r⟩
theorem info_con : (Try.prog.info? 40).map (fun i => (i.zero, i.size, i.bytes)) = some (some (.agg #[.int .i64 0, .int .i64 0, .int .i64 0]), 3, 24) := by kernel_rfl
set_option maxHeartbeats 4000000 in
theorem clone_con (a : Option Addr) (n cap : Nat) (z : Nat → Nat → Int) (w : World) (S : Ss 3 w a n z) (h0 : a = none → n = 0 ∧ cap = 0) (hn : n * 24 ≤ 140737488351232) :
    Calls Try.prog 31 #[.slice a n cap] w fun e w' => ∃ v, e = .returned v ∧ RowC w' w.heap.size v n z ∧ Below w.heap.size w w' := by
  rcases a with _ | x
  · obtain ⟨rfl, rfl⟩ := h0 rfl
    clear S h0
    have hq := fun (W : World) => Lib.run_eql_slice_nil (P := Try.prog) W 22 40 none 0 0 0 0 Try.underlying22
    go_enter Try.func31, Try.ntmps31
    go_wp2_with (fail)
    go_ret
    exact ⟨_, rfl, ⟨World.ownsRow_nil _ _ _ _⟩, Below.refl _ _⟩
  · have hc : ∀ j u, (flat3 z n)[j]? = some u → w.cell? (x.add j) = some u ∧ (x.add j).block < w.heap.size := by
      intro j u hj
      have hj5 : j < n * 3 := by
        have := (List.getElem?_eq_some_iff.1 hj).1
        rwa [flat3_len] at this
      rcases S.cells with h | ⟨b, o, ha, hb, hh⟩
      · omega
      · obtain rfl : x = ⟨b, o, none⟩ := by simpa using ha
        have e := flat3_at z (n := n) (i := j / 3) (j := j % 3) (by omega) (by omega)
        rw [show j / 3 * 3 + j % 3 = j by omega, hj] at e
        have := hh (j / 3) (j % 3) (by omega) (by omega)
        rw [show j / 3 * 3 + j % 3 = j by omega] at this
        rw [e, add_at3]; exact ⟨this, hb⟩
    have HC : Hid (∀ j u, (flat3 z n)[j]? = some u → (w.alloc (.cells #[] 40)).cell? (x.add j) = some u) := Lib.hid fun j u hj => by
      obtain ⟨h1, h2⟩ := hc j u hj
      rw [World.cell?_alloc_lt w _ _ h2]; exact h1
    clear S h0 hc
    have hq := fun (W : World) => Lib.run_eql_slice_nil (P := Try.prog) W 22 40 (some x) n cap 0 0 Try.underlying22
    obtain ⟨i0, hi, hz0, hz1, hz2⟩ := info_parts info_con
    have HI := Lib.hid hi; have H0 := Lib.hid hz0; have H1 := Lib.hid hz1; have H2 := Lib.hid hz2
    have HO : Hid ((w.alloc (.cells #[] 40)).ownsRow w.heap.size 40 3 (.slice (some ⟨w.heap.size, 0, none⟩) 0 0) 0 []) :=
      Lib.hid ⟨rfl, .inr ⟨w.heap.size, 0, #[], rfl, Nat.le_refl _, Hp.blk_new _ _, Nat.le_refl _, by unfold maxLen; omega, rfl, rfl⟩⟩
    have Q1 : Hid (∀ u ∈ flat3 z n, u.oneCell' = true) := Lib.hid (flat3_one z)
    clear hi hz0 hz1 hz2
    go_enter Try.func31, Try.ntmps31
    go_wp2_with (at_builtin; refine wpList_append_own _ rfl (.tmp 5) (.tmp 6) 22 rfl w.heap.size 40 i0 _ 3 24 Try.underlying22 HI.out H0.out H1.out H2.out rfl (by decide) _ 0 [] rfl HO.out x n cap (flat3 z n) rfl (flat3_len z n) HC.out Q1.out (by unfold maxLen; omega) (by omega) (by simp) ?_; intro v1 w1 own1 grow1 _; have HO1 := Lib.hid own1; have HG1 := Lib.hid grow1; clear own1 grow1)
    go_ret
    have hB : Below w.heap.size w w1 := ((Below.refl w.heap.size w).alloc (Nat.le_refl _) _).grown HG1.out (by simp) (fun i hi => by have e : some w.heap.size = some i := hi; injection e with e; omega)
    refine ⟨v1, rfl, ⟨?_⟩, hB⟩
    have ho := HO1.out
    rw [Nat.zero_add, List.nil_append] at ho
    exact ho
/-- out = append(out, c), as one step of a region that draws -/
theorem step_append_con {ops : Array Oper} {o : Oper} {a : Act} {w : World} {K : Act → World → Prop} {Q : Exit → Act → World → Prop} {E : Prop} {base n : Nat} {v : Value} {z : Nat → Nat → Int} (hgd : o.guard = none) (s x : Operand)
    (ho : o.op = .call { callee := .builtin .append, args := #[s, x], argTypes := #[22, 22] }) (hty : o.type = 22) (hs : a.eval s = v) (own : RowC w base v n z) (g : Nat) (hx : a.eval x = .slice (some ⟨g, 0, none⟩) 1 1) (hc : ∀ j, j < 3 → w.cell? ⟨g, j, none⟩ = some (.int .i64 (z n j)))
    (small : n * 24 ≤ 140737488351232) (hb : base ≤ w.heap.size) (h : ∀ v' w', Hid (RowC w' base v' (n + 1) z) → Hid (w.grownBy w' v.ownBlock) → K (a.put o.dst v') w') :
    if Region.wanted o (yielded ops a.tmps) = true then Oper.wp Try.prog o a w K Q else E := by
  have hw : Region.wanted o (yielded ops a.tmps) = true := by simp [Region.wanted, hgd]
  rw [if_pos hw]
  obtain ⟨i0, hi, hz0, hz1, hz2⟩ := info_parts info_con
  have hn : ∀ j u, [Value.int .i64 (z n 0), .int .i64 (z n 1), .int .i64 (z n 2)][j]? = some u → w.cell? ((⟨g, 0, none⟩ : Addr).add j) = some u := by
    intro j u hj
    rw [add_at3, Nat.zero_add]
    match j, hj with
    | 0, hj => simp at hj; subst hj; exact hc 0 (by omega)
    | 1, hj => simp at hj; subst hj; exact hc 1 (by omega)
    | 2, hj => simp at hj; subst hj; exact hc 2 (by omega)
  obtain ⟨v', w', hr, h2, h3, h4⟩ := run_append_own (P := Try.prog) w base 22 22 40 i0 _ 3 24 Try.underlying22 hi hz0 hz1 hz2 rfl (by decide) v n _ own.own ⟨g, 0, none⟩ 1 1 [Value.int .i64 (z n 0), .int .i64 (z n 1), .int .i64 (z n 2)] rfl hn (by intro u hu; simp at hu; rcases hu with rfl | rfl | rfl <;> rfl) (by unfold maxLen; omega) (by omega) hb
  unfold Oper.wp execOp
  simp only [ho, hty, resolve, invoke, builtin, Sem.run_bind, Sem.run_pure, Result.andThen_ok, List.map_toArray, List.map_cons, List.map_nil, hs, hx, hr]
  exact h v' w' (Lib.hid ⟨by rw [flat3_more]; exact h2⟩) (Lib.hid h3)
end Go.Proofs.Ytieggiplbghecaa.BxW
