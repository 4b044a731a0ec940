/- Lists of samples in memory: read, of the call's own, slices.Clone, being made. -/
import Derived.Test.YtdaedhgbkamjpaaJx
import Derived.Test.YtdaedhgbkamjpaaHp
import Derived.Test.YtdaedhgbkamjpaaQb
import Derived.Test.YtdaedhgbkamjpaaIn
import Derived.Test.YtdaedhgbkamjpaaShelf
import Derived.Lib.Hide
import Derived.Outline
import Derived.Lib.SliceRun
import Derived.Laws.AppendOwn
import Derived.Deep.RegionLaw
set_option linter.unusedVariables false
set_option linter.unusedSimpArgs false
namespace Go.Proofs.Ytdaedhgbkamjpaa.JxW
open Go.RowKit Go.Deep
open Go.Proofs.Ytdaedhgbkamjpaa.Jx
/-- a slice of n candidates z -/
structure Cs (w : World) (a : Option Addr) (n : Nat) (z : Nat → Nat → Int) : Prop where
  cells : n = 0 ∨ ∃ b o, a = some ⟨b, o, none⟩ ∧ b < w.heap.size ∧ ∀ i j, i < n → j < 4 → w.cell? ⟨b, o + (i * 4 + j), none⟩ = some (.int .i64 (z i j))
theorem Cs.later {w w' : World} {a : Option Addr} {n : Nat} {z : Nat → Nat → Int} (h : Cs w a n z) (k : Below w.heap.size w w') : Cs w' a n z := by
  rcases h.cells with h0 | ⟨b, o, ha, hb, hc⟩
  · exact ⟨.inl h0⟩
  · exact ⟨.inr ⟨b, o, ha, Nat.lt_of_lt_of_le hb k.size, fun i j hi hj => (k.cell (p := ⟨b, o + (i * 4 + j), none⟩) hb).trans (hc i j hi hj)⟩⟩
theorem Cs.elem {w : World} {a : Option Addr} {n : Nat} {z : Nat → Nat → Int} (h : Cs w a n z) {i : Nat} (hi : i < n) :
    ∃ b o, a = some ⟨b, o, none⟩ ∧ b < w.heap.size ∧ w.cell? ⟨b, o + i * 4, none⟩ = some (.int .i64 (z i 0)) ∧ w.cell? ⟨b, o + i * 4 + 1, none⟩ = some (.int .i64 (z i 1)) ∧ w.cell? ⟨b, o + i * 4 + 2, none⟩ = some (.int .i64 (z i 2)) ∧ w.cell? ⟨b, o + i * 4 + 3, none⟩ = some (.int .i64 (z i 3)) := by
  rcases h.cells with h0 | ⟨b, o, ha, hb, hc⟩
  · omega
  · exact ⟨b, o, ha, hb, hc i 0 hi (by omega), hc i 1 hi (by omega), hc i 2 hi (by omega), hc i 3 hi (by omega)⟩
theorem cell_of {l : List Sm} {w : World} {a : Option Addr} (S : Cs w a l.length (zof l)) {i : Nat} (hi : i < l.length) : ∃ b o, a = some ⟨b, o, none⟩ ∧ b < w.heap.size ∧ w.cell? ⟨b, o + i * 4, none⟩ = some (.int .i64 (nth l i).o) ∧ w.cell? ⟨b, o + i * 4 + 1, none⟩ = some (.int .i64 (nth l i).d) ∧ w.cell? ⟨b, o + i * 4 + 2, none⟩ = some (.int .i64 (nth l i).p) ∧ w.cell? ⟨b, o + i * 4 + 3, none⟩ = some (.int .i64 (nth l i).t) := S.elem hi
theorem bl_next {w a b : World} (h : Below w.heap.size w a) (k : Below a.heap.size a b) : Below w.heap.size w b := h.trans (k.mono h.size)
def flat (z : Nat → Nat → Int) (n : Nat) : List Value := (List.range (n * 4)).map fun t => Value.int .i64 (z (t / 4) (t % 4))
theorem add_at (b o j : Nat) : (⟨b, o, none⟩ : Addr).add j = ⟨b, o + j, none⟩ := by
  unfold Addr.add; split
  · rename_i h; subst h; rfl
  · rfl
theorem flat_len (z : Nat → Nat → Int) (n : Nat) : (flat z n).length = n * 4 := by simp [flat]
theorem flat_at (z : Nat → Nat → Int) {n i j : Nat} (hi : i < n) (hj : j < 4) : (flat z n)[i * 4 + j]? = some (.int .i64 (z i j)) := by
  unfold flat
  rw [List.getElem?_map, List.getElem?_range (by omega)]
  simp only [Option.map_some]
  rw [show (i * 4 + j) / 4 = i by omega, show (i * 4 + j) % 4 = j by omega]
/-- n candidates that lie in block g of the call's own, from its head on -/
structure Oz (w : World) (g n : Nat) (z : Nat → Nat → Int) : Prop where
  lt : g < w.heap.size
  c : ∀ i j, i < n → j < 4 → w.cell? ⟨g, i * 4 + j, none⟩ = some (.int .i64 (z i j)) ∧ w.frozen? ⟨g, i * 4 + j, none⟩ = false
theorem Oz.cs {w : World} {g n : Nat} {z : Nat → Nat → Int} (o : Oz w g n z) : Cs w (some ⟨g, 0, none⟩) n z :=
  ⟨.inr ⟨g, 0, rfl, o.lt, fun i j hi hj => by rw [Nat.zero_add]; exact (o.c i j hi hj).1⟩⟩
theorem Oz.later {w w' : World} {g n : Nat} {z : Nat → Nat → Int} (o : Oz w g n z) (k : Below w.heap.size w w') : Oz w' g n z :=
  ⟨Nat.lt_of_lt_of_le o.lt k.size, fun i j hi hj => ⟨(k.cell (p := ⟨g, i * 4 + j, none⟩) o.lt).trans (o.c i j hi hj).1, (k.frozen (p := ⟨g, i * 4 + j, none⟩) o.lt).trans (o.c i j hi hj).2⟩⟩
theorem Oz.congr {w : World} {g n : Nat} {z z' : Nat → Nat → Int} (o : Oz w g n z) (h : ∀ i j, i < n → j < 4 → z i j = z' i j) : Oz w g n z' :=
  ⟨o.lt, fun i j hi hj => by rw [← h i j hi hj]; exact o.c i j hi hj⟩
theorem Cs.congr {w : World} {a : Option Addr} {n : Nat} {z z' : Nat → Nat → Int} (s : Cs w a n z) (h : ∀ i j, i < n → j < 4 → z i j = z' i j) : Cs w a n z' := by
  rcases s.cells with h0 | ⟨b, o, ha, hb, hc⟩
  · exact ⟨.inl h0⟩
  · exact ⟨.inr ⟨b, o, ha, hb, fun i j hi hj => by rw [← h i j hi hj]; exact hc i j hi hj⟩⟩
/-- v is a slice of the candidates l in memory of the call's own, from block B on -/
def Ol (w : World) (B : Nat) (v : Value) (l : List Sm) : Prop := (l = [] ∧ ∃ a c, v = .slice a 0 c) ∨ (0 < l.length ∧ ∃ g c, v = .slice (some ⟨g, 0, none⟩) l.length c ∧ B ≤ g ∧ Oz w g l.length (zof l) ∧ l.length ≤ c)
theorem Ol.later {w w' : World} {B : Nat} {v : Value} {l : List Sm} (o : Ol w B v l) (k : Below w.heap.size w w') : Ol w' B v l := by
  rcases o with h | ⟨h, g, c, hv, hg, hz, hc⟩
  · exact .inl h
  · exact .inr ⟨h, g, c, hv, hg, hz.later k, hc⟩
theorem Ol.mono {w : World} {B B' : Nat} {v : Value} {l : List Sm} (o : Ol w B v l) (h : B' ≤ B) : Ol w B' v l := by
  rcases o with h0 | ⟨h0, g, c, hv, hg, hz, hc⟩
  · exact .inl h0
  · exact .inr ⟨h0, g, c, hv, Nat.le_trans h hg, hz, hc⟩
/-- .. read -/
theorem Ol.rd {w : World} {B : Nat} {v : Value} {l : List Sm} (o : Ol w B v l) : ∃ a c, v = .slice a l.length c ∧ Cs w a l.length (zof l) := by
  rcases o with ⟨rfl, a, c, hv⟩ | ⟨h0, g, c, hv, hg, hz, hc⟩
  · exact ⟨a, c, hv, ⟨.inl rfl⟩⟩
  · exact ⟨_, c, hv, hz.cs⟩
theorem info_sample : (Try.prog.info? 29).map (fun i => (i.zero, i.size, i.bytes)) = some (some (.agg #[.int .i64 0, .int .i64 0, .int .i64 0, .int .i64 0]), 4, 32) := by kernel_rfl
theorem own_form {w : World} {base n : Nat} {v : Value} {z : Nat → Nat → Int} (h : w.ownsRow base 29 4 v n (flat z n)) (hn : 0 < n) : ∃ g cap, v = .slice (some ⟨g, 0, none⟩) n cap ∧ base ≤ g ∧ Oz w g n z ∧ n ≤ cap := by
  obtain ⟨_, h2⟩ := h
  rcases h2 with ⟨_, h0⟩ | ⟨g, cap, cur, hv, hg, hh, hc, _, hs, ht⟩
  · omega
  · refine ⟨g, cap, hv, hg, ⟨Hp.blk_lt hh, fun i j hi hj => ⟨Hp.blk_cell hh ?_, Hp.blk_free hh⟩⟩, hc⟩
    have e := flat_at z hi hj
    rw [← ht, List.getElem?_take, if_pos (by omega)] at e
    rw [← Array.getElem?_toList]; exact e
set_option maxHeartbeats 4000000 in
theorem clone_any (a : Option Addr) (n cap : Nat) (z : Nat → Nat → Int) (w : World) (S : Cs w a n z) (h0 : a = none → n = 0 ∧ cap = 0) (hn : n ≤ 12) :
    Calls Try.prog 39 #[.slice a n cap] w fun e w' => ∃ v, e = .returned v ∧ ((n = 0 ∧ ∃ a' c', v = .slice a' 0 c') ∨ (0 < n ∧ ∃ g c', v = .slice (some ⟨g, 0, none⟩) n c' ∧ w.heap.size ≤ g ∧ Oz w' g n z ∧ n ≤ c')) ∧ Below w.heap.size w w' := by
  rcases a with _ | x
  · obtain ⟨rfl, rfl⟩ := h0 rfl
    clear S h0
    have hq := fun (W : World) => Lib.run_eql_slice_nil (P := Try.prog) W 41 29 none 0 0 0 0 Try.underlying41
    go_enter Try.func39, Try.ntmps39
    go_wp2_with (fail)
    go_ret
    exact ⟨_, rfl, .inl ⟨by simp, _, _, rfl⟩, Below.refl _ _⟩
  · have hc : ∀ j u, (flat z n)[j]? = some u → w.cell? (x.add j) = some u := by
      intro j u hj
      have hj5 : j < n * 4 := by
        have := (List.getElem?_eq_some_iff.1 hj).1
        rwa [flat_len] at this
      rcases S.cells with h | ⟨b, o, ha, _, hh⟩
      · omega
      · obtain rfl : x = ⟨b, o, none⟩ := by simpa using ha
        have e := flat_at z (n := n) (i := j / 4) (j := j % 4) (by omega) (by omega)
        rw [show j / 4 * 4 + j % 4 = j by omega, hj] at e
        have := hh (j / 4) (j % 4) (by omega) (by omega)
        rw [show j / 4 * 4 + j % 4 = j by omega] at this
        rw [e, add_at]; exact this
    have HC : Hid (∀ j u, (flat z n)[j]? = some u → (w.alloc (.cells #[] 29)).cell? (x.add j) = some u) := Lib.hid fun j u hj => by
      have h1 := hc j u hj
      have hb : (x.add j).block < w.heap.size := by
        rcases S.cells with h | ⟨b, o, ha, hb, _⟩
        · have := (List.getElem?_eq_some_iff.1 hj).1
          rw [flat_len] at this; omega
        · obtain rfl : x = ⟨b, o, none⟩ := by simpa using ha
          rw [add_at]; exact hb
      rw [World.cell?_alloc_lt w _ _ hb]; exact h1
    clear S h0 hc
    have hq := fun (W : World) => Lib.run_eql_slice_nil (P := Try.prog) W 41 29 (some x) n cap 0 0 Try.underlying41
    obtain ⟨i0, hi, hz0, hz1, hz2⟩ := info_parts info_sample
    have HI := Lib.hid hi; have H0 := Lib.hid hz0; have H1 := Lib.hid hz1; have H2 := Lib.hid hz2
    have HO : Hid ((w.alloc (.cells #[] 29)).ownsRow w.heap.size 29 4 (.slice (some ⟨w.heap.size, 0, none⟩) 0 0) 0 []) :=
      Lib.hid ⟨rfl, .inr ⟨w.heap.size, 0, #[], rfl, Nat.le_refl _, Hp.blk_new _ _, Nat.le_refl _, by unfold maxLen; omega, rfl, rfl⟩⟩
    have Q1 : Hid (∀ u ∈ flat z n, u.oneCell' = true) := Lib.hid fun u hu => by
      unfold flat at hu; simp only [List.mem_map] at hu; obtain ⟨t, _, rfl⟩ := hu; rfl
    clear hi hz0 hz1 hz2
    go_enter Try.func39, Try.ntmps39
    go_wp2_with (at_builtin; refine wpList_append_own _ rfl (.tmp 5) (.tmp 6) 41 rfl w.heap.size 29 i0 _ 4 32 Try.underlying41 HI.out H0.out H1.out H2.out rfl (by decide) _ 0 [] rfl HO.out x n cap (flat z n) rfl (flat_len z n) HC.out Q1.out (by unfold maxLen; omega) (by omega) (by simp) ?_; intro v1 w1 own1 grow1 _; have HO1 := Lib.hid own1; have HG1 := Lib.hid grow1; clear own1 grow1)
    go_ret
    have hB : Below w.heap.size w w1 := ((Below.refl w.heap.size w).alloc (Nat.le_refl _) _).grown HG1.out (by simp) (fun i hi => by have e : some w.heap.size = some i := hi; injection e with e; omega)
    refine ⟨v1, rfl, ?_, hB⟩
    have ho := HO1.out
    rw [Nat.zero_add, List.nil_append] at ho
    by_cases hp : 0 < n
    · obtain ⟨g, c', hv, hg, hw, hcap⟩ := own_form ho hp
      exact .inr ⟨hp, g, c', hv, hg, hw, hcap⟩
    · obtain rfl : n = 0 := by omega
      rcases ho.2 with ⟨hv, _⟩ | ⟨g, c', _, hv, _⟩
      · exact .inl ⟨rfl, none, 0, hv⟩
      · exact .inl ⟨rfl, _, c', hv⟩
/-- slices.Clone of a list -/
theorem clone_list (a : Option Addr) (l : List Sm) (cap : Nat) (w : World) (S : Cs w a l.length (zof l)) (h0 : a = none → l.length = 0 ∧ cap = 0) (hn : l.length ≤ 12) :
    Calls Try.prog 39 #[.slice a l.length cap] w fun e w' => ∃ v, e = .returned v ∧ Ol w' w.heap.size v l ∧ Below w.heap.size w w' := by
  refine (clone_any a l.length cap (zof l) w S h0 hn).mono ?_
  rintro e w' ⟨v, he, h | ⟨h, g, c, hv, hg, hz, hc⟩, b⟩
  · exact ⟨v, he, .inl ⟨List.eq_nil_of_length_eq_zero h.1, h.2⟩, b⟩
  · exact ⟨v, he, .inr ⟨h, g, c, hv, hg, hz, hc⟩, b⟩
def enc (x : Sm) : List Value := [.int .i64 x.o, .int .i64 x.d, .int .i64 x.p, .int .i64 x.t]
theorem flat_congr {z z' : Nat → Nat → Int} {n : Nat} (h : ∀ i j, i < n → j < 4 → z i j = z' i j) : flat z n = flat z' n := by
  unfold flat
  refine List.map_congr_left fun t ht => ?_
  have := List.mem_range.1 ht
  rw [h (t / 4) (t % 4) (by omega) (by omega)]
theorem flat_app (l : List Sm) (x : Sm) : flat (zof (l ++ [x])) (l.length + 1) = flat (zof l) l.length ++ [.int .i64 x.o, .int .i64 x.d, .int .i64 x.p, .int .i64 x.t] := by
  have e : flat (zof l) l.length = flat (zof (l ++ [x])) l.length := flat_congr fun i j hi _ => by unfold zof; rw [nth_app hi]
  rw [e]
  unfold flat
  rw [show (l.length + 1) * 4 = l.length * 4 + 4 by omega, List.range_add, List.map_append]
  congr 1
  simp only [List.map_map, show List.range 4 = [0, 1, 2, 3] from rfl, List.map_cons, List.map_nil, Function.comp]
  rw [show (l.length * 4 + 0) / 4 = l.length by omega, show (l.length * 4 + 1) / 4 = l.length by omega, show (l.length * 4 + 2) / 4 = l.length by omega, show (l.length * 4 + 3) / 4 = l.length by omega, show (l.length * 4 + 0) % 4 = 0 by omega, show (l.length * 4 + 1) % 4 = 1 by omega, show (l.length * 4 + 2) % 4 = 2 by omega, show (l.length * 4 + 3) % 4 = 3 by omega]
  unfold zof
  rw [nth_last]
  rfl
/-- v is a list that is being made -/
structure Rk (w : World) (base : Nat) (v : Value) (l : List Sm) : Prop where
  own : w.ownsRow base 29 4 v l.length (flat (zof l) l.length)
theorem Rk.nil (w : World) (base : Nat) : Rk w base (.slice none 0 0) [] := ⟨World.ownsRow_nil _ _ _ _⟩
theorem Rk.later {w w' : World} {base : Nat} {v : Value} {l : List Sm} (h : Rk w base v l) (k : Below w.heap.size w w') : Rk w' base v l := by
  obtain ⟨h1, h2⟩ := h.own
  refine ⟨h1, ?_⟩
  rcases h2 with h2 | ⟨g, cap, cur, hv, hg, hh, r⟩
  · exact .inl h2
  · exact .inr ⟨g, cap, cur, hv, hg, (k.block g (Hp.blk_lt hh)).trans hh, r⟩
theorem Rk.below {w0 w w' : World} {base B0 : Nat} {v : Value} {l : List Sm} (h : Rk w base v l) (hb : B0 ≤ base) (k : w.grownBy w' v.ownBlock) (hB : Below B0 w0 w) (hs : B0 ≤ w.heap.size) : Below B0 w0 w' :=
  hB.grown k hs (fun i hi => by have := (World.ownsRow.lt h.own i hi).1; omega)
theorem Rk.rd {w : World} {base : Nat} {v : Value} {l : List Sm} (h : Rk w base v l) : ∃ a c, v = .slice a l.length c ∧ Cs w a l.length (zof l) ∧ (a = none → l.length = 0 ∧ c = 0) := by
  obtain ⟨_, h2⟩ := h.own
  rcases h2 with ⟨hv, h0⟩ | ⟨g, cap, cur, hv, hg, hh, hc, _, hs, ht⟩
  · exact ⟨none, 0, by rw [h0]; exact hv, ⟨.inl h0⟩, fun _ => ⟨h0, rfl⟩⟩
  · refine ⟨_, cap, hv, ⟨.inr ⟨g, 0, rfl, Hp.blk_lt hh, fun i j hi hj => ?_⟩⟩, fun e => by cases e⟩
    rw [Nat.zero_add]
    have e := flat_at (zof l) hi hj
    rw [← ht, List.getElem?_take, if_pos (by omega)] at e
    exact Hp.blk_cell hh (by rw [← Array.getElem?_toList]; exact e)
/-- out = append(out, x) -/
theorem append_smp {w : World} {ops : Array Oper} {rest : List Oper} {o : Oper} {a : Act} {Q : Exit → Act → World → Prop} {base : Nat} {v : Value} {l : List Sm} {x : Sm} (hgd : o.guard = none) (s xo : Operand)
    (ho : o.op = .call { callee := .builtin .append, args := #[s, xo], argTypes := #[41, 41] }) (hs : a.eval s = v) (own : Rk w base v l) (g : Nat) (hx : a.eval xo = .slice (some ⟨g, 0, none⟩) 1 1)
    (hc : w.heap[g]? = some (.cells #[.int .i64 x.o, .int .i64 x.d, .int .i64 x.p, .int .i64 x.t] 29 (0, 0)))
    (small : l.length ≤ 1000000) (hb : base ≤ w.heap.size) (h : ∀ v' w', Rk w' base v' (l ++ [x]) → w.grownBy w' v.ownBlock → wpList Try.prog ops Q rest (a.put o.dst v') w') : wpList Try.prog ops Q (o :: rest) a w := by
  obtain ⟨i0, hi, hz0, hz1, hz2⟩ := info_parts info_sample
  refine wpList_append_own w hgd s xo 41 ho base 29 i0 _ 4 32 Try.underlying41 hi hz0 hz1 hz2 rfl (by decide) v l.length _ hs own.own ⟨g, 0, none⟩ 1 1 [.int .i64 x.o, .int .i64 x.d, .int .i64 x.p, .int .i64 x.t] hx rfl ?_ ?_ ?_ ?_ hb ?_
  · intro j u hj
    rw [add_at, Nat.zero_add]
    match j, hj with
    | 0, hj => simp at hj; subst hj; exact Hp.blk_cell hc rfl
    | 1, hj => simp at hj; subst hj; exact Hp.blk_cell hc rfl
    | 2, hj => simp at hj; subst hj; exact Hp.blk_cell hc rfl
    | 3, hj => simp at hj; subst hj; exact Hp.blk_cell hc rfl
  · intro u hu; simp at hu; rcases hu with rfl | rfl | rfl | rfl <;> rfl
  · unfold maxLen; omega
  · omega
  · intro v' w' h1 h2 _
    refine h v' w' ⟨?_⟩ h2
    rw [List.length_append, show [x].length = 1 from rfl, flat_app]; exact h1
theorem flat_apps : ∀ (m l : List Sm), flat (zof (l ++ m)) (l.length + m.length) = flat (zof l) l.length ++ flat (zof m) m.length
  | [], l => by rw [List.append_nil, List.length_nil, Nat.add_zero]; simp [flat]
  | x :: m, l => by
    have e := flat_apps m (l ++ [x])
    have e1 := flat_apps m [x]
    have e2 : flat (zof [x]) [x].length = [.int .i64 x.o, .int .i64 x.d, .int .i64 x.p, .int .i64 x.t] := flat_app [] x
    rw [List.append_assoc, List.length_append, show ([x] : List Sm).length = 1 from rfl, flat_app, List.append_assoc, ← e2, ← e1] at e
    rw [show ([x] : List Sm) ++ m = x :: m from rfl, show ([x] : List Sm).length = 1 from rfl] at e
    rw [List.length_cons, Nat.add_comm m.length 1, ← Nat.add_assoc]
    exact e
theorem Rk.rd0 {w : World} {base : Nat} {v : Value} {l : List Sm} (h : Rk w base v l) (h0 : 0 < l.length) : ∃ g c, v = .slice (some ⟨g, 0, none⟩) l.length c ∧ Cs w (some ⟨g, 0, none⟩) l.length (zof l) := by
  obtain ⟨_, h2⟩ := h.own
  rcases h2 with ⟨_, h1⟩ | ⟨g, cap, cur, hv, hg, hh, hc, _, hs, ht⟩
  · omega
  · refine ⟨g, cap, hv, ⟨.inr ⟨g, 0, rfl, Hp.blk_lt hh, fun i j hi hj => ?_⟩⟩⟩
    rw [Nat.zero_add]
    have e := flat_at (zof l) hi hj
    rw [← ht, List.getElem?_take, if_pos (by omega)] at e
    exact Hp.blk_cell hh (by rw [← Array.getElem?_toList]; exact e)
theorem Rk.one {w : World} {base : Nat} (x : Sm) (hb : base ≤ w.heap.size) : Rk (w.alloc (.cells #[.int .i64 x.o, .int .i64 x.d, .int .i64 x.p, .int .i64 x.t] 29)) base (.slice (some ⟨w.heap.size, 0, none⟩) 1 1) [x] :=
  ⟨⟨flat_len _ _, .inr ⟨w.heap.size, 1, _, rfl, hb, Hp.blk_new w _, Nat.le_refl _, by unfold maxLen; omega, rfl, (flat_app [] x).symm⟩⟩⟩
/-- v reads as the list l -/
def Rl (w : World) (v : Value) (l : List Sm) : Prop := (l = [] ∧ ∃ a c, v = .slice a 0 c) ∨ (0 < l.length ∧ ∃ b o c, v = .slice (some ⟨b, o, none⟩) l.length c ∧ l.length ≤ c ∧ Cs w (some ⟨b, o, none⟩) l.length (zof l))
theorem Rl.later {w w' : World} {v : Value} {l : List Sm} (h : Rl w v l) (k : Below w.heap.size w w') : Rl w' v l := by
  rcases h with h | ⟨h0, b, o, c, hv, hc, s⟩
  · exact .inl h
  · exact .inr ⟨h0, b, o, c, hv, hc, s.later k⟩
theorem Rl.rd {w : World} {v : Value} {l : List Sm} (h : Rl w v l) : ∃ a c, v = .slice a l.length c ∧ Cs w a l.length (zof l) := by
  rcases h with ⟨rfl, a, c, hv⟩ | ⟨h0, b, o, c, hv, hc, s⟩
  · exact ⟨a, c, hv, ⟨.inl rfl⟩⟩
  · exact ⟨_, c, hv, s⟩
theorem Rk.rl {w : World} {base : Nat} {v : Value} {l : List Sm} (h : Rk w base v l) : Rl w v l := by
  by_cases h0 : 0 < l.length
  · obtain ⟨g, c, hv, s⟩ := Rk.rd0 h h0
    obtain ⟨_, h2⟩ := h.own
    rcases h2 with ⟨_, h1⟩ | ⟨g', cap, cur, hv', _, _, hc, _, _, _⟩
    · omega
    · rw [hv] at hv'; injection hv' with _ _ e3
      exact .inr ⟨h0, g, 0, c, hv, by omega, s⟩
  · have e : l = [] := List.eq_nil_of_length_eq_zero (by omega)
    obtain ⟨a, c, hv, _, _⟩ := h.rd
    subst e
    exact .inl ⟨rfl, a, c, hv⟩
theorem ol_rl {w : World} {B : Nat} {v : Value} {l : List Sm} (h : Ol w B v l) : Rl w v l := by
  rcases h with h | ⟨h0, g, c, hv, _, z, hc⟩
  · exact .inl h
  · exact .inr ⟨h0, g, 0, c, hv, hc, z.cs⟩
theorem cs_at' {w : World} {b o n : Nat} {z : Nat → Nat → Int} (S : Cs w (some ⟨b, o, none⟩) n z) (i j : Nat) (hi : i < n) (hj : j < 4) : w.cell? ⟨b, o + (i * 4 + j), none⟩ = some (.int .i64 (z i j)) := by
  rcases S.cells with h | ⟨b', o', ha, hb, hc⟩
  · omega
  · injection ha with ha; injection ha with e1 e2
    subst e1; subst e2
    exact hc i j hi hj
theorem cs_lt {w : World} {b o n : Nat} {z : Nat → Nat → Int} (S : Cs w (some ⟨b, o, none⟩) n z) (h : 0 < n) : b < w.heap.size := by
  rcases S.cells with h0 | ⟨b', o', ha, hb, hc⟩
  · omega
  · injection ha with ha; injection ha with e1 e2; subst e1; exact hb
theorem flat_get {z : Nat → Nat → Int} {n j : Nat} {u : Value} (h : (flat z n)[j]? = some u) : j < n * 4 ∧ u = .int .i64 (z (j / 4) (j % 4)) := by
  have lt := (List.getElem?_eq_some_iff.1 h).1
  rw [flat_len] at lt
  have e := flat_at z (n := n) (i := j / 4) (j := j % 4) (by omega) (by omega)
  rw [show j / 4 * 4 + j % 4 = j by omega, h] at e
  exact ⟨lt, by simpa using e⟩
theorem flat_one {z : Nat → Nat → Int} {n : Nat} : ∀ u ∈ flat z n, u.oneCell' = true := fun u hu => by
  unfold flat at hu; simp only [List.mem_map] at hu; obtain ⟨t, _, rfl⟩ := hu; rfl
theorem Rk.fresh (w : World) : Rk (w.alloc (.cells #[] 29)) w.heap.size (.slice (some ⟨w.heap.size, 0, none⟩) 0 0) [] :=
  ⟨⟨rfl, .inr ⟨w.heap.size, 0, #[], rfl, Nat.le_refl _, Hp.blk_new _ _, Nat.le_refl _, by unfold maxLen; omega, rfl, rfl⟩⟩⟩
/-- append of samples, as a step of a region that draws -/
theorem step_append_smps {w : World} {ops : Array Oper} {o : Oper} {a : Act} {K : Act → World → Prop} {Q : Exit → Act → World → Prop} {E : Prop} {base : Nat} {v : Value} {l m : List Sm} (hg : o.guard = none) (s xo : Operand)
    (ho : o.op = .call { callee := .builtin .append, args := #[s, xo], argTypes := #[41, 41] }) (hs : a.eval s = v) (own : Rk w base v l) (ad : Addr) (k c : Nat) (hx : a.eval xo = .slice (some ad) k c) (hk : Hid (m.length = k))
    (hc : ∀ j u, (flat (zof m) k)[j]? = some u → w.cell? (ad.add j) = some u) (small : l.length + k ≤ 1000000) (hb : base ≤ w.heap.size)
    (hK : ∀ v' w', Rk w' base v' (l ++ m) → w.grownBy w' v.ownBlock → K (a.put o.dst v') w') : if Region.wanted o (yielded ops a.tmps) = true then Oper.wp Try.prog o a w K Q else E := by
  have hw : Region.wanted o (yielded ops a.tmps) = true := by simp [Region.wanted, hg]
  rw [if_pos hw]
  obtain ⟨i0, hi, hz0, hz1, hz2⟩ := info_parts info_sample
  refine wp_append_own w s xo 41 ho base 29 i0 _ 4 32 Try.underlying41 hi hz0 hz1 hz2 rfl (by decide) v l.length _ hs own.own ad k c (flat (zof m) k) hx (flat_len _ _) hc flat_one ?_ ?_ hb ?_
  · unfold maxLen; omega
  · omega
  · intro v' w' h1 h2 _
    refine hK v' w' ⟨?_⟩ h2
    rw [List.length_append, flat_apps, hk.out]; exact h1
end Go.Proofs.Ytdaedhgbkamjpaa.JxW
