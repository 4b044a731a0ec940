/- Lists of candidates of the call's own: slices.Clone, slices.SortFunc, cluster.Order. -/
import Derived.Test.YtbbdeagllhmdiaaKx
import Derived.Test.YtbbdeagllhmdiaaCc
import Derived.Test.YtbbdeagllhmdiaaQb
import Derived.Test.YtbbdeagllhmdiaaShelf
import Derived.Outline
import Derived.Lib.SliceRun
set_option linter.unusedVariables false
set_option linter.unusedSimpArgs false
namespace Go.Proofs.Ytbbdeagllhmdiaa.CxW
open Go.RowKit
open Go.Proofs.Ytbbdeagllhmdiaa.Kx
theorem bl_next {w a b : World} (h : Below w.heap.size w a) (k : Below a.heap.size a b) : Below w.heap.size w b := h.trans (k.mono h.size)
def flat (z : Nat → Nat → Int) (n : Nat) : List Value := (List.range (n * 5)).map fun t => Value.int .i64 (z (t / 5) (t % 5))
theorem add_at (b o j : Nat) : (⟨b, o, none⟩ : Addr).add j = ⟨b, o + j, none⟩ := by
  unfold Addr.add; split
  · rename_i h; subst h; rfl
  · rfl
theorem flat_len (z : Nat → Nat → Int) (n : Nat) : (flat z n).length = n * 5 := by simp [flat]
theorem flat_at (z : Nat → Nat → Int) {n i j : Nat} (hi : i < n) (hj : j < 5) : (flat z n)[i * 5 + j]? = some (.int .i64 (z i j)) := by
  unfold flat
  rw [List.getElem?_map, List.getElem?_range (by omega)]
  simp only [Option.map_some]
  rw [show (i * 5 + j) / 5 = i by omega, show (i * 5 + j) % 5 = j by omega]
/-- n candidates that lie in block g of the call's own, from its head on -/
structure Oz (w : World) (g n : Nat) (z : Nat → Nat → Int) : Prop where
  lt : g < w.heap.size
  c : ∀ i j, i < n → j < 5 → w.cell? ⟨g, i * 5 + j, none⟩ = some (.int .i64 (z i j)) ∧ w.frozen? ⟨g, i * 5 + j, none⟩ = false
theorem Oz.cs {w : World} {g n : Nat} {z : Nat → Nat → Int} (o : Oz w g n z) : Cs w (some ⟨g, 0, none⟩) n z :=
  ⟨.inr ⟨g, 0, rfl, o.lt, fun i j hi hj => by rw [Nat.zero_add]; exact (o.c i j hi hj).1⟩⟩
theorem Oz.later {w w' : World} {g n : Nat} {z : Nat → Nat → Int} (o : Oz w g n z) (k : Below w.heap.size w w') : Oz w' g n z :=
  ⟨Nat.lt_of_lt_of_le o.lt k.size, fun i j hi hj => ⟨(k.cell (p := ⟨g, i * 5 + j, none⟩) o.lt).trans (o.c i j hi hj).1, (k.frozen (p := ⟨g, i * 5 + j, none⟩) o.lt).trans (o.c i j hi hj).2⟩⟩
theorem Oz.congr {w : World} {g n : Nat} {z z' : Nat → Nat → Int} (o : Oz w g n z) (h : ∀ i j, i < n → j < 5 → z i j = z' i j) : Oz w g n z' :=
  ⟨o.lt, fun i j hi hj => by rw [← h i j hi hj]; exact o.c i j hi hj⟩
theorem Cs.congr {w : World} {a : Option Addr} {n : Nat} {z z' : Nat → Nat → Int} (s : Cs w a n z) (h : ∀ i j, i < n → j < 5 → z i j = z' i j) : Cs w a n z' := by
  rcases s.cells with h0 | ⟨b, o, ha, hb, hc⟩
  · exact ⟨.inl h0⟩
  · exact ⟨.inr ⟨b, o, ha, hb, fun i j hi hj => by rw [← h i j hi hj]; exact hc i j hi hj⟩⟩
/-- v is a slice of the candidates l in memory of the call's own, from block B on -/
def Ol (w : World) (B : Nat) (v : Value) (l : List Cd) : Prop := (l = [] ∧ ∃ a c, v = .slice a 0 c) ∨ (0 < l.length ∧ ∃ g c, v = .slice (some ⟨g, 0, none⟩) l.length c ∧ B ≤ g ∧ Oz w g l.length (zof l) ∧ l.length ≤ c)
theorem Ol.later {w w' : World} {B : Nat} {v : Value} {l : List Cd} (o : Ol w B v l) (k : Below w.heap.size w w') : Ol w' B v l := by
  rcases o with h | ⟨h, g, c, hv, hg, hz, hc⟩
  · exact .inl h
  · exact .inr ⟨h, g, c, hv, hg, hz.later k, hc⟩
theorem Ol.mono {w : World} {B B' : Nat} {v : Value} {l : List Cd} (o : Ol w B v l) (h : B' ≤ B) : Ol w B' v l := by
  rcases o with h0 | ⟨h0, g, c, hv, hg, hz, hc⟩
  · exact .inl h0
  · exact .inr ⟨h0, g, c, hv, Nat.le_trans h hg, hz, hc⟩
/-- .. read -/
theorem Ol.rd {w : World} {B : Nat} {v : Value} {l : List Cd} (o : Ol w B v l) : ∃ a c, v = .slice a l.length c ∧ Cs w a l.length (zof l) := by
  rcases o with ⟨rfl, a, c, hv⟩ | ⟨h0, g, c, hv, hg, hz, hc⟩
  · exact ⟨a, c, hv, ⟨.inl rfl⟩⟩
  · exact ⟨_, c, hv, hz.cs⟩
theorem info_cand : (Try.prog.info? 36).map (fun i => (i.zero, i.size, i.bytes)) = some (some (.agg #[.int .i64 0, .int .i64 0, .int .i64 0, .int .i64 0, .int .i64 0]), 5, 40) := by kernel_rfl
theorem own_form {w : World} {base n : Nat} {v : Value} {z : Nat → Nat → Int} (h : w.ownsRow base 36 5 v n (flat z n)) (hn : 0 < n) : ∃ g cap, v = .slice (some ⟨g, 0, none⟩) n cap ∧ base ≤ g ∧ Oz w g n z ∧ n ≤ cap := by
  obtain ⟨_, h2⟩ := h
  rcases h2 with ⟨_, h0⟩ | ⟨g, cap, cur, hv, hg, hh, hc, _, hs, ht⟩
  · omega
  · refine ⟨g, cap, hv, hg, ⟨Hp.blk_lt hh, fun i j hi hj => ⟨Hp.blk_cell hh ?_, Hp.blk_free hh⟩⟩, hc⟩
    have e := flat_at z hi hj
    rw [← ht, List.getElem?_take, if_pos (by omega)] at e
    rw [← Array.getElem?_toList]; exact e
set_option maxHeartbeats 4000000 in
theorem clone_any (a : Option Addr) (n cap : Nat) (z : Nat → Nat → Int) (w : World) (S : Cs w a n z) (h0 : a = none → n = 0 ∧ cap = 0) (hn : n ≤ 12) :
    Calls Try.prog 22 #[.slice a n cap] w fun e w' => ∃ v, e = .returned v ∧ ((n = 0 ∧ ∃ a' c', v = .slice a' 0 c') ∨ (0 < n ∧ ∃ g c', v = .slice (some ⟨g, 0, none⟩) n c' ∧ w.heap.size ≤ g ∧ Oz w' g n z ∧ n ≤ c')) ∧ Below w.heap.size w w' := by
  rcases a with _ | x
  · obtain ⟨rfl, rfl⟩ := h0 rfl
    clear S h0
    have hq := fun (W : World) => Lib.run_eql_slice_nil (P := Try.prog) W 22 36 none 0 0 0 0 Try.underlying22
    go_enter Try.func22, Try.ntmps22
    go_wp2_with (fail)
    go_ret
    exact ⟨_, rfl, .inl ⟨by simp, _, _, rfl⟩, Below.refl _ _⟩
  · have hc : ∀ j u, (flat z n)[j]? = some u → w.cell? (x.add j) = some u := by
      intro j u hj
      have hj5 : j < n * 5 := by
        have := (List.getElem?_eq_some_iff.1 hj).1
        rwa [flat_len] at this
      rcases S.cells with h | ⟨b, o, ha, _, hh⟩
      · omega
      · obtain rfl : x = ⟨b, o, none⟩ := by simpa using ha
        have e := flat_at z (n := n) (i := j / 5) (j := j % 5) (by omega) (by omega)
        rw [show j / 5 * 5 + j % 5 = j by omega, hj] at e
        have := hh (j / 5) (j % 5) (by omega) (by omega)
        rw [show j / 5 * 5 + j % 5 = j by omega] at this
        rw [e, add_at]; exact this
    have HC : Hid (∀ j u, (flat z n)[j]? = some u → (w.alloc (.cells #[] 36)).cell? (x.add j) = some u) := Lib.hid fun j u hj => by
      have h1 := hc j u hj
      have hb : (x.add j).block < w.heap.size := by
        rcases S.cells with h | ⟨b, o, ha, hb, _⟩
        · have := (List.getElem?_eq_some_iff.1 hj).1
          rw [flat_len] at this; omega
        · obtain rfl : x = ⟨b, o, none⟩ := by simpa using ha
          rw [add_at]; exact hb
      rw [World.cell?_alloc_lt w _ _ hb]; exact h1
    clear S h0 hc
    have hq := fun (W : World) => Lib.run_eql_slice_nil (P := Try.prog) W 22 36 (some x) n cap 0 0 Try.underlying22
    obtain ⟨i0, hi, hz0, hz1, hz2⟩ := info_parts info_cand
    have HI := Lib.hid hi; have H0 := Lib.hid hz0; have H1 := Lib.hid hz1; have H2 := Lib.hid hz2
    have HO : Hid ((w.alloc (.cells #[] 36)).ownsRow w.heap.size 36 5 (.slice (some ⟨w.heap.size, 0, none⟩) 0 0) 0 []) :=
      Lib.hid ⟨rfl, .inr ⟨w.heap.size, 0, #[], rfl, Nat.le_refl _, Hp.blk_new _ _, Nat.le_refl _, by unfold maxLen; omega, rfl, rfl⟩⟩
    have Q1 : Hid (∀ u ∈ flat z n, u.oneCell' = true) := Lib.hid fun u hu => by
      unfold flat at hu; simp only [List.mem_map] at hu; obtain ⟨t, _, rfl⟩ := hu; rfl
    clear hi hz0 hz1 hz2
    go_enter Try.func22, Try.ntmps22
    go_wp2_with (at_builtin; refine wpList_append_own _ rfl (.tmp 5) (.tmp 6) 22 rfl w.heap.size 36 i0 _ 5 40 Try.underlying22 HI.out H0.out H1.out H2.out rfl (by decide) _ 0 [] rfl HO.out x n cap (flat z n) rfl (flat_len z n) HC.out Q1.out (by unfold maxLen; omega) (by omega) (by simp) ?_; intro v1 w1 own1 grow1 _; have HO1 := Lib.hid own1; have HG1 := Lib.hid grow1; clear own1 grow1)
    go_ret
    have hB : Below w.heap.size w w1 := ((Below.refl w.heap.size w).alloc (Nat.le_refl _) _).grown HG1.out (by simp) (fun i hi => by have e : some w.heap.size = some i := hi; injection e with e; omega)
    refine ⟨v1, rfl, ?_, hB⟩
    have ho := HO1.out
    rw [Nat.zero_add, List.nil_append] at ho
    by_cases hp : 0 < n
    · obtain ⟨g, c', hv, hg, hw, hcap⟩ := own_form ho hp
      exact .inr ⟨hp, g, c', hv, hg, hw, hcap⟩
    · obtain rfl : n = 0 := by omega
      rcases ho.2 with ⟨hv, _⟩ | ⟨g, c', _, hv, _⟩
      · exact .inl ⟨rfl, none, 0, hv⟩
      · exact .inl ⟨rfl, _, c', hv⟩
/-- slices.Clone of a list -/
theorem clone_list (a : Option Addr) (l : List Cd) (cap : Nat) (w : World) (S : Cs w a l.length (zof l)) (h0 : a = none → l.length = 0 ∧ cap = 0) (hn : l.length ≤ 12) :
    Calls Try.prog 22 #[.slice a l.length cap] w fun e w' => ∃ v, e = .returned v ∧ Ol w' w.heap.size v l ∧ Below w.heap.size w w' := by
  refine (clone_any a l.length cap (zof l) w S h0 hn).mono ?_
  rintro e w' ⟨v, he, h | ⟨h, g, c, hv, hg, hz, hc⟩, b⟩
  · exact ⟨v, he, .inl ⟨List.eq_nil_of_length_eq_zero h.1, h.2⟩, b⟩
  · exact ⟨v, he, .inr ⟨h, g, c, hv, hg, hz, hc⟩, b⟩
def enc (x : Cd) : List Value := [.int .i64 x.a, .int .i64 x.b, .int .i64 x.c, .int .i64 x.d, .int .i64 x.e]
/-- what the closure of Order returns -/
def cf (x y : Cd) : Int := if Lib.compareInt x.e y.e ≠ 0 then Lib.compareInt x.e y.e else if Lib.compareInt x.c y.c ≠ 0 then Lib.compareInt x.c y.c else Lib.compareInt x.a y.a
theorem cmp_cases (x y : Int) : (x < y ∧ Lib.compareInt x y = -1) ∨ (x = y ∧ Lib.compareInt x y = 0) ∨ (y < x ∧ Lib.compareInt x y = 1) := by
  unfold Lib.compareInt
  by_cases h1 : x < y
  · exact .inl ⟨h1, by simp [h1]⟩
  · by_cases h2 : y < x
    · exact .inr (.inr ⟨h2, by simp [h1, h2]⟩)
    · exact .inr (.inl ⟨by omega, by simp [h1, h2]⟩)
theorem cf_lt (x y : Cd) : Go.Proofs.ltOf cf x y = decide (bef x y) := by
  unfold Go.Proofs.ltOf
  rw [Bool.eq_iff_iff]
  simp only [decide_eq_true_eq]
  unfold cf bef
  rcases cmp_cases x.e y.e with ⟨h1, e1⟩ | ⟨h1, e1⟩ | ⟨h1, e1⟩ <;> rcases cmp_cases x.c y.c with ⟨h2, e2⟩ | ⟨h2, e2⟩ | ⟨h2, e2⟩ <;> rcases cmp_cases x.a y.a with ⟨h3, e3⟩ | ⟨h3, e3⟩ | ⟨h3, e3⟩ <;> rw [e1, e2, e3] <;> simp <;> omega
end Go.Proofs.Ytbbdeagllhmdiaa.CxW
