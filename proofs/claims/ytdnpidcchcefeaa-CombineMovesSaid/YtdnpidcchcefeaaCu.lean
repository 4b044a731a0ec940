/- slices.Clone of candidates; the law CombineMoves of layer 26. -/
import Derived.Test.YtdnpidcchcefeaaCn
import Derived.Test.YtdnpidcchcefeaaCs
import Derived.Test.YtdnpidcchcefeaaQb
import Derived.Outline
import Derived.Lib.SliceRun
set_option linter.unusedVariables false
set_option linter.unusedSimpArgs false
namespace Go.Proofs.Ytdnpidcchcefeaa.CxW
open Go.RowKit Rw
def flat (z : Nat → Nat → Int) (n : Nat) : List Value := (List.range (n * 5)).map fun t => Value.int .i64 (z (t / 5) (t % 5))
theorem add_at (b o j : Nat) : (⟨b, o, none⟩ : Addr).add j = ⟨b, o + j, none⟩ := by
  unfold Addr.add; split
  · rename_i h; subst h; rfl
  · rfl
theorem flat_len (z : Nat → Nat → Int) (n : Nat) : (flat z n).length = n * 5 := by simp [flat]
theorem flat_at (z : Nat → Nat → Int) {n i j : Nat} (hi : i < n) (hj : j < 5) : (flat z n)[i * 5 + j]? = some (.int .i64 (z i j)) := by
  unfold flat
  rw [List.getElem?_map, List.getElem?_range (by omega)]
  simp only [Option.map_some]
  rw [show (i * 5 + j) / 5 = i by omega, show (i * 5 + j) % 5 = j by omega]
/-- a block of the call's own that holds n candidates -/
structure Ow (w : World) (g n : Nat) (z : Nat → Nat → Int) : Prop where
  h : ∃ cur, w.heap[g]? = some (.cells cur 34 (0, 0)) ∧ ∀ i j, i < n → j < 5 → cur[i * 5 + j]? = some (.int .i64 (z i j))
theorem Ow.cs {w : World} {g n : Nat} {z : Nat → Nat → Int} (o : Ow w g n z) : Cs w (some ⟨g, 0, none⟩) n z := by
  obtain ⟨cur, hb, hc⟩ := o.h
  exact ⟨.inr ⟨g, 0, rfl, Hp.blk_lt hb, fun i j hi hj => by
    rw [Nat.zero_add]; exact Hp.blk_cell hb (hc i j hi hj)⟩⟩
theorem Ow.later {w w' : World} {g n : Nat} {z : Nat → Nat → Int} (o : Ow w g n z) (k : Below w.heap.size w w') : Ow w' g n z := by
  obtain ⟨cur, hb, hc⟩ := o.h
  exact ⟨cur, (k.block g (Hp.blk_lt hb)).trans hb, hc⟩
theorem Ow.at_ {w : World} {g n : Nat} {z : Nat → Nat → Int} (o : Ow w g n z) {k : Nat} (hk : k < n) : w.cell? ⟨g, k * 5 + 1, none⟩ = some (.int .i64 (z k 1)) ∧ w.frozen? ⟨g, k * 5 + 1, none⟩ = false := by
  obtain ⟨cur, hb, hc⟩ := o.h
  exact ⟨Hp.blk_cell hb (hc k 1 hk (by omega)), Hp.blk_free hb⟩
theorem Ow.lt {w : World} {g n : Nat} {z : Nat → Nat → Int} (o : Ow w g n z) : g < w.heap.size := by
  obtain ⟨cur, hb, hc⟩ := o.h; exact Hp.blk_lt hb
theorem Ow.step {w : World} {g n : Nat} {z : Nat → Nat → Int} {d : Int} {k : Nat} (o : Ow w g n (Cx.shift z d k)) (hk : k < n) : Ow (w.setCell ⟨g, k * 5 + 1, none⟩ (.int .i64 (z k 1 + d))) g n (Cx.shift z d (k + 1)) := by
  obtain ⟨cur, hb, hc⟩ := o.h
  refine ⟨_, Hp.blk_set hb, fun i j hi hj => ?_⟩
  have h1 := hc i j hi hj
  have hsz : i * 5 + j < cur.size := (Array.getElem?_eq_some_iff.1 h1).1
  by_cases e : i = k ∧ j = 1
  · obtain ⟨rfl, rfl⟩ := e
    rw [Array.getElem?_setIfInBounds_self_of_lt hsz]
    unfold Cx.shift; rw [if_pos ⟨rfl, by omega⟩]
  · rw [Array.getElem?_setIfInBounds_ne (by omega), h1]
    unfold Cx.shift
    by_cases e2 : j = 1 ∧ i < k
    · rw [if_pos e2, if_pos ⟨e2.1, by omega⟩]
    · rw [if_neg e2, if_neg (by omega)]
theorem shift_cur (z : Nat → Nat → Int) (d : Int) (k : Nat) : Cx.shift z d k k 1 = z k 1 := by unfold Cx.shift; rw [if_neg (by omega)]
theorem info_cand : (Try.prog.info? 34).map (fun i => (i.zero, i.size, i.bytes)) = some (some (.agg #[.int .i64 0, .int .i64 0, .int .i64 0, .int .i64 0, .int .i64 0]), 5, 40) := by kernel_rfl
theorem own_form {w : World} {base n : Nat} {v : Value} {z : Nat → Nat → Int} (h : w.ownsRow base 34 5 v n (flat z n)) (hn : 0 < n) : ∃ g cap, v = .slice (some ⟨g, 0, none⟩) n cap ∧ base ≤ g ∧ Ow w g n z := by
  obtain ⟨_, h2⟩ := h
  rcases h2 with ⟨_, h0⟩ | ⟨g, cap, cur, hv, hg, hh, hc, _, hs, ht⟩
  · omega
  · refine ⟨g, cap, hv, hg, ⟨cur, hh, fun i j hi hj => ?_⟩⟩
    have e := flat_at z hi hj
    rw [← ht, List.getElem?_take, if_pos (by omega)] at e
    rw [← Array.getElem?_toList]; exact e
set_option maxHeartbeats 4000000 in
theorem clone_any (a : Option Addr) (n cap : Nat) (z : Nat → Nat → Int) (w : World) (S : Cs w a n z) (h0 : a = none → n = 0 ∧ cap = 0) (hn : n ≤ 12) :
    Calls Try.prog 20 #[.slice a n cap] w fun e w' => ∃ v, e = .returned v ∧ ((n = 0 ∧ ∃ a' c', v = .slice a' 0 c') ∨ (0 < n ∧ ∃ g c', v = .slice (some ⟨g, 0, none⟩) n c' ∧ w.heap.size ≤ g ∧ Ow w' g n z)) ∧ Below w.heap.size w w' := by
  rcases a with _ | x
  · obtain ⟨rfl, rfl⟩ := h0 rfl
    clear S h0
    have hq := fun (W : World) => Lib.run_eql_slice_nil (P := Try.prog) W 22 34 none 0 0 0 0 Try.underlying22
    go_enter Try.func20, Try.ntmps20
    go_wp2_with (fail)
    go_ret
    exact ⟨_, rfl, .inl ⟨by simp, _, _, rfl⟩, Below.refl _ _⟩
  · have hc : ∀ j u, (flat z n)[j]? = some u → w.cell? (x.add j) = some u := by
      intro j u hj
      have hj5 : j < n * 5 := by
        have := (List.getElem?_eq_some_iff.1 hj).1
        rwa [flat_len] at this
      rcases S.cells with h | ⟨b, o, ha, _, hh⟩
      · omega
      · obtain rfl : x = ⟨b, o, none⟩ := by simpa using ha
        have e := flat_at z (n := n) (i := j / 5) (j := j % 5) (by omega) (by omega)
        rw [show j / 5 * 5 + j % 5 = j by omega, hj] at e
        have := hh (j / 5) (j % 5) (by omega) (by omega)
        rw [show j / 5 * 5 + j % 5 = j by omega] at this
        rw [e, add_at]; exact this
    have HC : Hid (∀ j u, (flat z n)[j]? = some u → (w.alloc (.cells #[] 34)).cell? (x.add j) = some u) := Lib.hid fun j u hj => by
      have h1 := hc j u hj
      have hb : (x.add j).block < w.heap.size := by
        rcases S.cells with h | ⟨b, o, ha, hb, _⟩
        · have := (List.getElem?_eq_some_iff.1 hj).1
          rw [flat_len] at this; omega
        · obtain rfl : x = ⟨b, o, none⟩ := by simpa using ha
          rw [add_at]; exact hb
      rw [World.cell?_alloc_lt w _ _ hb]; exact h1
    clear S h0 hc
    have hq := fun (W : World) => Lib.run_eql_slice_nil (P := Try.prog) W 22 34 (some x) n cap 0 0 Try.underlying22
    obtain ⟨i0, hi, hz0, hz1, hz2⟩ := info_parts info_cand
    have HI := Lib.hid hi; have H0 := Lib.hid hz0; have H1 := Lib.hid hz1; have H2 := Lib.hid hz2
    have HO : Hid ((w.alloc (.cells #[] 34)).ownsRow w.heap.size 34 5 (.slice (some ⟨w.heap.size, 0, none⟩) 0 0) 0 []) :=
      Lib.hid ⟨rfl, .inr ⟨w.heap.size, 0, #[], rfl, Nat.le_refl _, Hp.blk_new _ _, Nat.le_refl _, by unfold maxLen; omega, rfl, rfl⟩⟩
    have Q1 : Hid (∀ u ∈ flat z n, u.oneCell' = true) := Lib.hid fun u hu => by
      unfold flat at hu; simp only [List.mem_map] at hu; obtain ⟨t, _, rfl⟩ := hu; rfl
    clear hi hz0 hz1 hz2
    go_enter Try.func20, Try.ntmps20
    go_wp2_with (at_builtin; refine wpList_append_own _ rfl (.tmp 5) (.tmp 6) 22 rfl w.heap.size 34 i0 _ 5 40 Try.underlying22 HI.out H0.out H1.out H2.out rfl (by decide) _ 0 [] rfl HO.out x n cap (flat z n) rfl (flat_len z n) HC.out Q1.out (by unfold maxLen; omega) (by omega) (by simp) ?_; intro v1 w1 own1 grow1 _; have HO1 := Lib.hid own1; have HG1 := Lib.hid grow1; clear own1 grow1)
    go_ret
    have hB : Below w.heap.size w w1 := ((Below.refl w.heap.size w).alloc (Nat.le_refl _) _).grown HG1.out (by simp) (fun i hi => by have e : some w.heap.size = some i := hi; injection e with e; omega)
    refine ⟨v1, rfl, ?_, hB⟩
    have ho := HO1.out
    rw [Nat.zero_add, List.nil_append] at ho
    by_cases hp : 0 < n
    · obtain ⟨g, c', hv, hg, hw⟩ := own_form ho hp
      exact .inr ⟨hp, g, c', hv, hg, hw⟩
    · obtain rfl : n = 0 := by omega
      rcases ho.2 with ⟨hv, _⟩ | ⟨g, c', _, hv, _⟩
      · exact .inl ⟨rfl, none, 0, hv⟩
      · exact .inl ⟨rfl, _, c', hv⟩
set_option maxHeartbeats 4000000 in
theorem moves_no (a : Option Addr) (n cap : Nat) (z : Nat → Nat → Int) (d k1 : Int) (w : World) (S : Cs w a n z) (hk : Hid (Cx.chk n z = k1)) (h : (40 < n) ∨ (n ≤ 40 ∧ d < -1125899906842624) ∨ (n ≤ 40 ∧ -1125899906842624 ≤ d ∧ 1125899906842624 < d) ∨ (n ≤ 40 ∧ -1125899906842624 ≤ d ∧ d ≤ 1125899906842624 ∧ (k1 != 0) = true)) :
    Calls Try.prog 8 #[.slice a n cap, .int .i64 d] w fun e w' => e = .returned (.bool true) ∧ Below w.heap.size w w' := by
  have hS := Lib.hid S
  clear S
  rcases h with h | ⟨h, h2⟩ | ⟨h, h2, h3⟩ | ⟨h, h2, h3, h4⟩
  · have h' : (40 : Int) < (n : Int) := by omega
    clear h hk
    go_enter Try.func8, Try.ntmps8
    go_wp2_with (fail)
    refine (awake26_any _).mono ?_
    rintro e w1 ⟨rfl, B1⟩
    have HB1 := Lib.hid B1
    clear B1
    go_wp2_with (fail)
    go_ret
    exact ⟨rfl, HB1.out⟩
  · have h' : ¬ (40 : Int) < (n : Int) := by omega
    clear h hk
    go_enter Try.func8, Try.ntmps8
    go_wp2_with (fail)
    refine (awake26_any _).mono ?_
    rintro e w1 ⟨rfl, B1⟩
    have HB1 := Lib.hid B1
    clear B1
    go_wp2_with (fail)
    go_ret
    exact ⟨rfl, HB1.out⟩
  · have h' : ¬ (40 : Int) < (n : Int) := by omega
    clear h hk
    go_enter Try.func8, Try.ntmps8
    go_wp2_with (fail)
    refine (awake26_any _).mono ?_
    rintro e w1 ⟨rfl, B1⟩
    have HB1 := Lib.hid B1
    clear B1
    go_wp2_with (fail)
    go_ret
    exact ⟨rfl, HB1.out⟩
  · have h' : ¬ (40 : Int) < (n : Int) := by omega
    clear h
    go_enter Try.func8, Try.ntmps8
    go_wp2_with (fail)
    refine (check_any a n cap z _ hS.out).mono ?_
    rw [hk.out]
    rintro e w1 ⟨rfl, B1⟩
    have HB1 := Lib.hid B1
    clear B1
    go_wp2_with (fail)
    refine (awake26_any _).mono ?_
    rintro e w2 ⟨rfl, B2⟩
    have HB2 := Lib.hid (HB1.out.trans (B2.mono HB1.out.size))
    clear B2
    go_wp2_with (fail)
    go_ret
    exact ⟨rfl, HB2.out⟩
set_option maxHeartbeats 4000000 in
theorem moves_zero (a : Option Addr) (cap : Nat) (z : Nat → Nat → Int) (d : Int) (w : World) (h0 : a = none → cap = 0) (d1 : -1125899906842624 ≤ d) (d2 : d ≤ 1125899906842624) :
    Calls Try.prog 8 #[.slice a 0 cap, .int .i64 d] w fun e w' => e = .returned (.bool true) ∧ Below w.heap.size w w' := by
  have hm : Cx.meanE 0 z = 14 := by unfold Cx.meanE; simp [Cx.chk, Cx.scan]
  have hm0 : Cx.mean 0 z = 0 := by unfold Cx.mean; rw [if_neg (by omega)]
  have hc : Cx.chk 0 z = 0 := rfl
  have HM := Lib.hid hm; have HM0 := Lib.hid hm0; have HC := Lib.hid hc; have H0 := Lib.hid h0
  clear hm hm0 hc h0
  go_enter Try.func8, Try.ntmps8
  go_wp2_with (fail)
  refine (check_any a 0 cap z _ ⟨.inl rfl⟩).mono ?_
  rw [HC.out]
  rintro e w1 ⟨rfl, B1⟩
  have HB1 := Lib.hid B1
  clear B1
  go_wp2_with (fail)
  refine (clone_any a 0 cap z _ ⟨.inl rfl⟩ (fun h => ⟨rfl, H0.out h⟩) (by omega)).mono ?_
  rintro e w2 ⟨v, rfl, hv, B2⟩
  have HB2 := Lib.hid (HB1.out.trans (B2.mono HB1.out.size))
  clear B2
  rcases hv with ⟨_, a', c', rfl⟩ | ⟨h, _⟩
  rotate_left
  · omega
  go_wp2_with (fail)
  go_loopw [32] (fun c wr => c = .int .i64 0 ∧ wr = w2) (fun c _ => 0)
  case atStart => exact ⟨rfl, rfl⟩
  case round =>
    obtain ⟨rfl, rfl⟩ := hrel
    go_wp2_with (fail)
    refine (mean_any a 0 cap z _ ⟨.inl rfl⟩).mono ?_
    rw [HM.out, HM0.out]
    rintro e w3 ⟨rfl, B3⟩
    have HB3 := Lib.hid (HB2.out.trans (B3.mono HB2.out.size))
    clear B3
    go_wp2_with (fail)
    refine (mean_any a' 0 c' z _ ⟨.inl rfl⟩).mono ?_
    rw [HM.out, HM0.out]
    rintro e w4 ⟨rfl, B4⟩
    have HB4 := Lib.hid (HB3.out.trans (B4.mono HB3.out.size))
    clear B4
    go_wp2_with (fail)
    refine (check_any a' 0 c' z _ ⟨.inl rfl⟩).mono ?_
    rw [HC.out]
    rintro e w5 ⟨rfl, B5⟩
    have HB5 := Lib.hid (HB4.out.trans (B5.mono HB4.out.size))
    clear B5
    go_wp2_with (fail)
    refine (awake26_any _).mono ?_
    rintro e w6 ⟨rfl, B6⟩
    have HB6 := Lib.hid (HB5.out.trans (B6.mono HB5.out.size))
    clear B6
    go_wp2_with (fail)
    go_ret
    exact ⟨rfl, HB6.out⟩
set_option maxHeartbeats 8000000 in
theorem moves_yes (a : Option Addr) (n cap : Nat) (z : Nat → Nat → Int) (d : Int) (w : World) (S : Cs w a n z) (hc : Cx.chk n z = 0) (hn : 0 < n) (ha : a = none → n = 0 ∧ cap = 0) (d1 : -1125899906842624 ≤ d) (d2 : d ≤ 1125899906842624) :
    Calls Try.prog 8 #[.slice a n cap, .int .i64 d] w fun e w' => e = .returned (.bool true) ∧ Below w.heap.size w w' := by
  have hS := Lib.hid S; have hC := Lib.hid hc; have HA := Lib.hid ha
  obtain ⟨hn12, _, h3⟩ := Cx.chk_ok hc
  have H3 := Lib.hid h3
  have h' : ¬ (40 : Int) < (n : Int) := by omega
  obtain ⟨k1, hk1⟩ : ∃ e, Cx.chk n (Cx.shift z d n) = e := ⟨_, rfl⟩
  have HK := Lib.hid hk1
  clear S hc h3 ha hk1
  go_enter Try.func8, Try.ntmps8
  go_wp2_with (fail)
  refine (check_any a n cap z _ hS.out).mono ?_
  rw [hC.out]
  rintro e w1 ⟨rfl, B1⟩
  have HB1 := Lib.hid B1
  have HS1 := Lib.hid (hS.out.later B1)
  clear B1
  go_wp2_with (fail)
  refine (clone_any a n cap z _ HS1.out HA.out hn12).mono ?_
  rintro e w2 ⟨v, rfl, hv, B2⟩
  have HB2 := Lib.hid (HB1.out.trans (B2.mono HB1.out.size))
  have HS2 := Lib.hid (HS1.out.later B2)
  clear B2
  rcases hv with ⟨h, _⟩ | ⟨_, g, c', rfl, hg, ow⟩
  · omega
  have hwg : w.heap.size ≤ g := by have := HB1.out.size; omega
  have HW := Lib.hid ow
  have HS3 := Lib.hid (hS.out)
  clear hg ow HB1 HS1
  go_wp2_with (fail)
  go_loopw [32] (fun c wr => ∃ k : Nat, k ≤ n ∧ c = .int .i64 k ∧ Ow wr g n (Cx.shift z d k) ∧ Below w.heap.size w wr) (fun c _ => n - (intOf c).toNat)
  case atStart => exact ⟨0, by omega, rfl, by rw [Cx.shift_zero]; exact HW.out, HB2.out⟩
  case round =>
    obtain ⟨k, hk, rfl, hw, hB⟩ := hrel
    have HW2 := Lib.hid hw; have HB := Lib.hid hB
    clear hw hB
    by_cases hlt : k < n
    · obtain ⟨q1, q2⟩ := HW2.out.at_ hlt
      rw [shift_cur] at q1
      have hg := HW2.out.lt
      obtain ⟨_, _, v0, v1, _, _⟩ := H3.out k hlt
      have HX := Lib.hid (HW2.out.step hlt)
      obtain ⟨x, hx⟩ : ∃ x, z k 1 = x := ⟨_, rfl⟩
      rw [hx] at q1 v0 v1
      have HXx := Lib.hid hx
      clear hx
      go_wp2_with (fail)
      go_roundw
      case rel => exact ⟨k + 1, by omega, by go_num, by have := HX.out; rw [HXx.out] at this; exact this, Below.setCell HB.out hwg _⟩
      case measure => simp [intOf]; omega
    · obtain rfl : k = n := by omega
      have HSl := Lib.hid (hS.out.later HB.out)
      have HSk := Lib.hid HW2.out.cs
      clear HW2
      go_wp2_with (fail)
      refine (mean_yes a k cap z _ HSl.out hC.out hn).mono ?_
      obtain ⟨m, hm⟩ : ∃ m, Cx.mean k z = m := ⟨_, rfl⟩
      obtain ⟨m', hm'⟩ : ∃ m, Cx.mean k (Cx.shift z d k) = m := ⟨_, rfl⟩
      have HM := Lib.hid hm; have HM' := Lib.hid hm'
      rw [hm]
      rintro e w3 ⟨rfl, B3⟩
      have HB3 := Lib.hid (HB.out.trans (B3.mono HB.out.size))
      have HSl3 := Lib.hid (HSl.out.later B3)
      have HSk3 := Lib.hid (HSk.out.later B3)
      clear B3 hm hm' HSl HSk HB
      by_cases hk0 : k1 = 0
      · subst hk0
        go_wp2_with (fail)
        refine (mean_yes _ k c' (Cx.shift z d k) _ HSk3.out HK.out hn).mono ?_
        rw [HM'.out]
        rintro e w4 ⟨rfl, B4⟩
        have HB4 := Lib.hid (HB3.out.trans (B4.mono HB3.out.size))
        have HSl4 := Lib.hid (HSl3.out.later B4)
        have HSk4 := Lib.hid (HSk3.out.later B4)
        clear B4 HB3 HSl3 HSk3
        go_wp2_with (fail)
        refine (check_any _ k c' (Cx.shift z d k) _ HSk4.out).mono ?_
        rw [HK.out]
        rintro e w5 ⟨rfl, B5⟩
        have HB5 := Lib.hid (HB4.out.trans (B5.mono HB4.out.size))
        have HSl5 := Lib.hid (HSl4.out.later B5)
        have HSk5 := Lib.hid (HSk4.out.later B5)
        clear B5 HB4 HSl4 HSk4
        have em : m' = m + d := by rw [← HM.out, ← HM'.out]; exact Cx.shift_mean hC.out HK.out hn
        have bm := Cx.mean_bd hC.out hn
        rw [HM.out] at bm
        have m0 := bm.1; have m1 := bm.2
        have ed : m' - m = d := by omega
        have hmd : m' = m + d := em
        subst hmd
        clear em bm
        have EJ := Lib.hid (Cx.shift_jit hC.out HK.out hn); have ED := Lib.hid (Cx.shift_dist hC.out HK.out hn)
        obtain ⟨J, hJ⟩ : ∃ m, Cx.jit k z = m := ⟨_, rfl⟩
        obtain ⟨D, hD⟩ : ∃ m, Cx.dist k z = m := ⟨_, rfl⟩
        have HJ := Lib.hid hJ; have HD := Lib.hid hD
        clear hJ hD
        have hdd : (m + d - m == d) = true := by simp; omega
        clear ed
        go_wp2_with (fail)
        refine (jitter_any _ k c' (Cx.shift z d k) _ HSk5.out).mono ?_
        rw [EJ.out, HJ.out]
        rintro e w6 ⟨rfl, B6⟩
        have HB6 := Lib.hid (HB5.out.trans (B6.mono HB5.out.size))
        have HSl6 := Lib.hid (HSl5.out.later B6)
        have HSk6 := Lib.hid (HSk5.out.later B6)
        clear B6 HB5 HSl5 HSk5
        go_wp2_with (fail)
        refine (jitter_any _ k cap z _ HSl6.out).mono ?_
        rw [HJ.out]
        rintro e w7 ⟨rfl, B7⟩
        have HB7 := Lib.hid (HB6.out.trans (B7.mono HB6.out.size))
        have HSl7 := Lib.hid (HSl6.out.later B7)
        have HSk7 := Lib.hid (HSk6.out.later B7)
        clear B7 HB6 HSl6 HSk6
        go_wp2_with (fail)
        refine (dist_any _ k c' (Cx.shift z d k) _ HSk7.out).mono ?_
        rw [ED.out, HD.out]
        rintro e w8 ⟨rfl, B8⟩
        have HB8 := Lib.hid (HB7.out.trans (B8.mono HB7.out.size))
        have HSl8 := Lib.hid (HSl7.out.later B8)
        have HSk8 := Lib.hid (HSk7.out.later B8)
        clear B8 HB7 HSl7 HSk7
        go_wp2_with (fail)
        refine (dist_any _ k cap z _ HSl8.out).mono ?_
        rw [HD.out]
        rintro e w9 ⟨rfl, B9⟩
        have HB9 := Lib.hid (HB8.out.trans (B9.mono HB8.out.size))
        have HSl9 := Lib.hid (HSl8.out.later B9)
        have HSk9 := Lib.hid (HSk8.out.later B9)
        clear B9 HB8 HSl8 HSk8
        go_wp2_with (fail)
        refine (weights_any _ k c' (Cx.shift z d k) _ HSk9.out).mono ?_
        rintro e w10 ⟨v1, rfl, R1, B10⟩
        have HB10 := Lib.hid (HB9.out.trans (B10.mono HB9.out.size))
        have HSl10 := Lib.hid (HSl9.out.later B10)
        have HR1 := Lib.hid (Rd.of_row R1)
        clear B10 R1 HB9 HSl9 HSk9
        go_wp2_with (fail)
        refine (weights_any _ k cap z _ HSl10.out).mono ?_
        rintro e w11 ⟨v2, rfl, R2, B11⟩
        have HB11 := Lib.hid (HB10.out.trans (B11.mono HB10.out.size))
        have HR2 := Lib.hid (Rd.of_row R2)
        have HR3 := Lib.hid (HR1.out.later B11)
        clear B11 R2 HB10 HSl10 HR1
        have ew : Cx.wts k (Cx.shift z d k) = Cx.wts k z := by unfold Cx.wts; rw [if_pos HK.out, if_pos hC.out, Cx.shift_wts]
        have HR4 : Hid (Rd w11 v1 (Cx.wts k z)) := Lib.hid (by have := HR3.out; rw [ew] at this; exact this)
        clear ew HR3
        go_wp2_with (fail)
        refine (equal_same _ HR4.out HR2.out (wts_len k z)).mono ?_
        rintro e w' ⟨rfl, nq, rfl⟩
        have HB12 := Lib.hid (Hp.drewN HB11.out nq)
        clear HB11 HR2 HR4
        go_wp2_with (fail)
        refine (awake26_any _).mono ?_
        rintro e w13 ⟨rfl, B13⟩
        have HB13 := Lib.hid (HB12.out.trans (B13.mono HB12.out.size))
        clear B13 HB12
        go_wp2_with (fail)
        go_ret
        exact ⟨rfl, HB13.out⟩
      · have hkb : (k1 != 0) = true := by simpa using hk0
        clear hk0
        go_wp2_with (fail)
        refine (mean_any _ k c' (Cx.shift z d k) _ HSk3.out).mono ?_
        rintro e w4 ⟨rfl, B4⟩
        have HB4 := Lib.hid (HB3.out.trans (B4.mono HB3.out.size))
        have HSk4 := Lib.hid (HSk3.out.later B4)
        clear B4 HB3 HSl3 HSk3
        go_wp2_with (fail)
        refine (check_any _ k c' (Cx.shift z d k) _ HSk4.out).mono ?_
        rw [HK.out]
        rintro e w5 ⟨rfl, B5⟩
        have HB5 := Lib.hid (HB4.out.trans (B5.mono HB4.out.size))
        clear B5 HB4 HSk4
        go_wp2_with (fail)
        refine (awake26_any _).mono ?_
        rintro e w6 ⟨rfl, B6⟩
        have HB6 := Lib.hid (HB5.out.trans (B6.mono HB5.out.size))
        clear B6 HB5
        go_wp2_with (fail)
        go_ret
        exact ⟨rfl, HB6.out⟩
theorem law_CombineMoves (a : Option Addr) (n cap : Nat) (z : Nat → Nat → Int) (d : Int) (w : World) (S : In.IsStructs [.i64, .i64, .i64, .i64, .i64] w a n cap z) :
    Calls Try.prog 8 #[.slice a n cap, .int .i64 d] w fun e w' => e = .returned (.bool true) ∧ Below w.heap.size w w' := by
  have ha : a = none → n = 0 ∧ cap = 0 := fun h => by
    rcases S with ⟨_, h1, h2⟩ | ⟨x, hx, _⟩
    · exact ⟨h1, h2⟩
    · rw [h] at hx; cases hx
  have C := cs_of S
  by_cases h : 40 < n
  · exact moves_no a n cap z d _ w C (Lib.hid rfl) (.inl h)
  · by_cases h2 : d < -1125899906842624
    · exact moves_no a n cap z d _ w C (Lib.hid rfl) (.inr (.inl ⟨by omega, h2⟩))
    · by_cases h3 : 1125899906842624 < d
      · exact moves_no a n cap z d _ w C (Lib.hid rfl) (.inr (.inr (.inl ⟨by omega, by omega, h3⟩)))
      · by_cases h4 : Cx.chk n z = 0
        · by_cases h5 : 0 < n
          · exact moves_yes a n cap z d w C h4 h5 ha (by omega) (by omega)
          · obtain rfl : n = 0 := by omega
            exact moves_zero a cap z d w (fun h => (ha h).2) (by omega) (by omega)
        · exact moves_no a n cap z d _ w C (Lib.hid rfl) (.inr (.inr (.inr ⟨by omega, by omega, by omega, by simpa using h4⟩)))
end Go.Proofs.Ytdnpidcchcefeaa.CxW
