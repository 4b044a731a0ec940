/- Lists of candidates that are being made; the law ClusterSpreads of layer 25. -/
import Derived.Test.YtbbdeagllhmdiaaKw
import Derived.Laws.AppendOwn
import Derived.Deep.DeepCutAuto
set_option linter.unusedVariables false
set_option linter.unusedSimpArgs false
namespace Go.Proofs.Ytbbdeagllhmdiaa.CxW
open Go.RowKit
open Go.Proofs.Ytbbdeagllhmdiaa.Kx
theorem flat_congr {z z' : Nat → Nat → Int} {n : Nat} (h : ∀ i j, i < n → j < 5 → z i j = z' i j) : flat z n = flat z' n := by
  unfold flat
  refine List.map_congr_left fun t ht => ?_
  have := List.mem_range.1 ht
  rw [h (t / 5) (t % 5) (by omega) (by omega)]
theorem nth_app {l : List Cd} {x : Cd} {i : Nat} (h : i < l.length) : nth (l ++ [x]) i = nth l i := by
  unfold nth; simp [List.getD_eq_getElem?_getD, List.getElem?_append_left h]
theorem nth_last (l : List Cd) (x : Cd) : nth (l ++ [x]) l.length = x := by
  unfold nth; simp [List.getD_eq_getElem?_getD]
theorem flat_app (l : List Cd) (x : Cd) : flat (zof (l ++ [x])) (l.length + 1) = flat (zof l) l.length ++ [.int .i64 x.a, .int .i64 x.b, .int .i64 x.c, .int .i64 x.d, .int .i64 x.e] := by
  have e : flat (zof l) l.length = flat (zof (l ++ [x])) l.length := flat_congr fun i j hi _ => by unfold zof; rw [nth_app hi]
  rw [e]
  unfold flat
  rw [show (l.length + 1) * 5 = l.length * 5 + 5 by omega, List.range_add, List.map_append]
  congr 1
  simp only [List.map_map, show List.range 5 = [0, 1, 2, 3, 4] from rfl, List.map_cons, List.map_nil, Function.comp]
  rw [show (l.length * 5 + 0) / 5 = l.length by omega, show (l.length * 5 + 1) / 5 = l.length by omega, show (l.length * 5 + 2) / 5 = l.length by omega, show (l.length * 5 + 3) / 5 = l.length by omega, show (l.length * 5 + 4) / 5 = l.length by omega, show (l.length * 5 + 0) % 5 = 0 by omega, show (l.length * 5 + 1) % 5 = 1 by omega, show (l.length * 5 + 2) % 5 = 2 by omega, show (l.length * 5 + 3) % 5 = 3 by omega, show (l.length * 5 + 4) % 5 = 4 by omega]
  unfold zof
  rw [nth_last]
  rfl
/-- v is a list that is being made -/
structure Rk (w : World) (base : Nat) (v : Value) (l : List Cd) : Prop where
  own : w.ownsRow base 36 5 v l.length (flat (zof l) l.length)
theorem Rk.nil (w : World) (base : Nat) : Rk w base (.slice none 0 0) [] := ⟨World.ownsRow_nil _ _ _ _⟩
theorem Rk.later {w w' : World} {base : Nat} {v : Value} {l : List Cd} (h : Rk w base v l) (k : Below w.heap.size w w') : Rk w' base v l := by
  obtain ⟨h1, h2⟩ := h.own
  refine ⟨h1, ?_⟩
  rcases h2 with h2 | ⟨g, cap, cur, hv, hg, hh, r⟩
  · exact .inl h2
  · exact .inr ⟨g, cap, cur, hv, hg, (k.block g (Hp.blk_lt hh)).trans hh, r⟩
theorem Rk.below {w0 w w' : World} {base B0 : Nat} {v : Value} {l : List Cd} (h : Rk w base v l) (hb : B0 ≤ base) (k : w.grownBy w' v.ownBlock) (hB : Below B0 w0 w) (hs : B0 ≤ w.heap.size) : Below B0 w0 w' :=
  hB.grown k hs (fun i hi => by have := (World.ownsRow.lt h.own i hi).1; omega)
theorem Rk.rd {w : World} {base : Nat} {v : Value} {l : List Cd} (h : Rk w base v l) : ∃ a c, v = .slice a l.length c ∧ Cs w a l.length (zof l) ∧ (a = none → l.length = 0 ∧ c = 0) := by
  obtain ⟨_, h2⟩ := h.own
  rcases h2 with ⟨hv, h0⟩ | ⟨g, cap, cur, hv, hg, hh, hc, _, hs, ht⟩
  · exact ⟨none, 0, by rw [h0]; exact hv, ⟨.inl h0⟩, fun _ => ⟨h0, rfl⟩⟩
  · refine ⟨_, cap, hv, ⟨.inr ⟨g, 0, rfl, Hp.blk_lt hh, fun i j hi hj => ?_⟩⟩, fun e => by cases e⟩
    rw [Nat.zero_add]
    have e := flat_at (zof l) hi hj
    rw [← ht, List.getElem?_take, if_pos (by omega)] at e
    exact Hp.blk_cell hh (by rw [← Array.getElem?_toList]; exact e)
/-- out = append(out, x) -/
theorem append_cand {w : World} {ops : Array Oper} {rest : List Oper} {o : Oper} {a : Act} {Q : Exit → Act → World → Prop} {base : Nat} {v : Value} {l : List Cd} {x : Cd} (hgd : o.guard = none) (s xo : Operand)
    (ho : o.op = .call { callee := .builtin .append, args := #[s, xo], argTypes := #[22, 22] }) (hs : a.eval s = v) (own : Rk w base v l) (g : Nat) (hx : a.eval xo = .slice (some ⟨g, 0, none⟩) 1 1)
    (hc : w.heap[g]? = some (.cells #[.int .i64 x.a, .int .i64 x.b, .int .i64 x.c, .int .i64 x.d, .int .i64 x.e] 36 (0, 0)))
    (small : l.length ≤ 1000000) (hb : base ≤ w.heap.size) (h : ∀ v' w', Rk w' base v' (l ++ [x]) → w.grownBy w' v.ownBlock → wpList Try.prog ops Q rest (a.put o.dst v') w') : wpList Try.prog ops Q (o :: rest) a w := by
  obtain ⟨i0, hi, hz0, hz1, hz2⟩ := info_parts info_cand
  refine wpList_append_own w hgd s xo 22 ho base 36 i0 _ 5 40 Try.underlying22 hi hz0 hz1 hz2 rfl (by decide) v l.length _ hs own.own ⟨g, 0, none⟩ 1 1 [.int .i64 x.a, .int .i64 x.b, .int .i64 x.c, .int .i64 x.d, .int .i64 x.e] hx rfl ?_ ?_ ?_ ?_ hb ?_
  · intro j u hj
    rw [add_at, Nat.zero_add]
    match j, hj with
    | 0, hj => simp at hj; subst hj; exact Hp.blk_cell hc rfl
    | 1, hj => simp at hj; subst hj; exact Hp.blk_cell hc rfl
    | 2, hj => simp at hj; subst hj; exact Hp.blk_cell hc rfl
    | 3, hj => simp at hj; subst hj; exact Hp.blk_cell hc rfl
    | 4, hj => simp at hj; subst hj; exact Hp.blk_cell hc rfl
  · intro u hu; simp at hu; rcases hu with rfl | rfl | rfl | rfl | rfl <;> rfl
  · unfold maxLen; omega
  · omega
  · intro v' w' h1 h2 _
    refine h v' w' ⟨?_⟩ h2
    rw [List.length_append, show [x].length = 1 from rfl, flat_app]; exact h1
/-- the greatest difference to candidate i, among the first k -/
def grt (l : List Cd) (i : Nat) : Nat → Int
  | 0 => 0
  | k + 1 => max (max (grt l i k) ((nth l k).b - (nth l i).b)) (-((nth l k).b - (nth l i).b))
theorem grt_nn (l : List Cd) (i : Nat) : ∀ k, 0 ≤ grt l i k
  | 0 => by simp [grt]
  | k + 1 => by have := grt_nn l i k; simp only [grt]; omega
theorem grt_ge (l : List Cd) (i : Nat) : ∀ k t, t < k → dq (nth l i) (nth l t) ≤ grt l i k
  | 0, t, h => by omega
  | k + 1, t, h => by
    simp only [grt]
    by_cases e : t = k
    · subst e; unfold dq Fx.iabs; split <;> omega
    · have := grt_ge l i k t (by omega); omega
theorem grt_bd {l : List Cd} (V : Val l) {i : Nat} (hi : i < l.length) : ∀ k, k ≤ l.length → grt l i k ≤ 9007199254740992
  | 0, _ => by simp [grt]
  | k + 1, h => by
    have := grt_bd V hi k (by omega); have a := V.bd (nth_mem hi); have b := V.bd (nth_mem (show k < l.length by omega))
    simp only [grt]; omega
theorem sprd_bd {l : List Cd} (V : Val l) {i : Nat} (hi : i < l.length) : 0 ≤ sprd l i ∧ sprd l i ≤ 1073741824 ∧ (1 < l.length → sprd l i ≤ grt l i l.length) := by
  by_cases h2 : 2 ≤ l.length
  · rw [sprd_val V hi h2]
    exact ⟨spr_nn _ _, spr_le hi h2 (by omega) (fun k _ => (dq_bd _ _).2), fun _ => spr_le hi h2 (grt_nn _ _ _) (fun k hk => grt_ge l i _ k hk)⟩
  · rw [sprd_out (.inr (.inr (by omega)))]
    exact ⟨by omega, by omega, fun h => by omega⟩
theorem sprd_two {l : List Cd} (V : Val l) {i : Nat} (hi : i < l.length) (h : l.length = 2) : sprd l i = min (grt l i l.length) 1073741824 ∧ sprd l (1 - (i : Int)) = sprd l i := by
  have t := spr_two h
  have hi' : i = 0 ∨ i = 1 := by omega
  have e0 := sprd_val V (i := 0) (by omega) (by omega)
  have e1 := sprd_val V (i := 1) (by omega) (by omega)
  rw [t.1] at e0; rw [t.2] at e1
  rcases hi' with rfl | rfl
  · refine ⟨?_, by rw [show (1 : Int) - ((0 : Nat) : Int) = ((1 : Nat) : Int) by omega, e0, e1]⟩
    rw [e0, h]; simp only [grt]; unfold dq Fx.iabs; split <;> omega
  · refine ⟨?_, by rw [show (1 : Int) - ((1 : Nat) : Int) = ((0 : Nat) : Int) by omega, e0, e1]⟩
    rw [e1, h]; simp only [grt]; unfold dq Fx.iabs; split <;> omega
theorem sprd_shf {l : List Cd} (V : Val l) (s : Int) (h : Cx.chk (l.map (shf s)).length (zof (l.map (shf s))) = 0) {i : Nat} (hi : i < l.length) : sprd (l.map (shf s)) i = sprd l i := by
  have V2 := (val_iff _).1 h
  by_cases h2 : 2 ≤ l.length
  · rw [sprd_val V hi h2, sprd_val V2 (by simpa using hi) (by simpa using h2), nth_map hi, spr_shf]
  · have h3 : l.length < 2 := by omega
    have h4 : (l.map (shf s)).length < 2 := by rw [List.length_map]; exact h3
    rw [sprd_out (.inr (.inr h4)), sprd_out (.inr (.inr h3))]
theorem map_step (l : List Cd) (s : Int) {k : Nat} (hk : k < l.length) : (l.take k).map (shf s) ++ [shf s (nth l k)] = (l.take (k + 1)).map (shf s) := by
  rw [List.take_add_one, List.map_append, nth_eq hk, List.getElem?_eq_getElem hk]; rfl
theorem max_three (t0 t1 t2 t3 : TypeId) (a b c : Int) (W : World) : (Builtin.max_ #[t0, t1, t2] t3 #[.int .i64 a, .int .i64 b, .int .i64 c]).run Try.prog W = .ok (.int .i64 (max (max a b) c)) W := by
  have e1 : (if b > a then b else a) = max a b := by split <;> omega
  have e2 : (if c > max a b then c else max a b) = max (max a b) c := by split <;> omega
  simp [Builtin.max_, Builtin.max2, e1, e2]
set_option maxHeartbeats 8000000 in
theorem spreads_no (l : List Cd) (a : Option Addr) (c : Nat) (i s : Int) (w : World) (S : Cs w a l.length (zof l)) {r : Int} (hr : Hid (Cx.chk l.length (zof l) = r))
    (h : 30 < l.length ∨ (l.length ≤ 30 ∧ (r != 0) = true) ∨ (l.length ≤ 30 ∧ r = 0 ∧ i < 0) ∨ (l.length ≤ 30 ∧ r = 0 ∧ 0 ≤ i ∧ (l.length : Int) ≤ i) ∨ (l.length ≤ 30 ∧ r = 0 ∧ 0 ≤ i ∧ i < (l.length : Int) ∧ s < -1000000) ∨ (l.length ≤ 30 ∧ r = 0 ∧ 0 ≤ i ∧ i < (l.length : Int) ∧ -1000000 ≤ s ∧ 1000000 < s)) :
    Calls Try.prog 8 #[.slice a l.length c, .int .i64 i, .int .i64 s] w fun e w' => e = .returned (.bool true) ∧ Below w.heap.size w w' := by
  have hS := Lib.hid S
  clear S
  rcases h with h | h
  · have F := Lib.hid (show decide (l.length ≤ 30) = false from decide_eq_false (by omega))
    clear h
    go_enter Try.func8, Try.ntmps8
    go_wp2_with (fail)
    refine (few_at F _).mono ?_
    rintro en w1 ⟨rfl, rfl⟩
    go_wp2_with (fail)
    refine (awake25_any _).mono ?_
    rintro en w2 ⟨rfl, B2⟩
    have HB := Lib.hid B2
    clear B2
    go_wp2_with (fail)
    go_ret
    exact ⟨rfl, HB.out⟩
  rcases h with ⟨h, h2⟩ | ⟨h, rfl, h2⟩ | ⟨h, rfl, h2, h3⟩ | ⟨h, rfl, h2, h3, h4⟩ | ⟨h, rfl, h2, h3, h4, h5⟩
  all_goals
    have F := Lib.hid (show decide (l.length ≤ 30) = true from decide_eq_true h)
    clear h
    go_enter Try.func8, Try.ntmps8
    go_wp2_with (fail)
    refine (few_at F _).mono ?_
    rintro en w1 ⟨rfl, rfl⟩
    go_wp2_with (fail)
    refine (check_at hr hS.out).mono ?_
    rintro en w2 ⟨rfl, B2⟩
    have HB2 := Lib.hid B2
    clear B2
    go_wp2_with (fail)
    refine (awake25_any _).mono ?_
    rintro en w5 ⟨rfl, B5⟩
    have HB5 := Lib.hid (bl_next HB2.out B5)
    clear B5
    go_wp2_with (fail)
    go_ret
    exact ⟨rfl, HB5.out⟩
set_option maxHeartbeats 16000000 in
set_option maxRecDepth 4000 in
theorem spreads_yes (l : List Cd) (a : Option Addr) (c : Nat) (V : Val l) (i : Nat) (hi : i < l.length) (s : Int) (s1 : -1000000 ≤ s) (s2 : s ≤ 1000000) (w : World) (S : Cs w a l.length (zof l)) :
    Calls Try.prog 8 #[.slice a l.length c, .int .i64 i, .int .i64 s] w fun e w' => e = .returned (.bool true) ∧ Below w.heap.size w w' := by
  have hS := Lib.hid S; have HV := Lib.hid V
  have HC := Lib.hid ((val_iff l).2 V)
  have n12 := V.len
  have F := Lib.hid (show decide (l.length ≤ 30) = true from decide_eq_true (by omega))
  have bd := sprd_bd V hi
  have TW := Lib.hid (fun h => sprd_two V hi h)
  have SH := Lib.hid (fun h => sprd_shf V s h hi)
  have bi := V.bd (nth_mem hi)
  have SP := Lib.hid (fun (j r : Int) (h : sprd l j = r) W S => show Calls Try.prog 16 #[.slice a l.length c, .int .i64 j] W fun e w' => e = .returned (.int .i64 r) ∧ Below W.heap.size W w' from by rw [← h]; exact spread_any l a c j W S)
  have gb := grt_bd V hi l.length (Nat.le_refl _)
  obtain ⟨P, hP⟩ : ∃ P, sprd l (i : Int) = P := ⟨_, rfl⟩
  have HP := Lib.hid hP
  rw [hP] at bd SH
  have MS := Lib.hid (fun k hk => @map_step l s k hk)
  obtain ⟨n, hn⟩ : ∃ n, l.length = n := ⟨_, rfl⟩
  have HN := Lib.hid hn
  have CK := Lib.hid (fun W (S : Cs W a l.length (zof l)) => check_at (cap := c) HC S)
  rw [hn] at hi n12 F bd TW SP gb hS MS CK
  rw [hn]
  have i0 : ¬ (i : Int) < 0 := by omega
  have i1 : ¬ (n : Int) ≤ (i : Int) := by omega
  have i2 : ¬ n ≤ i := by omega
  have i3 : ¬ s < -1000000 := by omega
  have i4 : ¬ 1000000 < s := by omega
  clear S V hP hn
  go_enter Try.func8, Try.ntmps8
  go_wp2_with (fail)
  refine (few_at F _).mono ?_
  rintro en w1 ⟨rfl, rfl⟩
  go_wp2_with (fail)
  refine (CK.out _ hS.out).mono ?_
  rintro en w2 ⟨rfl, B2⟩
  have HB2 := Lib.hid B2; have S2 := Lib.hid (hS.out.later B2)
  clear B2
  go_wp2_with (fail)
  refine (SP.out _ _ HP.out _ S2.out).mono ?_
  rintro en w4 ⟨rfl, B4⟩
  have HB4 := Lib.hid (bl_next HB2.out B4); have S4 := Lib.hid (S2.out.later B4)
  clear B4
  go_wp2_with (fail)
  go_loopw [10, 8, 9] (fun c g v wr => ∃ k : Nat, k ≤ n ∧ c = .int .i64 k ∧ g = .int .i64 (grt l i k) ∧ Rk wr w4.heap.size v ((l.take k).map (shf s)) ∧ Below w4.heap.size w4 wr) (fun c _ _ _ => n - (intOf c).toNat)
  case atStart => exact ⟨0, by omega, rfl, rfl, Rk.nil _ _, Below.refl _ _⟩
  case round =>
    rename World => wb
    obtain ⟨k, hk, rfl, rfl, rk, hb⟩ := hrel
    have HB := Lib.hid hb; have RK := Lib.hid rk; have Sb := Lib.hid (S4.out.later hb)
    have szb := hb.size
    by_cases hlt : k < n
    · obtain ⟨b, o, rfl, lb, x0, x1, x2, x3, x4⟩ := Sb.out.elem (i := k) hlt
      obtain ⟨b', o', e', _, -, y1, -, -, -⟩ := Sb.out.elem (i := i) hi
      obtain ⟨rfl, rfl⟩ : b = b' ∧ o = o' := by injection e' with e'; injection e' with e1 e2; exact ⟨e1, e2⟩
      have bk := HV.out.bd (nth_mem (show k < l.length by rw [HN.out]; exact hlt))
      have g0 := grt_nn l i k; have g1 := grt_bd HV.out (show i < l.length by rw [HN.out]; exact hi) k (by rw [HN.out]; omega)
      have GS := Lib.hid (show grt l i (k + 1) = max (max (grt l i k) ((nth l k).b - (nth l i).b)) (-((nth l k).b - (nth l i).b)) from rfl)
      have M2 := Lib.hid (MS.out k hlt)
      have tl : ((l.take k).map (shf s)).length = k := by rw [List.length_map, List.length_take, HN.out]; omega
      change wb.cell? _ = some (.int .i64 (nth l k).a) at x0
      change wb.cell? _ = some (.int .i64 (nth l k).b) at x1
      change wb.cell? _ = some (.int .i64 (nth l k).c) at x2
      change wb.cell? _ = some (.int .i64 (nth l k).d) at x3
      change wb.cell? _ = some (.int .i64 (nth l k).e) at x4
      change wb.cell? _ = some (.int .i64 (nth l i).b) at y1
      obtain ⟨x, ex⟩ : ∃ x, nth l k = x := ⟨_, rfl⟩
      rw [ex] at x0 x1 x2 x3 x4 GS M2 bk
      obtain ⟨xa, xb, xc, xd, xe⟩ := x
      obtain ⟨Y, eY⟩ : ∃ Y, (nth l i).b = Y := ⟨_, rfl⟩
      rw [eY] at y1 GS bi
      obtain ⟨G, eG⟩ : ∃ Y, grt l i k = Y := ⟨_, rfl⟩
      rw [eG] at GS g0 g1
      rw [eG]
      obtain ⟨mk, hmk⟩ : ∃ mk, (l.take k).map (shf s) = mk := ⟨_, rfl⟩
      rw [hmk] at RK M2 tl
      simp only at x0 x1 x2 x3 x4 GS bk
      have b1 := bk.1; have b2 := bk.2.1; have b3 := bi.1; have b4 := bi.2.1
      have hmx := fun W => max_three 3 3 3 3 G (xb - Y) (-(xb - Y)) W
      have TL := Lib.hid tl
      clear hb rk ex eY eG hmk e' bk bi gb tl bd
      go_wp2_with (fail)
      go_quiet (fail)
      obtain ⟨wq, hwq⟩ : ∃ wq, wb.drewN nq = wq := ⟨_, rfl⟩
      have HBq : Hid (Below w4.heap.size w4 wq) := Lib.hid (by rw [← hwq]; exact Hp.drewN HB.out _)
      have RKq : Hid (Rk wq w4.heap.size u9 mk) := Lib.hid (by rw [← hwq]; exact RK.out.later (Hp.drewN (Below.refl _ _) _))
      have lq : b < wq.heap.size := by rw [← hwq]; exact lb
      have sq : w4.heap.size ≤ wq.heap.size := by rw [← hwq]; exact szb
      have tr : ∀ p, wb.cell? p = wq.cell? p := fun p => by rw [← hwq]; rfl
      rw [tr] at x0 x1 x2 x3 x4 y1
      rw [hwq]
      clear hwq tr
      go_upto_region 13 with (fail)
      obtain ⟨wy, hwy⟩ : ∃ wy, wq.alloc (.cells #[.int .i64 xa, .int .i64 (xb + s), .int .i64 xc, .int .i64 xd, .int .i64 xe] 36) = wy := ⟨_, rfl⟩
      have BN : wy.heap[wq.heap.size]? = some (.cells #[.int .i64 xa, .int .i64 (xb + s), .int .i64 xc, .int .i64 xd, .int .i64 xe] 36) := by rw [← hwy]; exact Hp.blk_new wq _
      have HBy : Hid (Below w4.heap.size w4 wy) := Lib.hid (by rw [← hwy]; exact Below.alloc HBq.out sq _)
      have RKy : Hid (Rk wy w4.heap.size u9 mk) := Lib.hid (by rw [← hwy]; exact RKq.out.later (Below.alloc (Below.refl _ _) (Nat.le_refl _) _))
      have sy : w4.heap.size ≤ wy.heap.size := HBy.out.size
      have c0 := Hp.blk_cell (o := 0) BN rfl; have c1 := Hp.blk_cell (o := 1) BN rfl; have c2 := Hp.blk_cell (o := 2) BN rfl; have c3 := Hp.blk_cell (o := 3) BN rfl; have c4 := Hp.blk_cell (o := 4) BN rfl
      rw [hwy]
      obtain ⟨gy, hgy⟩ : ∃ gy, wq.heap.size = gy := ⟨_, rfl⟩
      rw [hgy] at c0 c1 c2 c3 c4
      rw [hgy]
      have Rx := Lib.hid (RKy.out.later (Below.alloc (Below.refl _ _) (Nat.le_refl _) (.cells #[.int .i64 xa, .int .i64 (xb + s), .int .i64 xc, .int .i64 xd, .int .i64 xe] 36)))
      have BX := Lib.hid (Below.alloc HBy.out sy (.cells #[.int .i64 xa, .int .i64 (xb + s), .int .i64 xc, .int .i64 xd, .int .i64 xe] 36))
      have bs := Lib.hid (show w4.heap.size ≤ (wy.alloc (.cells #[.int .i64 xa, .int .i64 (xb + s), .int .i64 xc, .int .i64 xd, .int .i64 xe] 36)).heap.size by simp; omega)
      have BM := Lib.hid (show (wy.alloc (.cells #[.int .i64 xa, .int .i64 (xb + s), .int .i64 xc, .int .i64 xd, .int .i64 xe] 36)).heap[wy.heap.size]? = some (.cells #[.int .i64 xa, .int .i64 (xb + s), .int .i64 xc, .int .i64 xd, .int .i64 xe] 36) from Hp.blk_new wy _)
      have sm := Lib.hid (show mk.length ≤ 1000000 by rw [TL.out]; omega)
      clear hwy BN hgy x0 x1 x2 x3 x4 y1 HBq RKq lq sq HB RK lb szb sy
      go_wp2_with (at_builtin; refine append_cand (l := mk) (v := u9) (x := ⟨xa, xb + s, xc, xd, xe⟩) rfl (.tmp 74) (.tmp 76) rfl (by rfl) Rx.out wy.heap.size (by rfl) (by exact BM.out) sm.out bs.out ?_; intro v2 w2 R2 G2; have HR2 := Lib.hid R2; have HG2 := Lib.hid G2; clear R2 G2)
      go_roundw
      case rel =>
        have m2 := M2.out; have gs := GS.out
        rw [Int.max_assoc] at gs
        refine ⟨k + 1, by omega, by go_num, by rw [gs], ?_, ?_⟩
        · rw [← m2]; exact HR2.out
        · exact Rk.below Rx.out (Nat.le_refl _) HG2.out BX.out bs.out
      case measure => (simp [intOf] <;> omega)
    · obtain rfl : n = k := by omega
      have tk : l.take n = l := List.take_of_length_le (by rw [HN.out]; omega)
      rw [tk] at RK
      have tl : (l.map (shf s)).length = n := by rw [List.length_map, HN.out]
      have HBb := Lib.hid (bl_next HB4.out HB.out)
      obtain ⟨m, hm⟩ : ∃ m, l.map (shf s) = m := ⟨_, rfl⟩
      rw [hm] at RK tl SH
      obtain ⟨r, hr⟩ : ∃ r, Cx.chk m.length (zof m) = r := ⟨_, rfl⟩
      have HR := Lib.hid (Lib.hid hr)
      have rcase : r = 0 ∨ ¬ (r = 0) := by omega
      obtain ⟨am, cm, rfl, cc, _⟩ := RK.out.rd
      have CM := Lib.hid cc
      have SPM : Hid (r = 0 → ∀ W, Cs W am m.length (zof m) → Calls Try.prog 16 #[.slice am m.length cm, .int .i64 i] W fun e w' => e = .returned (.int .i64 P) ∧ Below W.heap.size W w') := Lib.hid (fun h W S => by
        have e := SH.out (hr.trans h)
        rw [← e]; exact spread_any m am cm i W S)
      have CKM := Lib.hid (fun W (S : Cs W am m.length (zof m)) => check_at (cap := cm) HR.out S)
      rw [tl] at SPM CM CKM
      rw [tl]
      obtain ⟨G, eG⟩ : ∃ Y, grt l i n = Y := ⟨_, rfl⟩
      rw [eG] at gb bd TW
      rw [eG]
      have g0 : 0 ≤ G := by rw [← eG]; exact grt_nn l i n
      have p1 : ¬ P < 0 := by omega
      have p2 : ¬ 1073741824 < P := by omega
      have b3 := bd.2.2
      clear cc tk hm hr eG tl bd rk hb hlt hi HN MS CK
      by_cases n1 : n ≤ 1
      · have q1 : ¬ (1 : Int) < (n : Int) := by omega
        have q2 : ¬ (n : Int) = 2 := by omega
        clear b3 n1
        have HB5 := HBb; have M5 := CM
        go_wp2_with (fail)
        refine (CKM.out _ M5.out).mono ?_
        rintro en w6 ⟨rfl, B6⟩
        have HB6 := Lib.hid (bl_next HB5.out B6); have M6 := Lib.hid (M5.out.later B6)
        clear B6
        rcases rcase with rfl | rn
        · have SP0 := Lib.hid (SPM.out rfl)
          clear SPM
          go_wp2_with (fail)
          refine (SP0.out _ M6.out).mono ?_
          rintro en w7 ⟨rfl, B7⟩
          have HB7 := Lib.hid (bl_next HB6.out B7)
          clear B7
          go_wp2_with (fail)
          refine (awake25_any _).mono ?_
          rintro en w8 ⟨rfl, B8⟩
          have HB8 := Lib.hid (bl_next HB7.out B8)
          clear B8
          go_wp2_with (fail)
          go_ret
          exact ⟨rfl, HB8.out⟩
        · go_wp2_with (fail)
          refine (awake25_any _).mono ?_
          rintro en w8 ⟨rfl, B8⟩
          have HB8 := Lib.hid (bl_next HB6.out B8)
          clear B8
          go_wp2_with (fail)
          go_ret
          exact ⟨rfl, HB8.out⟩
      · have q1 : (1 : Int) < (n : Int) := by omega
        have q3 : ¬ G < P := by have := b3 (by omega); omega
        clear b3
        by_cases n2 : n = 2
        · obtain ⟨t1, t2⟩ := TW.out n2
          rw [HP.out] at t1 t2
          have E2 := Lib.hid t2
          have t1' : min G 1073741824 = P := t1.symm
          clear t1 t2 TW
          subst n2
          go_wp2_with (fail)
          refine (SP.out _ _ E2.out _ Sb.out).mono ?_
          rintro en w5 ⟨rfl, B5⟩
          have HB5 := Lib.hid (bl_next HBb.out B5); have M5 := Lib.hid (CM.out.later B5)
          clear B5
          go_wp2_with (fail)
          refine (CKM.out _ M5.out).mono ?_
          rintro en w6 ⟨rfl, B6⟩
          have HB6 := Lib.hid (bl_next HB5.out B6); have M6 := Lib.hid (M5.out.later B6)
          clear B6
          rcases rcase with rfl | rn
          · have SP0 := Lib.hid (SPM.out rfl)
            clear SPM
            go_wp2_with (fail)
            refine (SP0.out _ M6.out).mono ?_
            rintro en w7 ⟨rfl, B7⟩
            have HB7 := Lib.hid (bl_next HB6.out B7)
            clear B7
            go_wp2_with (fail)
            refine (awake25_any _).mono ?_
            rintro en w8 ⟨rfl, B8⟩
            have HB8 := Lib.hid (bl_next HB7.out B8)
            clear B8
            go_wp2_with (fail)
            go_ret
            exact ⟨rfl, HB8.out⟩
          · go_wp2_with (fail)
            refine (awake25_any _).mono ?_
            rintro en w8 ⟨rfl, B8⟩
            have HB8 := Lib.hid (bl_next HB6.out B8)
            clear B8
            go_wp2_with (fail)
            go_ret
            exact ⟨rfl, HB8.out⟩
        · have q2 : ¬ (n : Int) = 2 := by omega
          have HB5 := HBb; have M5 := CM
          go_wp2_with (fail)
          refine (CKM.out _ M5.out).mono ?_
          rintro en w6 ⟨rfl, B6⟩
          have HB6 := Lib.hid (bl_next HB5.out B6); have M6 := Lib.hid (M5.out.later B6)
          clear B6
          rcases rcase with rfl | rn
          · have SP0 := Lib.hid (SPM.out rfl)
            clear SPM
            go_wp2_with (fail)
            refine (SP0.out _ M6.out).mono ?_
            rintro en w7 ⟨rfl, B7⟩
            have HB7 := Lib.hid (bl_next HB6.out B7)
            clear B7
            go_wp2_with (fail)
            refine (awake25_any _).mono ?_
            rintro en w8 ⟨rfl, B8⟩
            have HB8 := Lib.hid (bl_next HB7.out B8)
            clear B8
            go_wp2_with (fail)
            go_ret
            exact ⟨rfl, HB8.out⟩
          · go_wp2_with (fail)
            refine (awake25_any _).mono ?_
            rintro en w8 ⟨rfl, B8⟩
            have HB8 := Lib.hid (bl_next HB6.out B8)
            clear B8
            go_wp2_with (fail)
            go_ret
            exact ⟨rfl, HB8.out⟩
theorem law_ClusterSpreads (a : Option Addr) (n c : Nat) (z : Nat → Nat → Int) (i s : Int) (w : World) (S : In.IsStructs [.i64, .i64, .i64, .i64, .i64] w a n c z) :
    Calls Try.prog 8 #[.slice a n c, .int .i64 i, .int .i64 s] w fun e w' => e = .returned (.bool true) ∧ Below w.heap.size w w' := by
  obtain ⟨l, rfl, s0, h0⟩ := in_list S
  by_cases h : 30 < l.length
  · exact spreads_no l a c i s w s0 (Lib.hid rfl) (.inl h)
  · by_cases hc : Cx.chk l.length (zof l) = 0
    · by_cases i0 : i < 0
      · exact spreads_no l a c i s w s0 (Lib.hid hc) (.inr (.inr (.inl ⟨by omega, rfl, i0⟩)))
      · by_cases i1 : (l.length : Int) ≤ i
        · exact spreads_no l a c i s w s0 (Lib.hid hc) (.inr (.inr (.inr (.inl ⟨by omega, rfl, by omega, i1⟩))))
        · by_cases s1 : s < -1000000
          · exact spreads_no l a c i s w s0 (Lib.hid hc) (.inr (.inr (.inr (.inr (.inl ⟨by omega, rfl, by omega, by omega, s1⟩)))))
          · by_cases s2 : 1000000 < s
            · exact spreads_no l a c i s w s0 (Lib.hid hc) (.inr (.inr (.inr (.inr (.inr ⟨by omega, rfl, by omega, by omega, by omega, s2⟩)))))
            · obtain ⟨i', rfl⟩ : ∃ t : Nat, i = t := ⟨i.toNat, by omega⟩
              exact spreads_yes l a c ((val_iff l).1 hc) i' (by omega) s (by omega) (by omega) w s0
    · exact spreads_no l a c i s w s0 (Lib.hid rfl) (.inr (.inl ⟨by omega, by simpa using hc⟩))
end Go.Proofs.Ytbbdeagllhmdiaa.CxW
