/- Small functions of layer 25's reference: before, root, without. -/
import Derived.Test.YtbbdeagllhmdiaaKz
import Derived.Test.YtbbdeagllhmdiaaKxo
import Derived.Test.YtbbdeagllhmdiaaCd
import Derived.IntWalk
set_option linter.unusedVariables false
set_option linter.unusedSimpArgs false
namespace Go.Proofs.Ytbbdeagllhmdiaa.CxW
open Go.RowKit Go.Deep
open Go.Proofs.Ytbbdeagllhmdiaa.Kx
set_option maxHeartbeats 2000000 in
theorem before_any (x y : Cd) (w : World) : Calls Try.prog 27 #[.agg #[.int .i64 x.a, .int .i64 x.b, .int .i64 x.c, .int .i64 x.d, .int .i64 x.e], .agg #[.int .i64 y.a, .int .i64 y.b, .int .i64 y.c, .int .i64 y.d, .int .i64 y.e]] w fun e w' => e = .returned (.bool (decide (bef x y))) ∧ Below w.heap.size w w' := by
  obtain ⟨r, hr⟩ : ∃ r, decide (bef x y) = r := ⟨_, rfl⟩
  rw [hr]
  obtain ⟨xa, xb, xc, xd, xe⟩ := x
  obtain ⟨ya, yb, yc, yd, ye⟩ := y
  simp only
  by_cases h1 : xe = ye
  · by_cases h2 : xc = yc
    · have HR : Hid (decide (xa < ya) = r) := Lib.hid (by rw [← hr, Bool.eq_iff_iff]; simp only [decide_eq_true_eq]; unfold bef; simp only; omega)
      subst h1; subst h2
      clear hr
      go_enter Try.func27, Try.ntmps27
      go_wp2_with (fail)
      go_ret
      exact ⟨by rw [HR.out] <;> rfl, by (repeat (first | exact Below.refl _ _ | refine Below.drew ?_ | refine Hp.drewN ?_ _ | refine Below.setCell ?_ (by first | (simp; done) | (simp; omega) | omega) _ | refine Below.alloc ?_ (by first | (simp; done) | (simp; omega) | omega) _ | (refine Hp.step ?_ (by assumption))))⟩
    · have HR : Hid (decide (xc < yc) = r) := Lib.hid (by rw [← hr, Bool.eq_iff_iff]; simp only [decide_eq_true_eq]; unfold bef; simp only; omega)
      have q : (xc != yc) = true := by simpa using h2
      subst h1
      clear hr h2
      go_enter Try.func27, Try.ntmps27
      go_wp2_with (fail)
      go_ret
      exact ⟨by rw [HR.out] <;> rfl, by (repeat (first | exact Below.refl _ _ | refine Below.drew ?_ | refine Hp.drewN ?_ _ | refine Below.setCell ?_ (by first | (simp; done) | (simp; omega) | omega) _ | refine Below.alloc ?_ (by first | (simp; done) | (simp; omega) | omega) _ | (refine Hp.step ?_ (by assumption))))⟩
  · have HR : Hid (decide (xe < ye) = r) := Lib.hid (by rw [← hr, Bool.eq_iff_iff]; simp only [decide_eq_true_eq]; unfold bef; simp only; omega)
    have q : (xe != ye) = true := by simpa using h1
    clear hr h1
    go_enter Try.func27, Try.ntmps27
    go_wp2_with (fail)
    go_ret
    exact ⟨by rw [HR.out] <;> rfl, by (repeat (first | exact Below.refl _ _ | refine Below.drew ?_ | refine Hp.drewN ?_ _ | refine Below.setCell ?_ (by first | (simp; done) | (simp; omega) | omega) _ | refine Below.alloc ?_ (by first | (simp; done) | (simp; omega) | omega) _ | (refine Hp.step ?_ (by assumption))))⟩
set_option maxHeartbeats 2000000 in
theorem root_any (n : Nat) (h : n ≤ 1152921504606846976) (w : World) : Calls Try.prog 42 #[.int .u64 n] w fun e w' => e = .returned (.int .i64 (Fx.isq n)) ∧ w = w' := by
  have H0 := Lib.hid (ra_start h)
  have hn : (n : Int) ≤ 1152921504606846976 := by omega
  clear h
  go_enter Try.func42, Try.ntmps42
  go_wp2_with (fail)
  go_loop [3, 4] (fun a b => ∃ r : Nat, a = .int .u64 (r : Int) ∧ ((∃ j : Nat, b = .int .i64 (j : Int) ∧ j ≤ 30 ∧ Ra n r (j + 1)) ∨ (b = .int .i64 (-1) ∧ Ra n r 0))) (fun _ b => (intOf b + 1).toNat)
  case atStart => exact ⟨0, rfl, .inl ⟨30, rfl, by omega, H0.out⟩⟩
  case round =>
    obtain ⟨r, rfl, ⟨j, rfl, hj, R⟩ | ⟨rfl, R⟩⟩ := hrel
    · obtain ⟨s1, s2, s3, s4⟩ := ra_step R
      have hp : 2 ^ j < 2147483648 := by omega
      have e1 : IntKind.u64.wrap ((2 : Int) ^ j) = ((2 ^ j : Nat) : Int) := by
        rw [show ((2 : Int) ^ j) = ((2 ^ j : Nat) : Int) from by simp, FxW.swrap (by omega)]
      have HE := Lib.hid (show (j = 0 ∧ 2 ^ j = 1) ∨ 0 < j from by rcases j with _ | j; exact .inl ⟨rfl, rfl⟩; exact .inr (by omega))
      obtain ⟨p, ep⟩ : ∃ p, 2 ^ j = p := ⟨_, rfl⟩
      rw [ep] at s1 s2 s3 s4 hp e1
      obtain ⟨t, et⟩ : ∃ t, (r + p) * (r + p) = t := ⟨_, rfl⟩
      rw [et] at s2 s3 s4
      have e3 : IntKind.u64.wrap (((r : Int) + (p : Int)) * ((r : Int) + (p : Int))) = (t : Int) := by
        rw [← et, ← Int.natCast_add, ← Int.natCast_mul, FxW.swrap (by omega)]
      have S3 := Lib.hid s3; have S4 := Lib.hid s4
      clear R H0 s3 s4 et ep HE
      by_cases c : (t : Int) ≤ (n : Int)
      · have X := Lib.hid (S3.out (by omega))
        go_wp2_with (fail)
        go_round
        case rel =>
          refine ⟨r + p, by go_num, ?_⟩
          rcases j with _ | j
          · exact .inr ⟨rfl, X.out⟩
          · exact .inl ⟨j, by go_num, by omega, X.out⟩
        case measure => (simp [intOf] <;> omega)
      · have X := Lib.hid (S4.out (by omega))
        go_wp2_with (fail)
        go_round
        case rel =>
          refine ⟨r, rfl, ?_⟩
          rcases j with _ | j
          · exact .inr ⟨rfl, X.out⟩
          · exact .inl ⟨j, by go_num, by omega, X.out⟩
        case measure => (simp [intOf] <;> omega)
    · have F := Lib.hid (ra_end R)
      have b : (r : Int) < 2147483648 := by have := R.lt; have := Nat.two_pow_pos 0; omega
      clear R H0
      go_wp2_with (fail)
      go_ret
      exact ⟨by rw [F.out] <;> rfl, rfl⟩
theorem root_at {n r : Int} (h0 : 0 ≤ n) (h : n ≤ 1152921504606846976) (hr : Hid (Fx.isq n = r)) (w : World) : Calls Try.prog 42 #[.int .u64 n] w fun e w' => e = .returned (.int .i64 r) ∧ w = w' := by
  obtain ⟨m, rfl⟩ := Int.eq_ofNat_of_zero_le h0
  rw [← hr.out]; exact root_any m (by omega) w
/-- v reads as the list l -/
def Rl (w : World) (v : Value) (l : List Cd) : Prop := (l = [] ∧ ∃ a c, v = .slice a 0 c) ∨ (0 < l.length ∧ ∃ b o c, v = .slice (some ⟨b, o, none⟩) l.length c ∧ l.length ≤ c ∧ Cs w (some ⟨b, o, none⟩) l.length (zof l))
theorem Rl.later {w w' : World} {v : Value} {l : List Cd} (h : Rl w v l) (k : Below w.heap.size w w') : Rl w' v l := by
  rcases h with h | ⟨h0, b, o, c, hv, hc, s⟩
  · exact .inl h
  · exact .inr ⟨h0, b, o, c, hv, hc, s.later k⟩
theorem Rl.rd {w : World} {v : Value} {l : List Cd} (h : Rl w v l) : ∃ a c, v = .slice a l.length c ∧ Cs w a l.length (zof l) := by
  rcases h with ⟨rfl, a, c, hv⟩ | ⟨h0, b, o, c, hv, hc, s⟩
  · exact ⟨a, c, hv, ⟨.inl rfl⟩⟩
  · exact ⟨_, c, hv, s⟩
theorem Rk.rl {w : World} {base : Nat} {v : Value} {l : List Cd} (h : Rk w base v l) : Rl w v l := by
  by_cases h0 : 0 < l.length
  · obtain ⟨g, c, hv, s⟩ := Rk.rd0 h h0
    obtain ⟨_, h2⟩ := h.own
    rcases h2 with ⟨_, h1⟩ | ⟨g', cap, cur, hv', _, _, hc, _, _, _⟩
    · omega
    · rw [hv] at hv'; injection hv' with _ _ e3
      exact .inr ⟨h0, g, 0, c, hv, by omega, s⟩
  · have e : l = [] := List.eq_nil_of_length_eq_zero (by omega)
    obtain ⟨a, c, hv, _, _⟩ := h.rd
    subst e
    exact .inl ⟨rfl, a, c, hv⟩
theorem ol_rl {w : World} {B : Nat} {v : Value} {l : List Cd} (h : Ol w B v l) : Rl w v l := by
  rcases h with h | ⟨h0, g, c, hv, _, z, hc⟩
  · exact .inl h
  · exact .inr ⟨h0, g, 0, c, hv, hc, z.cs⟩
theorem cs_at' {w : World} {b o n : Nat} {z : Nat → Nat → Int} (S : Cs w (some ⟨b, o, none⟩) n z) (i j : Nat) (hi : i < n) (hj : j < 5) : w.cell? ⟨b, o + (i * 5 + j), none⟩ = some (.int .i64 (z i j)) := by
  rcases S.cells with h | ⟨b', o', ha, hb, hc⟩
  · omega
  · injection ha with ha; injection ha with e1 e2
    subst e1; subst e2
    exact hc i j hi hj
theorem cs_lt {w : World} {b o n : Nat} {z : Nat → Nat → Int} (S : Cs w (some ⟨b, o, none⟩) n z) (h : 0 < n) : b < w.heap.size := by
  rcases S.cells with h0 | ⟨b', o', ha, hb, hc⟩
  · omega
  · injection ha with ha; injection ha with e1 e2; subst e1; exact hb
theorem flat_get {z : Nat → Nat → Int} {n j : Nat} {u : Value} (h : (flat z n)[j]? = some u) : j < n * 5 ∧ u = .int .i64 (z (j / 5) (j % 5)) := by
  have lt := (List.getElem?_eq_some_iff.1 h).1
  rw [flat_len] at lt
  have e := flat_at z (n := n) (i := j / 5) (j := j % 5) (by omega) (by omega)
  rw [show j / 5 * 5 + j % 5 = j by omega, h] at e
  exact ⟨lt, by simpa using e⟩
theorem flat_one {z : Nat → Nat → Int} {n : Nat} : ∀ u ∈ flat z n, u.oneCell' = true := fun u hu => by
  unfold flat at hu; simp only [List.mem_map] at hu; obtain ⟨t, _, rfl⟩ := hu; rfl
theorem nth_take {l : List Cd} {i t : Nat} (h : t < i) : nth (l.take i) t = nth l t := by
  unfold nth; simp [List.getD_eq_getElem?_getD, List.getElem?_take, h]
theorem nth_drop {l : List Cd} {k t : Nat} : nth (l.drop k) t = nth l (k + t) := by
  unfold nth; simp [List.getD_eq_getElem?_getD]
theorem Rk.fresh (w : World) : Rk (w.alloc (.cells #[] 36)) w.heap.size (.slice (some ⟨w.heap.size, 0, none⟩) 0 0) [] :=
  ⟨⟨rfl, .inr ⟨w.heap.size, 0, #[], rfl, Nat.le_refl _, Hp.blk_new _ _, Nat.le_refl _, by unfold maxLen; omega, rfl, rfl⟩⟩⟩
/-- append of candidates, as a step of a region that draws -/
theorem step_append_cands {w : World} {ops : Array Oper} {o : Oper} {a : Act} {K : Act → World → Prop} {Q : Exit → Act → World → Prop} {E : Prop} {base : Nat} {v : Value} {l m : List Cd} (hg : o.guard = none) (s xo : Operand)
    (ho : o.op = .call { callee := .builtin .append, args := #[s, xo], argTypes := #[22, 22] }) (hs : a.eval s = v) (own : Rk w base v l) (ad : Addr) (k c : Nat) (hx : a.eval xo = .slice (some ad) k c) (hk : Hid (m.length = k))
    (hc : ∀ j u, (flat (zof m) k)[j]? = some u → w.cell? (ad.add j) = some u) (small : l.length + k ≤ 1000000) (hb : base ≤ w.heap.size)
    (hK : ∀ v' w', Rk w' base v' (l ++ m) → w.grownBy w' v.ownBlock → K (a.put o.dst v') w') : if Region.wanted o (yielded ops a.tmps) = true then Oper.wp Try.prog o a w K Q else E := by
  have hw : Region.wanted o (yielded ops a.tmps) = true := by simp [Region.wanted, hg]
  rw [if_pos hw]
  obtain ⟨i0, hi, hz0, hz1, hz2⟩ := info_parts info_cand
  refine wp_append_own w s xo 22 ho base 36 i0 _ 5 40 Try.underlying22 hi hz0 hz1 hz2 rfl (by decide) v l.length _ hs own.own ad k c (flat (zof m) k) hx (flat_len _ _) hc flat_one ?_ ?_ hb ?_
  · unfold maxLen; omega
  · omega
  · intro v' w' h1 h2 _
    refine hK v' w' ⟨?_⟩ h2
    rw [List.length_append, flat_apps, hk.out]; exact h1
set_option maxHeartbeats 4000000 in
theorem without_any (l : List Cd) (b o c i : Nat) (hi : i < l.length) (hc : l.length ≤ c) (h12 : l.length ≤ 12) (w : World) (S : Cs w (some ⟨b, o, none⟩) l.length (zof l)) :
    Calls Try.prog 28 #[.slice (some ⟨b, o, none⟩) l.length c, .int .i64 i] w fun e w' => ∃ v, e = .returned v ∧ Rk w' w.heap.size v (l.eraseIdx i) ∧ Below w.heap.size w w' := by
  obtain ⟨n, hn⟩ : ∃ n, l.length = n := ⟨_, rfl⟩
  have HN := Lib.hid hn
  rw [hn] at hi hc h12 S ⊢
  have lb : b < w.heap.size := cs_lt S (by omega)
  have HL1 : Hid ((l.take i).length = i) := Lib.hid (by rw [List.length_take]; omega)
  have HL2 : Hid ((l.drop (i + 1)).length = n - (i + 1)) := Lib.hid (by rw [List.length_drop, hn])
  have C1 : Hid (∀ W, Below w.heap.size w W → ∀ j u, (flat (zof (l.take i)) i)[j]? = some u → W.cell? ((⟨b, o, none⟩ : Addr).add j) = some u) := Lib.hid fun W k j u hj => by
    obtain ⟨lt, rfl⟩ := flat_get hj
    have e := cs_at' (S.later k) (j / 5) (j % 5) (by omega) (by omega)
    rw [show j / 5 * 5 + j % 5 = j by omega] at e
    rw [add_at, e]; unfold zof; rw [nth_take (by omega)]
  obtain ⟨A, hA, C2⟩ : ∃ A : Addr, (if c = i + 1 then some (⟨b, o, none⟩ : Addr) else some ⟨b, o + (i + 1) * 5, none⟩) = some A ∧ Hid (∀ W, Below w.heap.size w W → ∀ j u, (flat (zof (l.drop (i + 1))) (n - (i + 1)))[j]? = some u → W.cell? (A.add j) = some u) := by
    by_cases h : c = i + 1
    · refine ⟨⟨b, o, none⟩, by simp [h], Lib.hid fun W k j u hj => ?_⟩
      obtain ⟨lt, _⟩ := flat_get hj
      omega
    · refine ⟨⟨b, o + (i + 1) * 5, none⟩, by simp [h], Lib.hid fun W k j u hj => ?_⟩
      obtain ⟨lt, rfl⟩ := flat_get hj
      have e := cs_at' (S.later k) (i + 1 + j / 5) (j % 5) (by omega) (by omega)
      rw [show o + ((i + 1 + j / 5) * 5 + j % 5) = o + (i + 1) * 5 + j by omega] at e
      rw [add_at, e]; unfold zof; rw [nth_drop]
  have R0 : Hid (Rk (w.drew.alloc (.cells #[] 36)) w.heap.size (.slice (some ⟨w.heap.size, 0, none⟩) 0 0) []) := Lib.hid (Rk.fresh w.drew)
  have B0 : Hid (Below w.heap.size w (w.drew.alloc (.cells #[] 36))) := Lib.hid (by (repeat (first | exact Below.refl _ _ | refine Below.drew ?_ | refine Hp.drewN ?_ _ | refine Below.setCell ?_ (by first | (simp; done) | (simp; omega) | omega) _ | refine Below.alloc ?_ (by first | (simp; done) | (simp; omega) | omega) _ | (refine Hp.step ?_ (by assumption)))))
  have EQ := Lib.hid (show l.take i ++ l.drop (i + 1) = l.eraseIdx i from (erase_eq l i).symm)
  have e1 : IntKind.i64.wrap ((i : Int) + 1) = (i : Int) + 1 := IntWalk.i64_in _ (by omega)
  have e2 : 0 ≤ (i : Int) + 1 := by omega
  have e4 : (i : Int) + 1 ≤ (n : Int) := by omega
  have e3 : ((i : Int) + 1).toNat = i + 1 := by omega
  have i12 : (i : Int) ≤ 12 := by omega
  have j1 : i + 1 ≤ n := by omega
  have j2 : i + 1 ≤ c := by omega
  have j3 : i ≤ c := by omega
  clear S hn
  go_enter Try.func28, Try.ntmps28
  go_wp2_with (fail)
  go_region_law (first
    | (refine step_append_cands (l := []) (m := l.take i) (by rfl) (.tmp 5) (.tmp 8) (by rfl) (by simp [Act.eval, Act.put]) R0.out ⟨b, o, none⟩ i c (by simp [Act.eval, Act.put]) HL1 (C1.out _ B0.out) (by simp; omega) (by simp) ?_; intro v1 w1 R1 G1; have HR1 := Lib.hid R1; have HB1 := Lib.hid (Rk.below R0.out (Nat.le_refl _) G1 B0.out (by simp)); clear R1 G1)
    | (refine step_append_cands (l := [] ++ l.take i) (m := l.drop (i + 1)) (by rfl) (.tmp 9) (.tmp 13) (by rfl) (by simp [Act.eval, Act.put]) HR1.out A (n - (i + 1)) (c - (i + 1)) (by simp [Act.eval, Act.put]) HL2 (C2.out _ HB1.out) (by simp; omega) HB1.out.size ?_; intro v2 w2 R2 G2; have HR2 := Lib.hid R2; have HB2 := Lib.hid (Rk.below HR1.out (Nat.le_refl _) G2 HB1.out HB1.out.size); clear R2 G2))
  go_wp2_with (fail)
  go_ret
  exact ⟨_, rfl, by rw [← EQ.out]; exact HR2.out, HB2.out⟩
end Go.Proofs.Ytbbdeagllhmdiaa.CxW
