/- Contracts of layer 48: equal; two slices of one's own grow side by side. -/
import Derived.Test.YtbidogefodfakaaYld
import Derived.Test.YtbidogefodfakaaYk
set_option linter.unusedVariables false
set_option linter.unusedSimpArgs false
namespace Go.Proofs.Ytbidogefodfakaa.YxW
open Go.RowKit Ls Orw Rw
theorem gcd_le {k d : Int} (h : 1 ≤ d) : (Int.gcd k d : Int) ≤ d ∧ 1 ≤ (Int.gcd k d : Int) := by
  have h1 := Int.le_of_dvd (by omega) (Int.gcd_dvd_right k d)
  have : Int.gcd k d ≠ 0 := by rw [Ne, Int.gcd_eq_zero_iff]; omega
  omega
set_option maxHeartbeats 4000000 in
theorem equal_any (a1 a2 b1 b2 k : Int) (p1 : 0 ≤ a1) (p2 : a1 ≤ 9223372036854775807) (q0 : 0 ≤ b2) (q1 : b2 ≤ 9223372036854775807) (k0 : 0 ≤ k) (k1 : k ≤ 9223372036854775807) (h : Yx.eqK a1 a2 b1 b2 k = true) (w : World) :
    Calls Try.prog 25 #[.agg #[.int .i64 a1, .int .i64 a2], .agg #[.int .i64 b1, .int .i64 b2], .int .i64 k] w fun e w' => e = .returned (.bool true) ∧ Below w.heap.size w w' := by
  unfold Yx.eqK at h
  by_cases hb : b2 < 1
  · rw [if_pos hb] at h
    obtain ⟨rfl, rfl⟩ := of_decide_eq_true h
    clear h
    go_enter Try.func25, Try.ntmps25
    go_wp2_with (fail)
    go_ret
    exact ⟨rfl, by (repeat (first | exact Below.refl _ _ | refine Below.drew ?_ | refine Hp.drewN ?_ _ | refine Below.setCell ?_ (by first | (simp; done) | (simp; omega) | omega) _ | refine Below.alloc ?_ (by first | (simp; done) | (simp; omega) | omega) _ | (refine Hp.step ?_ (by assumption))))⟩
  · rw [if_neg hb] at h
    obtain ⟨e1, e2⟩ := of_decide_eq_true h
    have E1 := Lib.hid e1; have E2 := Lib.hid e2
    have hG := gcd_le (k := k) (d := b2) (by omega)
    obtain ⟨G, hg⟩ : ∃ G : Int, (Int.gcd k b2 : Int) = G := ⟨_, rfl⟩
    have HG := Lib.hid hg
    rw [hg] at hG
    clear h e1 e2 hg
    go_enter Try.func25, Try.ntmps25
    go_wp2_with (fail)
    go_quiet (fail)
    go_wp2_with (fail)
    go_loopw [7, 8] (fun a b wr => ∃ p q : Int, 0 ≤ p ∧ 0 ≤ q ∧ p ≤ 9223372036854775807 ∧ q ≤ 9223372036854775807 ∧ a = .int .i64 p ∧ b = .int .i64 q ∧ Int.gcd p q = Int.gcd k b2 ∧ ∃ m, wr = ((w.alloc (RO a1 a2)).alloc (RO b1 b2)).drewN m) (fun _ b _ => (intOf b).toNat)
    case atStart => exact ⟨k, b2, by omega, by omega, by omega, by omega, rfl, rfl, rfl, _, rfl⟩
    case round =>
      obtain ⟨p, q, p0, q0, p1, q1, rfl, rfl, hg, m, rfl⟩ := hrel
      have HG2 := Lib.hid hg
      clear hg
      by_cases hq : q = 0
      · subst hq
        obtain rfl : p = G := by rw [← HG.out, ← HG2.out, Int.gcd_zero_right]; omega
        have t1 : k.tdiv p = k / p := Int.tdiv_eq_ediv_of_nonneg k0
        have t2 : b2.tdiv p = b2 / p := Int.tdiv_eq_ediv_of_nonneg (by omega)
        have t3 := E1.out; have t4 := E2.out
        rw [HG.out] at t3 t4
        have z1 := Int.ediv_nonneg k0 (show 0 ≤ p by omega)
        have z2 := Int.ediv_le_self p k0
        have z3 := Int.ediv_nonneg (show 0 ≤ b2 by omega) (show 0 ≤ p by omega)
        have z4 := Int.ediv_le_self p (show 0 ≤ b2 by omega)
        obtain ⟨Z, hZ⟩ : ∃ Z, k / p = Z := ⟨_, rfl⟩
        rw [hZ] at t1 t3 z1 z2
        rw [← t4] at t2 z3 z4
        have t5 : b1 * Z = a1 := t3.symm
        clear hZ t3 t4
        go_wp2_with (fail)
        go_quiet (fail)
        go_wp2_with (fail)
        go_ret
        exact ⟨rfl, by (repeat (first | exact Below.refl _ _ | refine Below.drew ?_ | refine Hp.drewN ?_ _ | refine Below.setCell ?_ (by first | (simp; done) | (simp; omega) | omega) _ | refine Below.alloc ?_ (by first | (simp; done) | (simp; omega) | omega) _ | (refine Hp.step ?_ (by assumption))))⟩
      · have hqb : (q != 0) = true := by simpa using hq
        have hqp : 0 < q := by omega
        have e1 := Lib.hid (gcd_step p0 hqp)
        have b1 := Int.emod_nonneg p hq; have b2 := Int.emod_lt_of_pos p hqp
        have e2 : p.tmod q = p % q := Int.tmod_eq_emod_of_nonneg p0
        go_wp2_with (fail)
        go_quiet (fail)
        go_wp2_with (fail)
        go_roundw
        case rel => exact ⟨q, p % q, by omega, by omega, by omega, by omega, rfl, rfl, by rw [e1.out, HG2.out], m + nq, by rw [World.drewN_drewN]⟩
        case measure => simp only [intOf]; omega
/-- where the append of one integer leaves the slice -/
theorem append_at {w : World} {base : Nat} {v v' : Value} {zs : List Int} {z : Int} {ad : Addr} {w' : World} (own : Row w base v zs) (hc : w.cell? ad = some (.int .i64 z)) (small : zs.length ≤ 1000000)
    (hr : (Builtin.append_ #[22, 22] 22 #[v, .slice (some ad) 1 1]).run Try.prog w = .ok v' w') : v'.ownBlock = v.ownBlock ∨ v'.ownBlock = some w.heap.size := by
  obtain ⟨i0, hi, hz0, hz1, hz2⟩ := info_parts info_int
  have hn : ∀ j u, [Value.int .i64 z][j]? = some u → w.cell? (ad.add j) = some u := by
    intro j u hj
    match j, hj with
    | 0, hj => simp at hj; subst hj; simpa [Addr.add] using hc
  rcases own.2 with ⟨rfl, h0⟩ | ⟨g, cap, cur, rfl, hb, hg, hnc, hcm, hcs, ht⟩
  · have e := run_append_nil (P := Try.prog) w 22 22 3 i0 (.int .i64 0) Try.underlying22 hi hz0 ad 1 1 [.int .i64 z] (by rw [hz1]; rfl) hn (by omega) (by omega) (by rw [hz2]; omega)
    rw [hr] at e
    injection e with e1 _
    right; rw [e1]; rfl
  · by_cases hroom : zs.length + 1 ≤ cap
    · have e := run_append_room (P := Try.prog) w 22 22 3 i0 Try.underlying22 hi g zs.length cap cur hg ad 1 1 [.int .i64 z] (by rw [hz1]; rfl) hn (by intro u hu; simp at hu; subst hu; rfl) hroom (by rw [hz1, hcs]; simp; omega)
      rw [hr] at e
      injection e with e1 _
      left; rw [e1]; rfl
    · have hl : (zs.map (Value.int .i64)).length = zs.length * i0.size := by rw [hz1]; simp
      have holds : ∀ j u, (zs.map (Value.int .i64))[j]? = some u → w.cell? ((⟨g, 0, none⟩ : Addr).add j) = some u := World.ownsRow.cells own (g := g) rfl
      have e := run_append_grow (P := Try.prog) w 22 22 3 i0 (.int .i64 0) Try.underlying22 hi hz0 ⟨g, 0, none⟩ zs.length cap _ hl holds ad 1 1 [.int .i64 z] (by rw [hz1]; rfl) hn (by omega) (by unfold maxLen at hcm; omega) (growslice_fits (by omega) (by rw [hz2]; omega))
      rw [hr] at e
      injection e with e1 _
      right; rw [e1]; rfl
/-- out = append(out, z), and where it lies -/
theorem append_int2 {w : World} {ops : Array Oper} {rest : List Oper} {o : Oper} {a : Act} {Q : Exit → Act → World → Prop} {base : Nat} {v : Value} {zs : List Int} {z : Int} (hgd : o.guard = none) (s x : Operand)
    (ho : o.op = .call { callee := .builtin .append, args := #[s, x], argTypes := #[22, 22] }) (hty : o.type = 22) (hs : a.eval s = v) (own : Row w base v zs) (ad : Addr) (hx : a.eval x = .slice (some ad) 1 1) (hc : w.cell? ad = some (.int .i64 z))
    (small : zs.length ≤ 1000000) (hb : base ≤ w.heap.size) (h : ∀ v' w', Row w' base v' (zs ++ [z]) → w.grownBy w' v.ownBlock → (v'.ownBlock = v.ownBlock ∨ v'.ownBlock = some w.heap.size) → wpList Try.prog ops Q rest (a.put o.dst v') w') : wpList Try.prog ops Q (o :: rest) a w := by
  obtain ⟨i0, hi, hz0, hz1, hz2⟩ := info_parts info_int
  refine wpList_plain hgd fun K hK => ?_
  have hn : ∀ j u, [Value.int .i64 z][j]? = some u → w.cell? (ad.add j) = some u := by
    intro j u hj
    match j, hj with
    | 0, hj => simp at hj; subst hj; simpa [Addr.add] using hc
  obtain ⟨v', w', hr, h2, h3, h4⟩ := run_append_own (P := Try.prog) w base 22 22 3 i0 (.int .i64 0) 1 8 Try.underlying22 hi hz0 hz1 hz2 rfl (by decide) v zs.length _ own ad 1 1 [.int .i64 z] rfl hn (by intro u hu; simp at hu; subst hu; rfl) (by unfold maxLen; omega) (by omega) hb
  have hw := append_at own hc small hr
  unfold Oper.wp execOp
  simp only [ho, hty, resolve, invoke, builtin, Sem.run_bind, Sem.run_pure, Result.andThen_ok, List.map_toArray, List.map_cons, List.map_nil, hs, hx, hr]
  refine hK _ _ (h v' w' ?_ h3 hw)
  unfold Row; rw [List.length_append, List.map_append]; exact h2
/-- two slices of one's own that lie apart -/
def Apart (u v : Value) : Prop := u.ownBlock = none ∨ u.ownBlock ≠ v.ownBlock
theorem Row.keep {w w' : World} {base : Nat} {v : Value} {zs : List Int} {r : Option Nat} (h : Row w base v zs) (G : w.grownBy w' r) (hne : v.ownBlock = none ∨ v.ownBlock ≠ r) : Row w' base v zs := World.ownsRow.kept h G hne
theorem apart1 {w w1 : World} {base : Nat} {v1 v1' v2 : Value} {zs : List Int} (R2 : Row w base v2 zs) (A : Apart v1 v2) (G : w.grownBy w1 v1.ownBlock) (W : v1'.ownBlock = v1.ownBlock ∨ v1'.ownBlock = some w.heap.size) : Row w1 base v2 zs ∧ Apart v1' v2 := by
  refine ⟨Row.keep R2 G ?_, ?_⟩
  · rcases A with h | h
    · rw [h]; cases v2.ownBlock <;> simp
    · exact .inr (Ne.symm h)
  · rcases W with h | h
    · unfold Apart; rw [h]; exact A
    · right; rw [h]; intro e
      have := (World.ownsRow.lt R2 _ e.symm).2; omega
theorem apart2 {w w2 : World} {base : Nat} {v1 v2 v2' : Value} {zs : List Int} (R1 : Row w base v1 zs) (A : Apart v1 v2) (G : w.grownBy w2 v2.ownBlock) (W : v2'.ownBlock = v2.ownBlock ∨ v2'.ownBlock = some w.heap.size) : Row w2 base v1 zs ∧ Apart v1 v2' := by
  refine ⟨Row.keep R1 G A, ?_⟩
  rcases W with h | h
  · unfold Apart; rw [h]; exact A
  · right; rw [h]; intro e
    have := (World.ownsRow.lt R1 _ e).2; omega
theorem x16_bd {w : World} {a : Option Addr} {n cap : Nat} {zs : List Int} (S : In.IsInts .i16 w a n cap zs) : ∀ i, i < n → -32768 ≤ xs zs i ∧ xs zs i ≤ 32767 := fun i hi => by
  obtain ⟨_, _, _, _, _, hw⟩ := S.elem i hi
  exact Hp.i16_bd hw
/-- a slice of 16-bit integers in a later world -/
structure I16 (w : World) (a : Option Addr) (n : Nat) (x : Nat → Int) : Prop where
  cells : ∀ i, i < n → ∃ b o, a = some ⟨b, o, none⟩ ∧ b < w.heap.size ∧ w.cell? ⟨b, o + i, none⟩ = some (.int .i16 (x i))
theorem I16.of {w : World} {a : Option Addr} {n cap : Nat} {zs : List Int} (S : In.IsInts .i16 w a n cap zs) : I16 w a n (xs zs) :=
  ⟨fun i hi => by obtain ⟨b, o, h1, h2, h3, _⟩ := S.elem i hi; exact ⟨b, o, h1, h2, h3⟩⟩
theorem I16.later {w w' : World} {a : Option Addr} {n : Nat} {x : Nat → Int} (h : I16 w a n x) (k : Below w.heap.size w w') : I16 w' a n x :=
  ⟨fun i hi => by
    obtain ⟨b, o, h1, h2, h3⟩ := h.cells i hi
    exact ⟨b, o, h1, Nat.lt_of_lt_of_le h2 k.size, (k.cell (p := ⟨b, o + i, none⟩) h2).trans h3⟩⟩
end Go.Proofs.Ytbidogefodfakaa.YxW
