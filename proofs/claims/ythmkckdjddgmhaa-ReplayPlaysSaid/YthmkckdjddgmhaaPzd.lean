/- The contract of Accept of the reference of layer 45. -/
import Derived.Test.YthmkckdjddgmhaaPzc
set_option linter.unusedVariables false
set_option linter.unusedSimpArgs false
namespace Go.Proofs.Ythmkckdjddgmhaa.PxW
open Go.RowKit Go.Proofs.Ythmkckdjddgmhaa.Rw

theorem RKeep.refl (b : Nat) (v : Value) (w : World) (n : Nat) : RKeep b v w (w.drewN n) := ⟨rfl, rfl, rfl, Nat.le_refl _, fun _ _ _ _ => rfl⟩
theorem RKeep.toBelow {b B0 : Nat} {v : Value} {zs : List Int} {w0 w w' : World} (h : RKeep b v w w') (hb : B0 ≤ b) (own : Row w B0 v zs) (k : Below B0 w0 w) (hs : B0 ≤ w.heap.size) : Below B0 w0 w' :=
  k.trans ⟨h.os, h.tape, h.output, h.size, fun i hi => h.block i (by omega) (by omega) (fun e => by have := (World.ownsRow.lt own i e).1; omega)⟩
theorem Win.rkeep {b c base : Nat} {w w' : World} {size next : Int} {B : Nat} {v : Value} {zs : List Int} (h : Win w b size next B) (k : RKeep c v w w') (hc : b ≠ c) (own : Row w base v zs) : Win w' b size next B :=
  ⟨by rw [k.block b h.lt hc (own.ne h.blk (by decide))]; exact h.blk⟩
/-- what the reference returns for what it refuses -/
structure RRefuse (size next n : Int) (l : List Int) (e : Int) : Prop where
  ways : (e = 3 ∧ n < 0) ∨ (e = 3 ∧ ¬ n < 0 ∧ 4611686018427387904 < n) ∨ (e = 17 ∧ ¬ n < 0 ∧ ¬ 4611686018427387904 < n ∧ n ≤ next - 1 - size) ∨ (e = 10 ∧ ¬ n < 0 ∧ ¬ 4611686018427387904 < n ∧ ¬ n ≤ next - 1 - size ∧ n ∈ l)
set_option maxHeartbeats 4000000 in
theorem raccept_no {b base : Nat} {size next : Int} {v : Value} {l : List Int} (n e : Int) (w : World) (W : RWin w b size next v) (own : Row w base v l) (n0 : 0 ≤ next) (nm : next ≤ 4611686018427387905) (s0 : 0 ≤ size) (s1 : size ≤ 256) (small : l.length ≤ 1000000) (R : RRefuse size next n l e) :
    Calls Try.prog 15 #[.pointer (some ⟨b, 0, none⟩), .int .i64 n] w fun e' w' => e' = .returned (.int .i64 e) ∧ ∃ m, w' = w.drewN m := by
  have c0 := W.c0
  have HW := Lib.hid W; have HO := Lib.hid own
  clear W own
  have s2 : IntKind.i64.wrap (next - 1 - size) = next - 1 - size := IntWalk.i64_in _ (by omega)
  rcases R.ways with ⟨rfl, q1⟩ | ⟨rfl, q1, q2⟩ | ⟨rfl, q1, q2, q3⟩ | ⟨rfl, q1, q2, q3, q4⟩
  · go_enter Try.func15, Try.ntmps15
    go_wp2
    go_ret
    exact ⟨rfl, 0, rfl⟩
  · go_enter Try.func15, Try.ntmps15
    go_wp2
    go_ret
    exact ⟨rfl, 0, rfl⟩
  · go_enter Try.func15, Try.ntmps15
    go_wp2_with (fail)
    go_quiet (first | (go_at_call 20; exact Qb.same (rtop_any _ HW.out.drewN n0)))
    go_wp2
    go_ret
    exact ⟨rfl, _, rfl⟩
  · have HM := Lib.hid (show decide (n ∈ l) = true from decide_eq_true q4)
    clear q4
    go_enter Try.func15, Try.ntmps15
    go_wp2_with (fail)
    go_quiet (first | (go_at_call 20; exact Qb.same (rtop_any _ HW.out.drewN n0)))
    go_wp2_with (go_at_call 26; refine (rhas_at HM _ HW.out.drewN HO.out.drewN small).mono ?_; rintro e w' ⟨rfl, rfl⟩)
    go_ret
    exact ⟨rfl, _, rfl⟩
theorem form_snoc {w : World} {base : Nat} {v : Value} {l : List Int} {n : Int} (h : Row w base v (l ++ [n])) : ∃ g cap, v = .slice (some ⟨g, 0, none⟩) (l.length + 1) cap := by
  rcases h.form with ⟨_, h⟩ | ⟨g2, cap2, cur2, hv, _⟩
  · simp at h
  · exact ⟨g2, cap2, by rw [hv]; simp⟩
set_option maxHeartbeats 4000000 in
theorem raccept_yes {b base : Nat} {size next : Int} {v : Value} {l : List Int} (n : Int) (w : World) (W : RWin w b size next v) (own : Row w base v l) (n0 : 0 ≤ next) (nm : next ≤ 4611686018427387905) (s0 : 0 ≤ size) (s1 : size ≤ 256) (small : l.length ≤ 900000) (hb : base ≤ w.heap.size)
    (q1 : ¬ n < 0) (q2 : ¬ 4611686018427387904 < n) (q3 : ¬ n ≤ next - 1 - size) (q4 : n ∉ l) :
    Calls Try.prog 15 #[.pointer (some ⟨b, 0, none⟩), .int .i64 n] w fun e' w' => e' = .returned (.int .i64 0) ∧
      ∃ v', RWin w' b size (Px.nextOf next n) v' ∧ Row w' base v' (Px.accL size next n l) ∧ RKeep b v w w' := by
  have c0 := W.c0
  have ltb := W.lt
  have HM := Lib.hid (show decide (n ∈ l) = false from decide_eq_false q4)
  have s2 : IntKind.i64.wrap (next - 1 - size) = next - 1 - size := IntWalk.i64_in _ (by omega)
  have HW := Lib.hid W; have HO := Lib.hid own
  have ln : (l ++ [n]).length ≤ 1000000 := by simp; omega
  have HLN := Lib.hid ln
  have sm := Lib.hid (show l.length ≤ 1000000 by omega)
  have NE := Lib.hid (own.ne W.blk (by decide))
  clear W own q4 ln
  go_enter Try.func15, Try.ntmps15
  go_wp2_with (fail)
  go_quiet (first | (go_at_call 20; exact Qb.same (rtop_any _ HW.out.drewN n0)))
  have c3 := HW.out.c3
  go_wp2_with (fail)
  refine (rhas_at HM _ HW.out.drewN HO.out.drewN sm.out).mono ?_
  rintro e w' ⟨rfl, rfl⟩
  have cz := Lib.hid (show ((w.drewN nq).alloc (.cells #[.int .i64 n] 3 (0, 0))).cell? ⟨w.heap.size, 0, none⟩ = some (.int .i64 n) from Hp.blk_cell (vs := #[.int .i64 n]) (T := 3) (f := (0, 0)) (Hp.blk_new (w.drewN nq) (.cells #[.int .i64 n] 3 (0, 0))) rfl)
  have esz : ((w.drewN nq).alloc (.cells #[.int .i64 n] 3 (0, 0))).heap.size = w.heap.size + 1 := Array.size_push _
  have ES := Lib.hid esz
  clear esz
  have bs := Lib.hid (show base ≤ ((w.drewN nq).alloc (.cells #[.int .i64 n] 3 (0, 0))).heap.size by rw [ES.out]; omega)
  have Rx : Hid (Row ((w.drewN nq).alloc (.cells #[.int .i64 n] 3 (0, 0))) base v l) := (Row.drewN (n := nq) HO.out).alloc (.cells #[.int .i64 n] 3 (0, 0))
  have BX : Hid (((w.drewN nq).alloc (.cells #[.int .i64 n] 3 (0, 0))).heap[b]? = _) := Hp.blk_old (w := w.drewN nq) HW.out.blk
  go_wp2_with (at_builtin; refine append_int rfl (.tmp 29) (.tmp 31) rfl rfl Rx.out ⟨w.heap.size, 0, none⟩ rfl cz.out sm.out bs.out ?_; intro v2 w2 R2 G2; obtain ⟨g2, cap2, hv2⟩ := form_snoc R2; rw [hv2]; rw [hv2] at R2; have b2 := Rx.out.grown BX.out (by decide) G2; have d3 : w2.cell? ⟨b, 3, none⟩ = some v := Hp.blk_cell b2 rfl; have e3 : w2.frozen? ⟨b, 3, none⟩ = false := Hp.blk_free b2; have HR2 := Lib.hid R2; have HG2 := Lib.hid G2; have HB2 := Lib.hid b2; clear R2 G2 b2 hv2)
  have k2 : RKeep b v w w2 := by
    refine ⟨HG2.out.os, HG2.out.tape, HG2.out.output, ?_, fun i hi hib hiv => ?_⟩
    · have := HG2.out.size
      rw [ES.out] at this
      omega
    · rw [HG2.out.block i (by rw [ES.out]; omega) (fun h => hiv h.symm)]
      exact Below.heap_alloc (w.drewN nq) _ _ hi
  have HK2 := Lib.hid k2
  clear k2 HG2 cz bs
  have W3 : RWin (w2.setCell ⟨b, 3, none⟩ (.slice (some ⟨g2, 0, none⟩) (l.length + 1) cap2)) b size next (.slice (some ⟨g2, 0, none⟩) (l.length + 1) cap2) := ⟨Hp.blk_set HB2.out⟩
  have R3 : Row (w2.setCell ⟨b, 3, none⟩ (.slice (some ⟨g2, 0, none⟩) (l.length + 1) cap2)) base (.slice (some ⟨g2, 0, none⟩) (l.length + 1) cap2) (l ++ [n]) := HR2.out.but HB2.out (by decide) (But.setCell (But.refl _ _) _ _)
  have k3 : RKeep b v w (w2.setCell ⟨b, 3, none⟩ (.slice (some ⟨g2, 0, none⟩) (l.length + 1) cap2)) :=
    ⟨HK2.out.os, HK2.out.tape, HK2.out.output, by have := HK2.out.size; simp [World.setCell]; omega, fun i hi hib hiv => by rw [Below.heap_setCell _ _ _ _ (by simpa using hib)]; exact HK2.out.block i hi hib hiv⟩
  have HW3 := Lib.hid W3; have HR3 := Lib.hid R3; have HK3 := Lib.hid k3
  clear W3 R3 k3
  go_wp2_with (fail)
  refine (rtop_any _ HW3.out n0).mono ?_
  rintro e w' ⟨rfl, rfl⟩
  obtain ⟨w3, hw3⟩ : ∃ w3, w3 = w2.setCell ⟨b, 3, none⟩ (.slice (some ⟨g2, 0, none⟩) (l.length + 1) cap2) := ⟨_, rfl⟩
  rw [← hw3] at HW3 HR3 HK3 ⊢
  clear hw3 d3 e3 HB2 HK2 HR2
  by_cases hu : next ≤ n
  · have x1 := Lib.hid (Px.nextOf_up (next := next) (n := n) hu)
    have hx := Lib.hid (Px.accL_up (size := size) (l := l) hu)
    have d1 := HW3.out.c1
    have d2 := HW3.out.c2
    have e1 := HW3.out.free (o := 1)
    have e2 := HW3.out.free (o := 2)
    have hpos : 0 < n + 1 := by omega
    have W4 : RWin ((w3.setCell ⟨b, 1, none⟩ (.bool true)).setCell ⟨b, 2, none⟩ (.int .i64 n)) b size (n + 1) (.slice (some ⟨g2, 0, none⟩) (l.length + 1) cap2) := by
      refine ⟨?_⟩
      have h := Hp.blk_set (o := 2) (v := .int .i64 n) (Hp.blk_set (o := 1) (v := .bool true) HW3.out.blk)
      have e : topV (n + 1) = n := by unfold topV; rw [if_pos hpos]; omega
      rw [e, decide_eq_true hpos]
      exact h
    have R4 : Row ((w3.setCell ⟨b, 1, none⟩ (.bool true)).setCell ⟨b, 2, none⟩ (.int .i64 n)) base (.slice (some ⟨g2, 0, none⟩) (l.length + 1) cap2) (l ++ [n]) := HR3.out.but HW3.out.blk (by decide) (But.setCell (But.setCell (But.refl _ _) _ _) _ _)
    have sz : base ≤ ((w3.setCell ⟨b, 1, none⟩ (.bool true)).setCell ⟨b, 2, none⟩ (.int .i64 n)).heap.size := by have := HK3.out.size; simp [World.setCell]; omega
    have HW4 := Lib.hid W4; have HR4 := Lib.hid R4; have HS4 := Lib.hid sz
    clear W4 R4 sz
    go_wp2_with (fail)
    refine (rforget_any _ HW4.out HR4.out hpos (by omega) s0 s1 HLN.out HS4.out).mono ?_
    rintro e w5 ⟨rfl, v', W5, R5, B5⟩
    have HW5 := Lib.hid W5; have HR5 := Lib.hid R5; have HB5 := Lib.hid B5
    clear W5 R5 B5
    go_wp2
    go_ret
    refine ⟨rfl, v', by rw [x1.out]; exact HW5.out, ?_, ?_⟩
    · have h := HR5.out
      rw [hx.out]
      rw [show n + 1 - 1 - size = n - size by omega] at h
      exact h
    · have k := HB5.out
      have m : But b w3 ((w3.setCell ⟨b, 1, none⟩ (.bool true)).setCell ⟨b, 2, none⟩ (.int .i64 n)) := But.setCell (But.setCell (But.refl _ _) _ _) _ _
      have k' := m.trans k
      exact ⟨k'.os.trans HK3.out.os, k'.tape.trans HK3.out.tape, k'.output.trans HK3.out.output, Nat.le_trans HK3.out.size k'.size, fun i hi hib hiv => (k'.block i (Nat.lt_of_lt_of_le hi HK3.out.size) hib).trans (HK3.out.block i hi hib hiv)⟩
  · have x1 := Lib.hid (Px.nextOf_low (next := next) (n := n) hu)
    have hx := Lib.hid (Px.accL_low (size := size) (l := l) hu)
    have hu' : ¬ next - 1 < n := by omega
    go_wp2
    go_ret
    exact ⟨rfl, _, by rw [x1.out]; exact HW3.out, by rw [hx.out]; exact HR3.out, HK3.out⟩
end Go.Proofs.Ythmkckdjddgmhaa.PxW
