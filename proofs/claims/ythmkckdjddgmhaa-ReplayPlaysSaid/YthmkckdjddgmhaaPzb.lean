/- Contracts of the reference of layer 45: forget, Can, Missing. -/
import Derived.Test.YthmkckdjddgmhaaPz
set_option linter.unusedVariables false
set_option linter.unusedSimpArgs false
namespace Go.Proofs.Ythmkckdjddgmhaa.PxW
open Go.RowKit Go.Proofs.Ythmkckdjddgmhaa.Rw

/-- in block b alone a field may have turned, and the rows of a slice -/
structure RKeep (b : Nat) (v : Value) (w w' : World) : Prop where
  os : w'.os = w.os
  tape : w'.tape = w.tape
  output : w'.output = w.output
  size : w.heap.size ≤ w'.heap.size
  block : ∀ k, k < w.heap.size → k ≠ b → v.ownBlock ≠ some k → w'.heap[k]? = w.heap[k]?
theorem filter_take_yes {p : Int → Bool} {l : List Int} {k : Nat} (hk : k < l.length) (h : p (l.getD k 0) = true) : (l.take (k + 1)).filter p = (l.take k).filter p ++ [l.getD k 0] := by
  rw [List.take_succ_eq_append_getElem hk, List.filter_append]
  rw [List.getD_eq_getElem?_getD, List.getElem?_eq_getElem hk] at h ⊢
  simp at h ⊢
  simp [h]
theorem filter_take_no {p : Int → Bool} {l : List Int} {k : Nat} (hk : k < l.length) (h : p (l.getD k 0) = false) : (l.take (k + 1)).filter p = (l.take k).filter p := by
  rw [List.take_succ_eq_append_getElem hk, List.filter_append]
  rw [List.getD_eq_getElem?_getD, List.getElem?_eq_getElem hk] at h
  simp at h
  simp [h]
set_option maxHeartbeats 4000000 in
theorem rforget_any {b base : Nat} {size next : Int} {v : Value} {l : List Int} (w : World) (W : RWin w b size next v) (own : Row w base v l) (hpos : 0 < next) (nm : next ≤ 4611686018427387905) (s0 : 0 ≤ size) (s1 : size ≤ 256) (small : l.length ≤ 1000000) (hb : base ≤ w.heap.size) :
    Calls Try.prog 27 #[.pointer (some ⟨b, 0, none⟩)] w fun e w' => e = .returned (.tuple #[]) ∧ ∃ v', RWin w' b size next v' ∧ Row w' base v' (l.filter fun x => decide (next - 1 - size < x)) ∧ But b w w' := by
  have lt := W.lt
  have ht : topV next = next - 1 := by unfold topV; rw [if_pos hpos]
  have blk0 := W.blk
  rw [ht] at blk0
  have BK := Lib.hid blk0
  have HW := Lib.hid W
  have HO := Lib.hid own
  obtain ⟨p, hp⟩ : ∃ p : Int → Bool, p = fun x => decide (next - 1 - size < x) := ⟨_, rfl⟩
  have HP := Lib.hid hp
  rw [← hp]
  rcases own.form with ⟨hv, hl⟩ | ⟨g, cap, cur, hv, hgb, hh, hcap, hcur⟩
  · subst hv; subst hl
    clear own W hp ht blk0
    go_enter Try.func27, Try.ntmps27
    have c3 := HW.out.c3
    have f3 := HW.out.free (o := 3)
    go_wp2
    refine wp_loop_rounds 1 ?_
    rw [rounds_succ]
    go_wp2
    go_end0
    refine ⟨rfl, .slice none 0 0, ⟨Hp.blk_set (o := 3) HW.out.blk⟩, Row.nil _ _, ?_⟩
    repeat (first | exact But.refl _ _ | refine But.setCell ?_ _ _ | refine But.drew ?_)
  · have HH := Lib.hid hh; have HC := Lib.hid hcur
    have hne : g ≠ b := fun e => by subst e; have h1 := HH.out; rw [HW.out.blk] at h1; simp at h1
    have hg2 := Hp.blk_lt hh
    subst hv
    clear own W hp ht blk0 hh hcur
    go_enter Try.func27, Try.ntmps27
    go_wp2
    go_loopw [3, 2] (fun c s wr => ∃ k : Nat, k ≤ l.length ∧ c = .int .i64 k ∧ Row wr w.heap.size s ((l.take k).filter p) ∧ Below w.heap.size w wr) (fun c _ _ => l.length - (intOf c).toNat)
    case atStart => exact ⟨0, Nat.zero_le _, rfl, Row.nil _ _, Below.refl _ _⟩
    case round =>
      obtain ⟨k, hk, rfl, R, hB⟩ := hrel
      have bk : wr.heap[b]? = _ := (hB.block b lt).trans BK.out
      have c0 : wr.cell? ⟨b, 0, none⟩ = some (.int .i64 size) := Hp.blk_cell bk rfl
      have c2 : wr.cell? ⟨b, 2, none⟩ = some (.int .i64 (next - 1)) := Hp.blk_cell bk rfl
      have c3 : wr.cell? ⟨b, 3, none⟩ = some (.slice (some ⟨g, 0, none⟩) l.length cap) := Hp.blk_cell bk rfl
      have f3 : wr.frozen? ⟨b, 3, none⟩ = false := Hp.blk_free bk
      have HBK := Lib.hid bk
      have HR := Lib.hid R; have HB := Lib.hid hB
      clear R hB bk
      by_cases hlt : k < l.length
      · have hc : wr.cell? ⟨g, k, none⟩ = some (.int .i64 (l.getD k 0)) := Hp.blk_cell ((HB.out.block g hg2).trans HH.out) (HC.out k hlt)
        cases hpx : p (l.getD k 0)
        · have e := Lib.hid (filter_take_no hlt hpx)
          have hx : ¬ next - 1 - size < l.getD k 0 := by rw [HP.out] at hpx; simpa using hpx
          obtain ⟨x, hx2⟩ : ∃ x, x = l.getD k 0 := ⟨_, rfl⟩
          rw [← hx2] at hc hx
          clear hx2 hpx
          go_wp2_with (fail)
          go_quiet (fail)
          go_wp2_with (fail)
          go_roundw
          case rel => exact ⟨k + 1, by omega, by go_num, by rw [e.out]; exact HR.out, Hp.drewN HB.out _⟩
          case measure => simp [intOf]; omega
        · have e := Lib.hid (filter_take_yes hlt hpx)
          have hx : next - 1 - size < l.getD k 0 := by rw [HP.out] at hpx; simpa using hpx
          obtain ⟨x, hx2⟩ : ∃ x, x = l.getD k 0 := ⟨_, rfl⟩
          rw [← hx2] at hc hx e
          have sm := Lib.hid (show ((l.take k).filter p).length ≤ 1000000 by have := List.length_filter_le p (l.take k); have := List.length_take_le k l; omega)
          clear hx2 hpx
          go_wp2_with (fail)
          go_quiet (fail)
          have cz := Lib.hid (show ((wr.alloc (.cells #[.int .i64 x] 3 (0, 0))).drewN nq).cell? ⟨wr.heap.size, 0, none⟩ = some (.int .i64 x) from Hp.blk_cell (vs := #[.int .i64 x]) (T := 3) (f := (0, 0)) (Hp.blk_new wr (.cells #[.int .i64 x] 3 (0, 0))) rfl)
          have bs := Lib.hid (show w.heap.size ≤ ((wr.alloc (.cells #[.int .i64 x] 3 (0, 0))).drewN nq).heap.size by have := HB.out.size; show _ ≤ (wr.alloc _).heap.size; simp; omega)
          have Rx : Hid (Row ((wr.alloc (.cells #[.int .i64 x] 3 (0, 0))).drewN nq) w.heap.size _ _) := (HR.out.alloc (.cells #[.int .i64 x] 3 (0, 0))).drewN
          go_wp2_with (at_builtin; refine append_int rfl (.tmp 30) (.tmp 38) rfl rfl Rx.out ⟨wr.heap.size, 0, none⟩ rfl cz.out sm.out bs.out ?_; intro v2 w2 R2 G2; have HR2 := Lib.hid R2; have HG2 := Lib.hid G2; clear R2 G2)
          have HBx : Below w.heap.size w ((wr.alloc (.cells #[.int .i64 x] 3 (0, 0))).drewN nq) := Hp.drewN (HB.out.alloc HB.out.size _) _
          have B2 := Lib.hid (Rx.out.below (Nat.le_refl _) HG2.out HBx HBx.size)
          clear HBx HG2
          go_wp2_with (fail)
          go_roundw
          case rel => exact ⟨k + 1, by omega, by go_num, by rw [e.out]; exact HR2.out, B2.out⟩
          case measure => simp [intOf]; omega
      · have hkl : k = l.length := by omega
        have R2 := HR.out
        rw [hkl, List.take_length] at R2
        have HR2 := Lib.hid R2
        have ltw : b < wr.heap.size := Nat.lt_of_lt_of_le lt HB.out.size
        have hgw := Lib.hid (show w.heap.size ≤ wr.heap.size from HB.out.size)
        rcases R2.form with ⟨hs, hn⟩ | ⟨g2, cap2, cur2, hs, hgb2, hh2, _⟩
        · subst hs
          clear R2 HR hkl
          go_wp2
          go_end0
          refine ⟨rfl, .slice none 0 0, ⟨?_⟩, by rw [hn]; exact Row.nil _ _, ?_⟩
          · have h := Hp.blk_set (o := 3) (v := .slice none 0 0) HBK.out
            have e : topV next = next - 1 := by unfold topV; rw [if_pos hpos]
            rw [e, decide_eq_true hpos] at *
            exact h
          · exact (But.setCell ⟨HB.out.os, HB.out.tape, HB.out.output, HB.out.size, fun i hi _ => HB.out.block i hi⟩ _ _)
        · subst hs
          clear R2 HR hkl hh2
          go_wp2
          go_end0
          refine ⟨rfl, .slice (some ⟨g2, 0, none⟩) (l.filter p).length cap2, ⟨?_⟩, ?_, ?_⟩
          · have h := Hp.blk_set (o := 3) (v := .slice (some ⟨g2, 0, none⟩) (l.filter p).length cap2) HBK.out
            have e : topV next = next - 1 := by unfold topV; rw [if_pos hpos]
            rw [e, decide_eq_true hpos] at *
            exact h
          · refine Row.mono (HR2.out.of_block fun i hi => ?_) hb
            have : i = g2 := by simpa [Value.ownBlock] using hi.symm
            subst this
            exact Below.heap_setCell _ _ _ _ (by simp; omega)
          · exact (But.setCell ⟨HB.out.os, HB.out.tape, HB.out.output, HB.out.size, fun i hi _ => HB.out.block i hi⟩ _ _)
end Go.Proofs.Ythmkckdjddgmhaa.PxW
