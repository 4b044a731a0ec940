/- Contracts of layer 48: awake. -/
import Derived.Test.YtbidogefodfakaaYb
import Derived.Test.YtbidogefodfakaaYn
import Derived.Test.YtbidogefodfakaaYu
import Derived.Test.YtbidogefodfakaaYw
import Derived.Test.YtbidogefodfakaaLe
set_option linter.unusedVariables false
set_option linter.unusedSimpArgs false
namespace Go.Proofs.Ytbidogefodfakaa.YxW
open Go.RowKit Ls Orw Rw
def lst (l : List Int) (i : Nat) : Int := l.getD i 0
theorem is_new (w : World) (l : List Int) {g : Nat} (hg : g = w.heap.size) : Is (w.alloc (.cells (l.map (Value.int .i64)).toArray 3)) (some ⟨g, 0, none⟩) l.length (lst l) := by
  subst hg
  refine Is.of_block (Hp.blk_new _ _) fun i hi => ?_
  simp [lst, List.getD_eq_getElem?_getD, hi]
theorem ex_r : Yx.rng 4 (lst [0, 3, 1, 7]) 3 = 7 ∧ Yx.rngE 4 (lst [0, 3, 1, 7]) 3 = 0 := by decide +kernel
theorem ex_a : Yx.alN 4 (lst [0, 1, 4, 9]) 1 = 2 ∧ Yx.alD 4 (lst [0, 1, 4, 9]) 1 = 1 ∧ Yx.alE 4 (lst [0, 1, 4, 9]) 1 = 0 := by decide +kernel
theorem ex_m : Yx.moN 6 (lst [0, 0, 1, 0, 0, 0]) 2 = 1 ∧ Yx.moD 6 (lst [0, 0, 1, 0, 0, 0]) 2 = 2 ∧ Yx.moE 6 (lst [0, 0, 1, 0, 0, 0]) 2 = 0 := by decide +kernel
theorem ex_d : ∀ i, i < 3 → Yx.dt 3 (lst [5, 6, 9]) i = lst [0, -1, 0] i := by decide +kernel
theorem ex_c : Yx.chk 3 (lst [5, 6, 9]) = 0 := by decide +kernel
theorem ex_q : rms 2 (lst [3, -4]) = 3 := by decide +kernel
set_option maxHeartbeats 4000000 in
theorem awake48_any (w : World) :
    Calls Try.prog 13 #[] w fun e w' => e = .returned (.bool true) ∧ Below w.heap.size w w' := by
  go_enter Try.func13, Try.ntmps13
  go_wp2_with (fail)
  refine (range_any (some ⟨w.heap.size, 0, none⟩) 4 4 (lst [0, 3, 1, 7]) 3 _ (is_new w [0, 3, 1, 7] rfl) (by omega) (by omega)).mono ?_
  rw [ex_r.1, ex_r.2]
  rintro e w1 ⟨rfl, hn⟩
  have HB1 := Lib.hid (((Below.refl w.heap.size w).alloc (Nat.le_refl _) _).trans ((Hp.of_drewN hn).mono (by simp)))
  clear hn
  go_wp2_with (fail)
  refine (allan_any (some ⟨w1.heap.size, 0, none⟩) 4 4 (lst [0, 1, 4, 9]) 1 _ (is_new w1 [0, 1, 4, 9] rfl) (by omega)).mono ?_
  rw [ex_a.1, ex_a.2.1, ex_a.2.2]
  rintro e w2 ⟨rfl, hb⟩
  have HB2 := Lib.hid ((HB1.out.alloc HB1.out.size _).trans (hb.mono (by have := HB1.out.size; simp; omega)))
  clear hb
  go_wp2_with (fail)
  refine (modified_any (some ⟨w2.heap.size + 1, 0, none⟩) 6 6 (lst [0, 0, 1, 0, 0, 0]) 2 _ (is_new (w2.alloc (.cells #[.int .i64 2, .int .i64 1] 31)) [0, 0, 1, 0, 0, 0] (by simp)) (by omega)).mono ?_
  rw [ex_m.1, ex_m.2.1, ex_m.2.2]
  rintro e w3 ⟨rfl, hb⟩
  have HB3 := Lib.hid (((HB2.out.alloc HB2.out.size (.cells #[.int .i64 2, .int .i64 1] 31)).alloc (by have := HB2.out.size; simp; omega) _).trans (hb.mono (by have := HB2.out.size; simp; omega)))
  have hA : w3.heap[w2.heap.size]? = some (.cells #[.int .i64 2, .int .i64 1] 31 (0, 0)) := (hb.block _ (by simp; omega)).trans (Hp.blk_old (Hp.blk_new w2 _))
  have HA := Lib.hid hA
  clear hb hA
  go_wp2_with (fail)
  refine (detrend_yes (some ⟨w3.heap.size + 1, 0, none⟩) 3 3 (lst [5, 6, 9]) _ (is_new (w3.alloc (.cells #[.int .i64 1, .int .i64 2] 31)) [5, 6, 9] (by simp)) ex_c (by omega)).mono ?_
  rintro e w4 ⟨g, rfl, o, hg, hb⟩
  have HB4 := Lib.hid (((HB3.out.alloc HB3.out.size (.cells #[.int .i64 1, .int .i64 2] 31)).alloc (by have := HB3.out.size; simp; omega) _).trans (hb.mono (by have := HB3.out.size; simp; omega)))
  have hA4 : w4.heap[w2.heap.size]? = some (.cells #[.int .i64 2, .int .i64 1] 31 (0, 0)) := (hb.block _ (by have := Hp.blk_lt HA.out; simp; omega)).trans (Hp.blk_old (Hp.blk_old HA.out))
  have hC4 : w4.heap[w3.heap.size]? = some (.cells #[.int .i64 1, .int .i64 2] 31 (0, 0)) := (hb.block _ (by simp; omega)).trans (Hp.blk_old (Hp.blk_new w3 _))
  have c0 : w4.cell? ⟨w2.heap.size, 0, none⟩ = some (.int .i64 2) := Hp.blk_cell hA4 rfl
  have c1 : w4.cell? ⟨w2.heap.size, 1, none⟩ = some (.int .i64 1) := Hp.blk_cell hA4 rfl
  have c2 : w4.cell? ⟨w3.heap.size, 0, none⟩ = some (.int .i64 1) := Hp.blk_cell hC4 rfl
  have c3 : w4.cell? ⟨w3.heap.size, 1, none⟩ = some (.int .i64 2) := Hp.blk_cell hC4 rfl
  have HO := Lib.hid ((o.is.congr ex_d).later ((Below.refl w4.heap.size w4).alloc (Nat.le_refl _) (.cells #[.int .i64 0, .int .i64 (-1), .int .i64 0] 3)))
  clear hb hA4 hC4 o hg HA HB1 HB2 HB3
  go_wp2_with (fail)
  refine (equal_same (x := lst [0, -1, 0]) _ HO.out (is_new w4 [0, -1, 0] rfl) (by omega)).mono ?_
  rintro e w5 ⟨rfl, hn⟩
  have HB5 := Lib.hid ((HB4.out.alloc HB4.out.size (.cells #[.int .i64 0, .int .i64 (-1), .int .i64 0] 3)).trans ((Hp.of_drewN hn).mono (by have := HB4.out.size; simp; omega)))
  clear hn c0 c1 c2 c3 HO HB4
  go_wp2_with (fail)
  refine (rms_any (some ⟨w5.heap.size, 0, none⟩) 2 2 (lst [3, -4]) _ (is_new w5 [3, -4] rfl)).mono ?_
  rw [ex_q]
  rintro e w6 ⟨rfl, hn⟩
  have HB6 := Lib.hid ((HB5.out.alloc HB5.out.size _).trans ((Hp.of_drewN hn).mono (by have := HB5.out.size; simp; omega)))
  clear hn
  go_wp2_with (fail)
  go_ret
  exact ⟨rfl, HB6.out⟩
end Go.Proofs.Ytbidogefodfakaa.YxW
