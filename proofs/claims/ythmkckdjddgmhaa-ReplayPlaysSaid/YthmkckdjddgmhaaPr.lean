/- The contract of rise of package replay. -/
import Derived.Test.YthmkckdjddgmhaaPv
import Derived.LoopTactic
import Derived.Laws.CopyOwn
import Derived.Deep.RegionLaw
set_option linter.unusedVariables false
set_option linter.unusedSimpArgs false
namespace Go.Proofs.Ythmkckdjddgmhaa.PxW
open Go.RowKit

set_option maxHeartbeats 2000000 in
theorem rise_big {b : Nat} {size next : Int} {B : Nat} (n : Int) (h : 256 ≤ n) (w : World) (W : Win w b size next B) :
    Calls Try.prog 24 #[.pointer (some ⟨b, 0, none⟩), .int .i64 n] w fun e w' => e = .returned (.tuple #[]) ∧ Win w' b size next (Px.up B n.toNat) ∧ But b w w' := by
  have c2 := W.c2; have c3 := W.c3; have c4 := W.c4; have c5 := W.c5
  have f2 := W.free 2; have f3 := W.free 3; have f4 := W.free 4; have f5 := W.free 5
  have lt := W.lt
  have Z := Lib.hid (Px.up_big B n.toNat (by omega))
  go_enter Try.func24, Try.ntmps24
  go_wp2
  go_end0
  refine ⟨rfl, ⟨?_⟩, ?_⟩
  · rw [Z.out]
    have h := Hp.blk_old (y := .cells #[.int .u64 0, .int .u64 0, .int .u64 0, .int .u64 0] 41 (0, 0)) (Hp.blk_set (o := 5) (v := .int .u64 0) (Hp.blk_set (o := 4) (v := .int .u64 0) (Hp.blk_set (o := 3) (v := .int .u64 0) (Hp.blk_set (o := 2) (v := .int .u64 0) W.blk))))
    simpa [Px.wd] using h
  · repeat (first | exact But.refl _ _ | refine But.setCell ?_ _ _ | refine But.drew ?_ | refine But.alloc ?_ _)
/-- the words of the moved bits while they are shifted: those from j on are done -/
def row (M s j : Nat) : Array Value := ((List.range 4).map fun t => Value.int .u64 (if t < j then Px.wd M t else Px.wd (Px.up M s) t : Nat)).toArray
theorem wrapS (x s : Nat) : IntKind.u64.wrap ((x : Int) * 2 ^ s) = (x : Int) * 2 ^ s % 18446744073709551616 := IntKind.wrap_u64 _
theorem orS (M s t : Nat) (hs : s < 64) (ht : t < 3) : bits .or .u64 ((Px.wd M (t + 1) : Int) * 2 ^ s % 18446744073709551616) ((Px.wd M t : Int) / 2 ^ (64 - s)) = (Px.wd (Px.up M s) (t + 1) : Int) := by
  have e : ((Px.wd M t : Int) / 2 ^ (64 - s)) = ((Px.wd M t / 2 ^ (64 - s) : Nat) : Int) := by simp
  have e2 : ((Px.wd M (t + 1) : Int) * 2 ^ s % 18446744073709551616) = ((Px.wd M (t + 1) * 2 ^ s % 18446744073709551616 : Nat) : Int) := by simp
  rw [e, e2, u64_or_nat _ _ (Nat.mod_lt _ (by decide)) (Nat.lt_of_le_of_lt (Nat.div_le_self _ _) (Px.wd_lt _ _)), Px.up_word M s t hs ht]
set_option maxHeartbeats 4000000 in
theorem rise_copy0 {b : Nat} {size next : Int} {B : Nat} (n : Int) (s : Nat) (h0 : 0 ≤ n) (h : n < 256) (hk : n / 64 = 0) (hs : n % 64 = (s : Int)) (w : World) (W : Win w b size next B) :
    Calls Try.prog 24 #[.pointer (some ⟨b, 0, none⟩), .int .i64 n] w fun e w' => e = .returned (.tuple #[]) ∧ Win w' b size next (Px.up B n.toNat) ∧ But b w w' := by
  have c2 := W.c2; have c3 := W.c3; have c4 := W.c4; have c5 := W.c5
  have f2 := W.free 2; have f3 := W.free 3; have f4 := W.free 4; have f5 := W.free 5
  have lt := W.lt
  have hs64 : s < 64 := by omega
  · obtain ⟨M, hM⟩ : ∃ M, M = Px.up B (64 * 0) := ⟨_, rfl⟩
    have m0 := Px.up_words B 0 0 (by decide)
    have m1 := Px.up_words B 0 1 (by decide)
    have m2 := Px.up_words B 0 2 (by decide)
    have m3 := Px.up_words B 0 3 (by decide)
    rw [← hM] at m0 m1 m2 m3
    simp at m0 m1 m2 m3
    have HM0 := Lib.hid m0; have HM1 := Lib.hid m1; have HM2 := Lib.hid m2; have HM3 := Lib.hid m3; have HHM := Lib.hid hM
    clear m0 m1 m2 m3 hM
    have i40 : (Try.prog.info? 40).map (·.size) = some 1 := by kernel_rfl
    go_enter Try.func24, Try.ntmps24
    go_wp2
    have hgM : ((w.alloc (.cells #[.int .u64 0, .int .u64 0, .int .u64 0, .int .u64 0] 41 (0, 0))).drew).heap[w.heap.size]? = some (.cells [.int .u64 0, .int .u64 0, .int .u64 0, .int .u64 0].toArray 41 (0, 0)) := Hp.blk_new _ _
    have hbM : Below w.heap.size w ((w.alloc (.cells #[.int .u64 0, .int .u64 0, .int .u64 0, .int .u64 0] 41 (0, 0))).drew) := ((Below.refl _ _).alloc (by simp) _).drew
    have hbB : ((w.alloc (.cells #[.int .u64 0, .int .u64 0, .int .u64 0, .int .u64 0] 41 (0, 0))).drew).heap[b]? = some (.cells #[.int .i64 size, .int .i64 next, .int .u64 (Px.wd B 0), .int .u64 (Px.wd B 1), .int .u64 (Px.wd B 2), .int .u64 (Px.wd B 3)] 43 (0, 0)) := Hp.blk_old W.blk
    have hp : ∀ (j : Nat) (v : Value), ([.int .u64 (Px.wd M 0), .int .u64 (Px.wd M 1), .int .u64 (Px.wd M 2), .int .u64 (Px.wd M 3)] : List Value)[j]? = some v → ((w.alloc (.cells #[.int .u64 0, .int .u64 0, .int .u64 0, .int .u64 0] 41 (0, 0))).drew).cell? ((⟨b, 2, none⟩ : Addr).add j) = some v := by
      intro j v hj
      rw [HM0.out, HM1.out, HM2.out, HM3.out] at hj
      match j, hj with
      | 0, hj => simp at hj; subst hj; exact Hp.blk_cell (o := 2) hbB rfl
      | 1, hj => simp at hj; subst hj; exact Hp.blk_cell (o := 3) hbB rfl
      | 2, hj => simp at hj; subst hj; exact Hp.blk_cell (o := 4) hbB rfl
      | 3, hj => simp at hj; subst hj; exact Hp.blk_cell (o := 5) hbB rfl
    have GM := Lib.hid hgM; have BM := Lib.hid hbM; have HP := Lib.hid hp
    clear hgM hbM hbB hp
    go_region_law (refine step_copy_splice rfl (.tmp 18) (.tmp 24) 55 55 rfl 40 Try.underlying55 i40 (some ⟨w.heap.size, 0, none⟩) (some ⟨b, 2, none⟩) 4 4 4 4 (by simp [Act.eval, Act.put]) (by simp [Act.eval, Act.put]) w.heap.size 0 [.int .u64 0, .int .u64 0, .int .u64 0, .int .u64 0] 41 GM.out [.int .u64 (Px.wd M 0), .int .u64 (Px.wd M 1), .int .u64 (Px.wd M 2), .int .u64 (Px.wd M 3)] rfl (fun _ => ⟨rfl, ⟨b, 2, none⟩, rfl, HP.out⟩) (Nat.le_refl 4) (by simp [Value.oneCell']) w.heap.size w BM.out (Nat.le_refl _) ?_; intro w2 HG HB)
    have hrow4 : w2.heap[w.heap.size]? = some (.cells (row M s 4) 41 (0, 0)) := by
      rw [HG.out]
      have e : (splice [Value.int .u64 0, .int .u64 0, .int .u64 0, .int .u64 0] 0 ([.int .u64 (Px.wd M 0), .int .u64 (Px.wd M 1), .int .u64 (Px.wd M 2), .int .u64 (Px.wd M 3)] : List Value)).toArray = row M s 4 := by
        simp [splice, row, List.range_succ]
      rw [e]
    have HR4 := Lib.hid hrow4
    clear hrow4 HG GM BM HP
    go_wp2
    go_loopw [8] (fun i wr => ∃ j : Nat, j ≤ 4 ∧ i = .int .i64 ((j : Int) - 1) ∧ wr.heap[w.heap.size]? = some (.cells (row M s j) 41 (0, 0)) ∧ Below w.heap.size w wr) (fun i _ => (intOf i + 1).toNat)
    case atStart => exact ⟨4, by omega, by first | rfl | go_num, HR4.out, HB⟩
    case round =>
      obtain ⟨j, hj, rfl, hrow, hB⟩ := hrel
      clear HR4
      have : j = 0 ∨ j = 1 ∨ j = 2 ∨ j = 3 ∨ j = 4 := by omega
      rcases this with rfl | rfl | rfl | rfl | rfl
      · -- the end
        have lt2 : b < wr.heap.size := Nat.lt_of_lt_of_le lt hB.size
        have blkb : wr.heap[b]? = some (.cells #[.int .i64 size, .int .i64 next, .int .u64 (Px.wd B 0), .int .u64 (Px.wd B 1), .int .u64 (Px.wd B 2), .int .u64 (Px.wd B 3)] 43 (0, 0)) := by rw [hB.block b lt]; exact W.blk
        have q0 : wr.cell? ⟨w.heap.size, 0, none⟩ = some (.int .u64 (Px.wd (Px.up M s) 0)) := Hp.blk_cell hrow (by simp [row, List.range_succ])
        have d0 : wr.cell? ⟨b, 2, none⟩ = some (.int .u64 (Px.wd B 0)) := Hp.blk_cell blkb rfl
        have g0 : wr.frozen? ⟨b, 2, none⟩ = false := Hp.blk_free blkb
        have q1 : wr.cell? ⟨w.heap.size, 1, none⟩ = some (.int .u64 (Px.wd (Px.up M s) 1)) := Hp.blk_cell hrow (by simp [row, List.range_succ])
        have d1 : wr.cell? ⟨b, 3, none⟩ = some (.int .u64 (Px.wd B 1)) := Hp.blk_cell blkb rfl
        have g1 : wr.frozen? ⟨b, 3, none⟩ = false := Hp.blk_free blkb
        have q2 : wr.cell? ⟨w.heap.size, 2, none⟩ = some (.int .u64 (Px.wd (Px.up M s) 2)) := Hp.blk_cell hrow (by simp [row, List.range_succ])
        have d2 : wr.cell? ⟨b, 4, none⟩ = some (.int .u64 (Px.wd B 2)) := Hp.blk_cell blkb rfl
        have g2 : wr.frozen? ⟨b, 4, none⟩ = false := Hp.blk_free blkb
        have q3 : wr.cell? ⟨w.heap.size, 3, none⟩ = some (.int .u64 (Px.wd (Px.up M s) 3)) := Hp.blk_cell hrow (by simp [row, List.range_succ])
        have d3 : wr.cell? ⟨b, 5, none⟩ = some (.int .u64 (Px.wd B 3)) := Hp.blk_cell blkb rfl
        have g3 : wr.frozen? ⟨b, 5, none⟩ = false := Hp.blk_free blkb
        have HBB := Lib.hid blkb
        have BU : Hid (But b w wr) := ⟨hB.os, hB.tape, hB.output, hB.size, fun k hk _ => hB.block k hk⟩
        clear hrow blkb hB c2 c3 c4 c5 f2 f3 f4 f5
        go_wp2
        go_end0
        refine ⟨rfl, ⟨?_⟩, ?_⟩
        · have e : Px.up B n.toNat = Px.up M s := by rw [HHM.out, Px.up_up]; congr 1; omega
          rw [e]
          exact Hp.blk_set (o := 5) (Hp.blk_set (o := 4) (Hp.blk_set (o := 3) (Hp.blk_set (o := 2) HBB.out)))
        · have BU' := BU.out
          repeat (first | exact BU' | refine But.setCell ?_ _ _ | refine But.drew ?_)
      · -- word 0
        have b0 : wr.frozen? ⟨w.heap.size, 0, none⟩ = false := Hp.blk_free hrow
        have q0 : wr.cell? ⟨w.heap.size, 0, none⟩ = some (.int .u64 (Px.wd M 0)) := Hp.blk_cell hrow (by simp [row, List.range_succ])
        have e1 := wrapS (Px.wd M 0) s
        rw [show ((Px.wd M 0 : Int) * 2 ^ s % 18446744073709551616) = (Px.wd (Px.up M s) 0 : Int) from by rw [Px.up_word0 M s hs64]; simp] at e1
        have R : Hid (∀ v1 : Value, ((row M s 1).setIfInBounds 0 v1).setIfInBounds 0 (.int .u64 (Px.wd (Px.up M s) 0)) = row M s 0) := fun v1 => by simp [row, List.range_succ]
        have R1 : Hid ((row M s 1).setIfInBounds 0 (.int .u64 (Px.wd (Px.up M s) 0)) = row M s 0) := by show _ = _; simp [row, List.range_succ]
        have HR := Lib.hid hrow
        clear hrow
        go_wp2
        go_roundw
        case rel => exact ⟨0, by omega, by first | rfl | go_num, by rw [← R1.out]; exact Hp.blk_set HR.out, by (repeat (first | exact Below.refl _ _ | refine Below.drew ?_ | refine Hp.drewN ?_ _ | refine Below.setCell ?_ (by first | (simp; done) | (simp; omega) | omega) _ | refine Below.alloc ?_ (by first | (simp; done) | (simp; omega) | omega) _ | (refine Hp.step ?_ (by assumption))))⟩
        case measure => simp [intOf]
      · -- word 1
        have b0 : wr.frozen? ⟨w.heap.size, 1, none⟩ = false := Hp.blk_free hrow
        have q1 : wr.cell? ⟨w.heap.size, 1, none⟩ = some (.int .u64 (Px.wd M 1)) := Hp.blk_cell hrow (by simp [row, List.range_succ])
        have e1 := wrapS (Px.wd M 1) s
        have q0 : wr.cell? ⟨w.heap.size, 0, none⟩ = some (.int .u64 (Px.wd M 0)) := Hp.blk_cell hrow (by simp [row, List.range_succ])
        have e2 := orS M s 0 hs64 (by decide)
        simp only [show (0 : Nat) + 1 = 1 from rfl] at e2
        have R : Hid (∀ v1 : Value, ((row M s 2).setIfInBounds 1 v1).setIfInBounds 1 (.int .u64 (Px.wd (Px.up M s) 1)) = row M s 1) := fun v1 => by simp [row, List.range_succ]
        have R1 : Hid ((row M s 2).setIfInBounds 1 (.int .u64 (Px.wd (Px.up M s) 1)) = row M s 1) := by show _ = _; simp [row, List.range_succ]
        have HR := Lib.hid hrow
        clear hrow
        go_wp2
        go_region
        go_wp2
        go_roundw
        case rel => exact ⟨1, by omega, by first | rfl | go_num, Hp.blk_drew (by rw [← R.out (.int .u64 ((Px.wd M 1 : Int) * 2 ^ s % 18446744073709551616))]; exact Hp.blk_set (Hp.blk_set HR.out)), by (repeat (first | exact Below.refl _ _ | refine Below.drew ?_ | refine Hp.drewN ?_ _ | refine Below.setCell ?_ (by first | (simp; done) | (simp; omega) | omega) _ | refine Below.alloc ?_ (by first | (simp; done) | (simp; omega) | omega) _ | (refine Hp.step ?_ (by assumption))))⟩
        case measure => simp [intOf]
      · -- word 2
        have b0 : wr.frozen? ⟨w.heap.size, 2, none⟩ = false := Hp.blk_free hrow
        have q2 : wr.cell? ⟨w.heap.size, 2, none⟩ = some (.int .u64 (Px.wd M 2)) := Hp.blk_cell hrow (by simp [row, List.range_succ])
        have e1 := wrapS (Px.wd M 2) s
        have q1 : wr.cell? ⟨w.heap.size, 1, none⟩ = some (.int .u64 (Px.wd M 1)) := Hp.blk_cell hrow (by simp [row, List.range_succ])
        have e2 := orS M s 1 hs64 (by decide)
        simp only [show (1 : Nat) + 1 = 2 from rfl] at e2
        have R : Hid (∀ v1 : Value, ((row M s 3).setIfInBounds 2 v1).setIfInBounds 2 (.int .u64 (Px.wd (Px.up M s) 2)) = row M s 2) := fun v1 => by simp [row, List.range_succ]
        have R1 : Hid ((row M s 3).setIfInBounds 2 (.int .u64 (Px.wd (Px.up M s) 2)) = row M s 2) := by show _ = _; simp [row, List.range_succ]
        have HR := Lib.hid hrow
        clear hrow
        go_wp2
        go_region
        go_wp2
        go_roundw
        case rel => exact ⟨2, by omega, by first | rfl | go_num, Hp.blk_drew (by rw [← R.out (.int .u64 ((Px.wd M 2 : Int) * 2 ^ s % 18446744073709551616))]; exact Hp.blk_set (Hp.blk_set HR.out)), by (repeat (first | exact Below.refl _ _ | refine Below.drew ?_ | refine Hp.drewN ?_ _ | refine Below.setCell ?_ (by first | (simp; done) | (simp; omega) | omega) _ | refine Below.alloc ?_ (by first | (simp; done) | (simp; omega) | omega) _ | (refine Hp.step ?_ (by assumption))))⟩
        case measure => simp [intOf]
      · -- word 3
        have b0 : wr.frozen? ⟨w.heap.size, 3, none⟩ = false := Hp.blk_free hrow
        have q3 : wr.cell? ⟨w.heap.size, 3, none⟩ = some (.int .u64 (Px.wd M 3)) := Hp.blk_cell hrow (by simp [row, List.range_succ])
        have e1 := wrapS (Px.wd M 3) s
        have q2 : wr.cell? ⟨w.heap.size, 2, none⟩ = some (.int .u64 (Px.wd M 2)) := Hp.blk_cell hrow (by simp [row, List.range_succ])
        have e2 := orS M s 2 hs64 (by decide)
        simp only [show (2 : Nat) + 1 = 3 from rfl] at e2
        have R : Hid (∀ v1 : Value, ((row M s 4).setIfInBounds 3 v1).setIfInBounds 3 (.int .u64 (Px.wd (Px.up M s) 3)) = row M s 3) := fun v1 => by simp [row, List.range_succ]
        have R1 : Hid ((row M s 4).setIfInBounds 3 (.int .u64 (Px.wd (Px.up M s) 3)) = row M s 3) := by show _ = _; simp [row, List.range_succ]
        have HR := Lib.hid hrow
        clear hrow
        go_wp2
        go_region
        go_wp2
        go_roundw
        case rel => exact ⟨3, by omega, by first | rfl | go_num, Hp.blk_drew (by rw [← R.out (.int .u64 ((Px.wd M 3 : Int) * 2 ^ s % 18446744073709551616))]; exact Hp.blk_set (Hp.blk_set HR.out)), by (repeat (first | exact Below.refl _ _ | refine Below.drew ?_ | refine Hp.drewN ?_ _ | refine Below.setCell ?_ (by first | (simp; done) | (simp; omega) | omega) _ | refine Below.alloc ?_ (by first | (simp; done) | (simp; omega) | omega) _ | (refine Hp.step ?_ (by assumption))))⟩
        case measure => simp [intOf]
set_option maxHeartbeats 4000000 in
theorem rise_copy1 {b : Nat} {size next : Int} {B : Nat} (n : Int) (s : Nat) (h0 : 0 ≤ n) (h : n < 256) (hk : n / 64 = 1) (hs : n % 64 = (s : Int)) (w : World) (W : Win w b size next B) :
    Calls Try.prog 24 #[.pointer (some ⟨b, 0, none⟩), .int .i64 n] w fun e w' => e = .returned (.tuple #[]) ∧ Win w' b size next (Px.up B n.toNat) ∧ But b w w' := by
  have c2 := W.c2; have c3 := W.c3; have c4 := W.c4; have c5 := W.c5
  have f2 := W.free 2; have f3 := W.free 3; have f4 := W.free 4; have f5 := W.free 5
  have lt := W.lt
  have hs64 : s < 64 := by omega
  · obtain ⟨M, hM⟩ : ∃ M, M = Px.up B (64 * 1) := ⟨_, rfl⟩
    have m0 := Px.up_words B 1 0 (by decide)
    have m1 := Px.up_words B 1 1 (by decide)
    have m2 := Px.up_words B 1 2 (by decide)
    have m3 := Px.up_words B 1 3 (by decide)
    rw [← hM] at m0 m1 m2 m3
    simp at m0 m1 m2 m3
    have HM0 := Lib.hid m0; have HM1 := Lib.hid m1; have HM2 := Lib.hid m2; have HM3 := Lib.hid m3; have HHM := Lib.hid hM
    clear m0 m1 m2 m3 hM
    have i40 : (Try.prog.info? 40).map (·.size) = some 1 := by kernel_rfl
    go_enter Try.func24, Try.ntmps24
    go_wp2
    have hgM : ((w.alloc (.cells #[.int .u64 0, .int .u64 0, .int .u64 0, .int .u64 0] 41 (0, 0))).drew).heap[w.heap.size]? = some (.cells [.int .u64 0, .int .u64 0, .int .u64 0, .int .u64 0].toArray 41 (0, 0)) := Hp.blk_new _ _
    have hbM : Below w.heap.size w ((w.alloc (.cells #[.int .u64 0, .int .u64 0, .int .u64 0, .int .u64 0] 41 (0, 0))).drew) := ((Below.refl _ _).alloc (by simp) _).drew
    have hbB : ((w.alloc (.cells #[.int .u64 0, .int .u64 0, .int .u64 0, .int .u64 0] 41 (0, 0))).drew).heap[b]? = some (.cells #[.int .i64 size, .int .i64 next, .int .u64 (Px.wd B 0), .int .u64 (Px.wd B 1), .int .u64 (Px.wd B 2), .int .u64 (Px.wd B 3)] 43 (0, 0)) := Hp.blk_old W.blk
    have hp : ∀ (j : Nat) (v : Value), ([.int .u64 (Px.wd M 1), .int .u64 (Px.wd M 2), .int .u64 (Px.wd M 3)] : List Value)[j]? = some v → ((w.alloc (.cells #[.int .u64 0, .int .u64 0, .int .u64 0, .int .u64 0] 41 (0, 0))).drew).cell? ((⟨b, 2, none⟩ : Addr).add j) = some v := by
      intro j v hj
      rw [HM1.out, HM2.out, HM3.out] at hj
      match j, hj with
      | 0, hj => simp at hj; subst hj; exact Hp.blk_cell (o := 2) hbB rfl
      | 1, hj => simp at hj; subst hj; exact Hp.blk_cell (o := 3) hbB rfl
      | 2, hj => simp at hj; subst hj; exact Hp.blk_cell (o := 4) hbB rfl
    have GM := Lib.hid hgM; have BM := Lib.hid hbM; have HP := Lib.hid hp
    clear hgM hbM hbB hp
    go_region_law (refine step_copy_splice rfl (.tmp 18) (.tmp 24) 55 55 rfl 40 Try.underlying55 i40 (some ⟨w.heap.size, 1, none⟩) (some ⟨b, 2, none⟩) 3 3 3 3 (by simp [Act.eval, Act.put]) (by simp [Act.eval, Act.put]) w.heap.size 1 [.int .u64 0, .int .u64 0, .int .u64 0, .int .u64 0] 41 GM.out [.int .u64 (Px.wd M 1), .int .u64 (Px.wd M 2), .int .u64 (Px.wd M 3)] rfl (fun _ => ⟨rfl, ⟨b, 2, none⟩, rfl, HP.out⟩) (Nat.le_refl 4) (by simp [Value.oneCell']) w.heap.size w BM.out (Nat.le_refl _) ?_; intro w2 HG HB)
    have hrow4 : w2.heap[w.heap.size]? = some (.cells (row M s 4) 41 (0, 0)) := by
      rw [HG.out]
      have e : (splice [Value.int .u64 0, .int .u64 0, .int .u64 0, .int .u64 0] 1 ([.int .u64 (Px.wd M 1), .int .u64 (Px.wd M 2), .int .u64 (Px.wd M 3)] : List Value)).toArray = row M s 4 := by
        simp [splice, row, List.range_succ, HM0.out]
      rw [e]
    have HR4 := Lib.hid hrow4
    clear hrow4 HG GM BM HP
    go_wp2
    go_loopw [8] (fun i wr => ∃ j : Nat, j ≤ 4 ∧ i = .int .i64 ((j : Int) - 1) ∧ wr.heap[w.heap.size]? = some (.cells (row M s j) 41 (0, 0)) ∧ Below w.heap.size w wr) (fun i _ => (intOf i + 1).toNat)
    case atStart => exact ⟨4, by omega, by first | rfl | go_num, HR4.out, HB⟩
    case round =>
      obtain ⟨j, hj, rfl, hrow, hB⟩ := hrel
      clear HR4
      have : j = 0 ∨ j = 1 ∨ j = 2 ∨ j = 3 ∨ j = 4 := by omega
      rcases this with rfl | rfl | rfl | rfl | rfl
      · -- the end
        have lt2 : b < wr.heap.size := Nat.lt_of_lt_of_le lt hB.size
        have blkb : wr.heap[b]? = some (.cells #[.int .i64 size, .int .i64 next, .int .u64 (Px.wd B 0), .int .u64 (Px.wd B 1), .int .u64 (Px.wd B 2), .int .u64 (Px.wd B 3)] 43 (0, 0)) := by rw [hB.block b lt]; exact W.blk
        have q0 : wr.cell? ⟨w.heap.size, 0, none⟩ = some (.int .u64 (Px.wd (Px.up M s) 0)) := Hp.blk_cell hrow (by simp [row, List.range_succ])
        have d0 : wr.cell? ⟨b, 2, none⟩ = some (.int .u64 (Px.wd B 0)) := Hp.blk_cell blkb rfl
        have g0 : wr.frozen? ⟨b, 2, none⟩ = false := Hp.blk_free blkb
        have q1 : wr.cell? ⟨w.heap.size, 1, none⟩ = some (.int .u64 (Px.wd (Px.up M s) 1)) := Hp.blk_cell hrow (by simp [row, List.range_succ])
        have d1 : wr.cell? ⟨b, 3, none⟩ = some (.int .u64 (Px.wd B 1)) := Hp.blk_cell blkb rfl
        have g1 : wr.frozen? ⟨b, 3, none⟩ = false := Hp.blk_free blkb
        have q2 : wr.cell? ⟨w.heap.size, 2, none⟩ = some (.int .u64 (Px.wd (Px.up M s) 2)) := Hp.blk_cell hrow (by simp [row, List.range_succ])
        have d2 : wr.cell? ⟨b, 4, none⟩ = some (.int .u64 (Px.wd B 2)) := Hp.blk_cell blkb rfl
        have g2 : wr.frozen? ⟨b, 4, none⟩ = false := Hp.blk_free blkb
        have q3 : wr.cell? ⟨w.heap.size, 3, none⟩ = some (.int .u64 (Px.wd (Px.up M s) 3)) := Hp.blk_cell hrow (by simp [row, List.range_succ])
        have d3 : wr.cell? ⟨b, 5, none⟩ = some (.int .u64 (Px.wd B 3)) := Hp.blk_cell blkb rfl
        have g3 : wr.frozen? ⟨b, 5, none⟩ = false := Hp.blk_free blkb
        have HBB := Lib.hid blkb
        have BU : Hid (But b w wr) := ⟨hB.os, hB.tape, hB.output, hB.size, fun k hk _ => hB.block k hk⟩
        clear hrow blkb hB c2 c3 c4 c5 f2 f3 f4 f5
        go_wp2
        go_end0
        refine ⟨rfl, ⟨?_⟩, ?_⟩
        · have e : Px.up B n.toNat = Px.up M s := by rw [HHM.out, Px.up_up]; congr 1; omega
          rw [e]
          exact Hp.blk_set (o := 5) (Hp.blk_set (o := 4) (Hp.blk_set (o := 3) (Hp.blk_set (o := 2) HBB.out)))
        · have BU' := BU.out
          repeat (first | exact BU' | refine But.setCell ?_ _ _ | refine But.drew ?_)
      · -- word 0
        have b0 : wr.frozen? ⟨w.heap.size, 0, none⟩ = false := Hp.blk_free hrow
        have q0 : wr.cell? ⟨w.heap.size, 0, none⟩ = some (.int .u64 (Px.wd M 0)) := Hp.blk_cell hrow (by simp [row, List.range_succ])
        have e1 := wrapS (Px.wd M 0) s
        rw [show ((Px.wd M 0 : Int) * 2 ^ s % 18446744073709551616) = (Px.wd (Px.up M s) 0 : Int) from by rw [Px.up_word0 M s hs64]; simp] at e1
        have R : Hid (∀ v1 : Value, ((row M s 1).setIfInBounds 0 v1).setIfInBounds 0 (.int .u64 (Px.wd (Px.up M s) 0)) = row M s 0) := fun v1 => by simp [row, List.range_succ]
        have R1 : Hid ((row M s 1).setIfInBounds 0 (.int .u64 (Px.wd (Px.up M s) 0)) = row M s 0) := by show _ = _; simp [row, List.range_succ]
        have HR := Lib.hid hrow
        clear hrow
        go_wp2
        go_roundw
        case rel => exact ⟨0, by omega, by first | rfl | go_num, by rw [← R1.out]; exact Hp.blk_set HR.out, by (repeat (first | exact Below.refl _ _ | refine Below.drew ?_ | refine Hp.drewN ?_ _ | refine Below.setCell ?_ (by first | (simp; done) | (simp; omega) | omega) _ | refine Below.alloc ?_ (by first | (simp; done) | (simp; omega) | omega) _ | (refine Hp.step ?_ (by assumption))))⟩
        case measure => simp [intOf]
      · -- word 1
        have b0 : wr.frozen? ⟨w.heap.size, 1, none⟩ = false := Hp.blk_free hrow
        have q1 : wr.cell? ⟨w.heap.size, 1, none⟩ = some (.int .u64 (Px.wd M 1)) := Hp.blk_cell hrow (by simp [row, List.range_succ])
        have e1 := wrapS (Px.wd M 1) s
        have q0 : wr.cell? ⟨w.heap.size, 0, none⟩ = some (.int .u64 (Px.wd M 0)) := Hp.blk_cell hrow (by simp [row, List.range_succ])
        have e2 := orS M s 0 hs64 (by decide)
        simp only [show (0 : Nat) + 1 = 1 from rfl] at e2
        have R : Hid (∀ v1 : Value, ((row M s 2).setIfInBounds 1 v1).setIfInBounds 1 (.int .u64 (Px.wd (Px.up M s) 1)) = row M s 1) := fun v1 => by simp [row, List.range_succ]
        have R1 : Hid ((row M s 2).setIfInBounds 1 (.int .u64 (Px.wd (Px.up M s) 1)) = row M s 1) := by show _ = _; simp [row, List.range_succ]
        have HR := Lib.hid hrow
        clear hrow
        go_wp2
        go_region
        go_wp2
        go_roundw
        case rel => exact ⟨1, by omega, by first | rfl | go_num, Hp.blk_drew (by rw [← R.out (.int .u64 ((Px.wd M 1 : Int) * 2 ^ s % 18446744073709551616))]; exact Hp.blk_set (Hp.blk_set HR.out)), by (repeat (first | exact Below.refl _ _ | refine Below.drew ?_ | refine Hp.drewN ?_ _ | refine Below.setCell ?_ (by first | (simp; done) | (simp; omega) | omega) _ | refine Below.alloc ?_ (by first | (simp; done) | (simp; omega) | omega) _ | (refine Hp.step ?_ (by assumption))))⟩
        case measure => simp [intOf]
      · -- word 2
        have b0 : wr.frozen? ⟨w.heap.size, 2, none⟩ = false := Hp.blk_free hrow
        have q2 : wr.cell? ⟨w.heap.size, 2, none⟩ = some (.int .u64 (Px.wd M 2)) := Hp.blk_cell hrow (by simp [row, List.range_succ])
        have e1 := wrapS (Px.wd M 2) s
        have q1 : wr.cell? ⟨w.heap.size, 1, none⟩ = some (.int .u64 (Px.wd M 1)) := Hp.blk_cell hrow (by simp [row, List.range_succ])
        have e2 := orS M s 1 hs64 (by decide)
        simp only [show (1 : Nat) + 1 = 2 from rfl] at e2
        have R : Hid (∀ v1 : Value, ((row M s 3).setIfInBounds 2 v1).setIfInBounds 2 (.int .u64 (Px.wd (Px.up M s) 2)) = row M s 2) := fun v1 => by simp [row, List.range_succ]
        have R1 : Hid ((row M s 3).setIfInBounds 2 (.int .u64 (Px.wd (Px.up M s) 2)) = row M s 2) := by show _ = _; simp [row, List.range_succ]
        have HR := Lib.hid hrow
        clear hrow
        go_wp2
        go_region
        go_wp2
        go_roundw
        case rel => exact ⟨2, by omega, by first | rfl | go_num, Hp.blk_drew (by rw [← R.out (.int .u64 ((Px.wd M 2 : Int) * 2 ^ s % 18446744073709551616))]; exact Hp.blk_set (Hp.blk_set HR.out)), by (repeat (first | exact Below.refl _ _ | refine Below.drew ?_ | refine Hp.drewN ?_ _ | refine Below.setCell ?_ (by first | (simp; done) | (simp; omega) | omega) _ | refine Below.alloc ?_ (by first | (simp; done) | (simp; omega) | omega) _ | (refine Hp.step ?_ (by assumption))))⟩
        case measure => simp [intOf]
      · -- word 3
        have b0 : wr.frozen? ⟨w.heap.size, 3, none⟩ = false := Hp.blk_free hrow
        have q3 : wr.cell? ⟨w.heap.size, 3, none⟩ = some (.int .u64 (Px.wd M 3)) := Hp.blk_cell hrow (by simp [row, List.range_succ])
        have e1 := wrapS (Px.wd M 3) s
        have q2 : wr.cell? ⟨w.heap.size, 2, none⟩ = some (.int .u64 (Px.wd M 2)) := Hp.blk_cell hrow (by simp [row, List.range_succ])
        have e2 := orS M s 2 hs64 (by decide)
        simp only [show (2 : Nat) + 1 = 3 from rfl] at e2
        have R : Hid (∀ v1 : Value, ((row M s 4).setIfInBounds 3 v1).setIfInBounds 3 (.int .u64 (Px.wd (Px.up M s) 3)) = row M s 3) := fun v1 => by simp [row, List.range_succ]
        have R1 : Hid ((row M s 4).setIfInBounds 3 (.int .u64 (Px.wd (Px.up M s) 3)) = row M s 3) := by show _ = _; simp [row, List.range_succ]
        have HR := Lib.hid hrow
        clear hrow
        go_wp2
        go_region
        go_wp2
        go_roundw
        case rel => exact ⟨3, by omega, by first | rfl | go_num, Hp.blk_drew (by rw [← R.out (.int .u64 ((Px.wd M 3 : Int) * 2 ^ s % 18446744073709551616))]; exact Hp.blk_set (Hp.blk_set HR.out)), by (repeat (first | exact Below.refl _ _ | refine Below.drew ?_ | refine Hp.drewN ?_ _ | refine Below.setCell ?_ (by first | (simp; done) | (simp; omega) | omega) _ | refine Below.alloc ?_ (by first | (simp; done) | (simp; omega) | omega) _ | (refine Hp.step ?_ (by assumption))))⟩
        case measure => simp [intOf]
set_option maxHeartbeats 4000000 in
theorem rise_copy2 {b : Nat} {size next : Int} {B : Nat} (n : Int) (s : Nat) (h0 : 0 ≤ n) (h : n < 256) (hk : n / 64 = 2) (hs : n % 64 = (s : Int)) (w : World) (W : Win w b size next B) :
    Calls Try.prog 24 #[.pointer (some ⟨b, 0, none⟩), .int .i64 n] w fun e w' => e = .returned (.tuple #[]) ∧ Win w' b size next (Px.up B n.toNat) ∧ But b w w' := by
  have c2 := W.c2; have c3 := W.c3; have c4 := W.c4; have c5 := W.c5
  have f2 := W.free 2; have f3 := W.free 3; have f4 := W.free 4; have f5 := W.free 5
  have lt := W.lt
  have hs64 : s < 64 := by omega
  · obtain ⟨M, hM⟩ : ∃ M, M = Px.up B (64 * 2) := ⟨_, rfl⟩
    have m0 := Px.up_words B 2 0 (by decide)
    have m1 := Px.up_words B 2 1 (by decide)
    have m2 := Px.up_words B 2 2 (by decide)
    have m3 := Px.up_words B 2 3 (by decide)
    rw [← hM] at m0 m1 m2 m3
    simp at m0 m1 m2 m3
    have HM0 := Lib.hid m0; have HM1 := Lib.hid m1; have HM2 := Lib.hid m2; have HM3 := Lib.hid m3; have HHM := Lib.hid hM
    clear m0 m1 m2 m3 hM
    have i40 : (Try.prog.info? 40).map (·.size) = some 1 := by kernel_rfl
    go_enter Try.func24, Try.ntmps24
    go_wp2
    have hgM : ((w.alloc (.cells #[.int .u64 0, .int .u64 0, .int .u64 0, .int .u64 0] 41 (0, 0))).drew).heap[w.heap.size]? = some (.cells [.int .u64 0, .int .u64 0, .int .u64 0, .int .u64 0].toArray 41 (0, 0)) := Hp.blk_new _ _
    have hbM : Below w.heap.size w ((w.alloc (.cells #[.int .u64 0, .int .u64 0, .int .u64 0, .int .u64 0] 41 (0, 0))).drew) := ((Below.refl _ _).alloc (by simp) _).drew
    have hbB : ((w.alloc (.cells #[.int .u64 0, .int .u64 0, .int .u64 0, .int .u64 0] 41 (0, 0))).drew).heap[b]? = some (.cells #[.int .i64 size, .int .i64 next, .int .u64 (Px.wd B 0), .int .u64 (Px.wd B 1), .int .u64 (Px.wd B 2), .int .u64 (Px.wd B 3)] 43 (0, 0)) := Hp.blk_old W.blk
    have hp : ∀ (j : Nat) (v : Value), ([.int .u64 (Px.wd M 2), .int .u64 (Px.wd M 3)] : List Value)[j]? = some v → ((w.alloc (.cells #[.int .u64 0, .int .u64 0, .int .u64 0, .int .u64 0] 41 (0, 0))).drew).cell? ((⟨b, 2, none⟩ : Addr).add j) = some v := by
      intro j v hj
      rw [HM2.out, HM3.out] at hj
      match j, hj with
      | 0, hj => simp at hj; subst hj; exact Hp.blk_cell (o := 2) hbB rfl
      | 1, hj => simp at hj; subst hj; exact Hp.blk_cell (o := 3) hbB rfl
    have GM := Lib.hid hgM; have BM := Lib.hid hbM; have HP := Lib.hid hp
    clear hgM hbM hbB hp
    go_region_law (refine step_copy_splice rfl (.tmp 18) (.tmp 24) 55 55 rfl 40 Try.underlying55 i40 (some ⟨w.heap.size, 2, none⟩) (some ⟨b, 2, none⟩) 2 2 2 2 (by simp [Act.eval, Act.put]) (by simp [Act.eval, Act.put]) w.heap.size 2 [.int .u64 0, .int .u64 0, .int .u64 0, .int .u64 0] 41 GM.out [.int .u64 (Px.wd M 2), .int .u64 (Px.wd M 3)] rfl (fun _ => ⟨rfl, ⟨b, 2, none⟩, rfl, HP.out⟩) (Nat.le_refl 4) (by simp [Value.oneCell']) w.heap.size w BM.out (Nat.le_refl _) ?_; intro w2 HG HB)
    have hrow4 : w2.heap[w.heap.size]? = some (.cells (row M s 4) 41 (0, 0)) := by
      rw [HG.out]
      have e : (splice [Value.int .u64 0, .int .u64 0, .int .u64 0, .int .u64 0] 2 ([.int .u64 (Px.wd M 2), .int .u64 (Px.wd M 3)] : List Value)).toArray = row M s 4 := by
        simp [splice, row, List.range_succ, HM0.out, HM1.out]
      rw [e]
    have HR4 := Lib.hid hrow4
    clear hrow4 HG GM BM HP
    go_wp2
    go_loopw [8] (fun i wr => ∃ j : Nat, j ≤ 4 ∧ i = .int .i64 ((j : Int) - 1) ∧ wr.heap[w.heap.size]? = some (.cells (row M s j) 41 (0, 0)) ∧ Below w.heap.size w wr) (fun i _ => (intOf i + 1).toNat)
    case atStart => exact ⟨4, by omega, by first | rfl | go_num, HR4.out, HB⟩
    case round =>
      obtain ⟨j, hj, rfl, hrow, hB⟩ := hrel
      clear HR4
      have : j = 0 ∨ j = 1 ∨ j = 2 ∨ j = 3 ∨ j = 4 := by omega
      rcases this with rfl | rfl | rfl | rfl | rfl
      · -- the end
        have lt2 : b < wr.heap.size := Nat.lt_of_lt_of_le lt hB.size
        have blkb : wr.heap[b]? = some (.cells #[.int .i64 size, .int .i64 next, .int .u64 (Px.wd B 0), .int .u64 (Px.wd B 1), .int .u64 (Px.wd B 2), .int .u64 (Px.wd B 3)] 43 (0, 0)) := by rw [hB.block b lt]; exact W.blk
        have q0 : wr.cell? ⟨w.heap.size, 0, none⟩ = some (.int .u64 (Px.wd (Px.up M s) 0)) := Hp.blk_cell hrow (by simp [row, List.range_succ])
        have d0 : wr.cell? ⟨b, 2, none⟩ = some (.int .u64 (Px.wd B 0)) := Hp.blk_cell blkb rfl
        have g0 : wr.frozen? ⟨b, 2, none⟩ = false := Hp.blk_free blkb
        have q1 : wr.cell? ⟨w.heap.size, 1, none⟩ = some (.int .u64 (Px.wd (Px.up M s) 1)) := Hp.blk_cell hrow (by simp [row, List.range_succ])
        have d1 : wr.cell? ⟨b, 3, none⟩ = some (.int .u64 (Px.wd B 1)) := Hp.blk_cell blkb rfl
        have g1 : wr.frozen? ⟨b, 3, none⟩ = false := Hp.blk_free blkb
        have q2 : wr.cell? ⟨w.heap.size, 2, none⟩ = some (.int .u64 (Px.wd (Px.up M s) 2)) := Hp.blk_cell hrow (by simp [row, List.range_succ])
        have d2 : wr.cell? ⟨b, 4, none⟩ = some (.int .u64 (Px.wd B 2)) := Hp.blk_cell blkb rfl
        have g2 : wr.frozen? ⟨b, 4, none⟩ = false := Hp.blk_free blkb
        have q3 : wr.cell? ⟨w.heap.size, 3, none⟩ = some (.int .u64 (Px.wd (Px.up M s) 3)) := Hp.blk_cell hrow (by simp [row, List.range_succ])
        have d3 : wr.cell? ⟨b, 5, none⟩ = some (.int .u64 (Px.wd B 3)) := Hp.blk_cell blkb rfl
        have g3 : wr.frozen? ⟨b, 5, none⟩ = false := Hp.blk_free blkb
        have HBB := Lib.hid blkb
        have BU : Hid (But b w wr) := ⟨hB.os, hB.tape, hB.output, hB.size, fun k hk _ => hB.block k hk⟩
        clear hrow blkb hB c2 c3 c4 c5 f2 f3 f4 f5
        go_wp2
        go_end0
        refine ⟨rfl, ⟨?_⟩, ?_⟩
        · have e : Px.up B n.toNat = Px.up M s := by rw [HHM.out, Px.up_up]; congr 1; omega
          rw [e]
          exact Hp.blk_set (o := 5) (Hp.blk_set (o := 4) (Hp.blk_set (o := 3) (Hp.blk_set (o := 2) HBB.out)))
        · have BU' := BU.out
          repeat (first | exact BU' | refine But.setCell ?_ _ _ | refine But.drew ?_)
      · -- word 0
        have b0 : wr.frozen? ⟨w.heap.size, 0, none⟩ = false := Hp.blk_free hrow
        have q0 : wr.cell? ⟨w.heap.size, 0, none⟩ = some (.int .u64 (Px.wd M 0)) := Hp.blk_cell hrow (by simp [row, List.range_succ])
        have e1 := wrapS (Px.wd M 0) s
        rw [show ((Px.wd M 0 : Int) * 2 ^ s % 18446744073709551616) = (Px.wd (Px.up M s) 0 : Int) from by rw [Px.up_word0 M s hs64]; simp] at e1
        have R : Hid (∀ v1 : Value, ((row M s 1).setIfInBounds 0 v1).setIfInBounds 0 (.int .u64 (Px.wd (Px.up M s) 0)) = row M s 0) := fun v1 => by simp [row, List.range_succ]
        have R1 : Hid ((row M s 1).setIfInBounds 0 (.int .u64 (Px.wd (Px.up M s) 0)) = row M s 0) := by show _ = _; simp [row, List.range_succ]
        have HR := Lib.hid hrow
        clear hrow
        go_wp2
        go_roundw
        case rel => exact ⟨0, by omega, by first | rfl | go_num, by rw [← R1.out]; exact Hp.blk_set HR.out, by (repeat (first | exact Below.refl _ _ | refine Below.drew ?_ | refine Hp.drewN ?_ _ | refine Below.setCell ?_ (by first | (simp; done) | (simp; omega) | omega) _ | refine Below.alloc ?_ (by first | (simp; done) | (simp; omega) | omega) _ | (refine Hp.step ?_ (by assumption))))⟩
        case measure => simp [intOf]
      · -- word 1
        have b0 : wr.frozen? ⟨w.heap.size, 1, none⟩ = false := Hp.blk_free hrow
        have q1 : wr.cell? ⟨w.heap.size, 1, none⟩ = some (.int .u64 (Px.wd M 1)) := Hp.blk_cell hrow (by simp [row, List.range_succ])
        have e1 := wrapS (Px.wd M 1) s
        have q0 : wr.cell? ⟨w.heap.size, 0, none⟩ = some (.int .u64 (Px.wd M 0)) := Hp.blk_cell hrow (by simp [row, List.range_succ])
        have e2 := orS M s 0 hs64 (by decide)
        simp only [show (0 : Nat) + 1 = 1 from rfl] at e2
        have R : Hid (∀ v1 : Value, ((row M s 2).setIfInBounds 1 v1).setIfInBounds 1 (.int .u64 (Px.wd (Px.up M s) 1)) = row M s 1) := fun v1 => by simp [row, List.range_succ]
        have R1 : Hid ((row M s 2).setIfInBounds 1 (.int .u64 (Px.wd (Px.up M s) 1)) = row M s 1) := by show _ = _; simp [row, List.range_succ]
        have HR := Lib.hid hrow
        clear hrow
        go_wp2
        go_region
        go_wp2
        go_roundw
        case rel => exact ⟨1, by omega, by first | rfl | go_num, Hp.blk_drew (by rw [← R.out (.int .u64 ((Px.wd M 1 : Int) * 2 ^ s % 18446744073709551616))]; exact Hp.blk_set (Hp.blk_set HR.out)), by (repeat (first | exact Below.refl _ _ | refine Below.drew ?_ | refine Hp.drewN ?_ _ | refine Below.setCell ?_ (by first | (simp; done) | (simp; omega) | omega) _ | refine Below.alloc ?_ (by first | (simp; done) | (simp; omega) | omega) _ | (refine Hp.step ?_ (by assumption))))⟩
        case measure => simp [intOf]
      · -- word 2
        have b0 : wr.frozen? ⟨w.heap.size, 2, none⟩ = false := Hp.blk_free hrow
        have q2 : wr.cell? ⟨w.heap.size, 2, none⟩ = some (.int .u64 (Px.wd M 2)) := Hp.blk_cell hrow (by simp [row, List.range_succ])
        have e1 := wrapS (Px.wd M 2) s
        have q1 : wr.cell? ⟨w.heap.size, 1, none⟩ = some (.int .u64 (Px.wd M 1)) := Hp.blk_cell hrow (by simp [row, List.range_succ])
        have e2 := orS M s 1 hs64 (by decide)
        simp only [show (1 : Nat) + 1 = 2 from rfl] at e2
        have R : Hid (∀ v1 : Value, ((row M s 3).setIfInBounds 2 v1).setIfInBounds 2 (.int .u64 (Px.wd (Px.up M s) 2)) = row M s 2) := fun v1 => by simp [row, List.range_succ]
        have R1 : Hid ((row M s 3).setIfInBounds 2 (.int .u64 (Px.wd (Px.up M s) 2)) = row M s 2) := by show _ = _; simp [row, List.range_succ]
        have HR := Lib.hid hrow
        clear hrow
        go_wp2
        go_region
        go_wp2
        go_roundw
        case rel => exact ⟨2, by omega, by first | rfl | go_num, Hp.blk_drew (by rw [← R.out (.int .u64 ((Px.wd M 2 : Int) * 2 ^ s % 18446744073709551616))]; exact Hp.blk_set (Hp.blk_set HR.out)), by (repeat (first | exact Below.refl _ _ | refine Below.drew ?_ | refine Hp.drewN ?_ _ | refine Below.setCell ?_ (by first | (simp; done) | (simp; omega) | omega) _ | refine Below.alloc ?_ (by first | (simp; done) | (simp; omega) | omega) _ | (refine Hp.step ?_ (by assumption))))⟩
        case measure => simp [intOf]
      · -- word 3
        have b0 : wr.frozen? ⟨w.heap.size, 3, none⟩ = false := Hp.blk_free hrow
        have q3 : wr.cell? ⟨w.heap.size, 3, none⟩ = some (.int .u64 (Px.wd M 3)) := Hp.blk_cell hrow (by simp [row, List.range_succ])
        have e1 := wrapS (Px.wd M 3) s
        have q2 : wr.cell? ⟨w.heap.size, 2, none⟩ = some (.int .u64 (Px.wd M 2)) := Hp.blk_cell hrow (by simp [row, List.range_succ])
        have e2 := orS M s 2 hs64 (by decide)
        simp only [show (2 : Nat) + 1 = 3 from rfl] at e2
        have R : Hid (∀ v1 : Value, ((row M s 4).setIfInBounds 3 v1).setIfInBounds 3 (.int .u64 (Px.wd (Px.up M s) 3)) = row M s 3) := fun v1 => by simp [row, List.range_succ]
        have R1 : Hid ((row M s 4).setIfInBounds 3 (.int .u64 (Px.wd (Px.up M s) 3)) = row M s 3) := by show _ = _; simp [row, List.range_succ]
        have HR := Lib.hid hrow
        clear hrow
        go_wp2
        go_region
        go_wp2
        go_roundw
        case rel => exact ⟨3, by omega, by first | rfl | go_num, Hp.blk_drew (by rw [← R.out (.int .u64 ((Px.wd M 3 : Int) * 2 ^ s % 18446744073709551616))]; exact Hp.blk_set (Hp.blk_set HR.out)), by (repeat (first | exact Below.refl _ _ | refine Below.drew ?_ | refine Hp.drewN ?_ _ | refine Below.setCell ?_ (by first | (simp; done) | (simp; omega) | omega) _ | refine Below.alloc ?_ (by first | (simp; done) | (simp; omega) | omega) _ | (refine Hp.step ?_ (by assumption))))⟩
        case measure => simp [intOf]
set_option maxHeartbeats 4000000 in
theorem rise_copy3 {b : Nat} {size next : Int} {B : Nat} (n : Int) (s : Nat) (h0 : 0 ≤ n) (h : n < 256) (hk : n / 64 = 3) (hs : n % 64 = (s : Int)) (w : World) (W : Win w b size next B) :
    Calls Try.prog 24 #[.pointer (some ⟨b, 0, none⟩), .int .i64 n] w fun e w' => e = .returned (.tuple #[]) ∧ Win w' b size next (Px.up B n.toNat) ∧ But b w w' := by
  have c2 := W.c2; have c3 := W.c3; have c4 := W.c4; have c5 := W.c5
  have f2 := W.free 2; have f3 := W.free 3; have f4 := W.free 4; have f5 := W.free 5
  have lt := W.lt
  have hs64 : s < 64 := by omega
  · obtain ⟨M, hM⟩ : ∃ M, M = Px.up B (64 * 3) := ⟨_, rfl⟩
    have m0 := Px.up_words B 3 0 (by decide)
    have m1 := Px.up_words B 3 1 (by decide)
    have m2 := Px.up_words B 3 2 (by decide)
    have m3 := Px.up_words B 3 3 (by decide)
    rw [← hM] at m0 m1 m2 m3
    simp at m0 m1 m2 m3
    have HM0 := Lib.hid m0; have HM1 := Lib.hid m1; have HM2 := Lib.hid m2; have HM3 := Lib.hid m3; have HHM := Lib.hid hM
    clear m0 m1 m2 m3 hM
    have i40 : (Try.prog.info? 40).map (·.size) = some 1 := by kernel_rfl
    go_enter Try.func24, Try.ntmps24
    go_wp2
    have hgM : ((w.alloc (.cells #[.int .u64 0, .int .u64 0, .int .u64 0, .int .u64 0] 41 (0, 0))).drew).heap[w.heap.size]? = some (.cells [.int .u64 0, .int .u64 0, .int .u64 0, .int .u64 0].toArray 41 (0, 0)) := Hp.blk_new _ _
    have hbM : Below w.heap.size w ((w.alloc (.cells #[.int .u64 0, .int .u64 0, .int .u64 0, .int .u64 0] 41 (0, 0))).drew) := ((Below.refl _ _).alloc (by simp) _).drew
    have hbB : ((w.alloc (.cells #[.int .u64 0, .int .u64 0, .int .u64 0, .int .u64 0] 41 (0, 0))).drew).heap[b]? = some (.cells #[.int .i64 size, .int .i64 next, .int .u64 (Px.wd B 0), .int .u64 (Px.wd B 1), .int .u64 (Px.wd B 2), .int .u64 (Px.wd B 3)] 43 (0, 0)) := Hp.blk_old W.blk
    have hp : ∀ (j : Nat) (v : Value), ([.int .u64 (Px.wd M 3)] : List Value)[j]? = some v → ((w.alloc (.cells #[.int .u64 0, .int .u64 0, .int .u64 0, .int .u64 0] 41 (0, 0))).drew).cell? ((⟨b, 2, none⟩ : Addr).add j) = some v := by
      intro j v hj
      rw [HM3.out] at hj
      match j, hj with
      | 0, hj => simp at hj; subst hj; exact Hp.blk_cell (o := 2) hbB rfl
    have GM := Lib.hid hgM; have BM := Lib.hid hbM; have HP := Lib.hid hp
    clear hgM hbM hbB hp
    go_region_law (refine step_copy_splice rfl (.tmp 18) (.tmp 24) 55 55 rfl 40 Try.underlying55 i40 (some ⟨w.heap.size, 3, none⟩) (some ⟨b, 2, none⟩) 1 1 1 1 (by simp [Act.eval, Act.put]) (by simp [Act.eval, Act.put]) w.heap.size 3 [.int .u64 0, .int .u64 0, .int .u64 0, .int .u64 0] 41 GM.out [.int .u64 (Px.wd M 3)] rfl (fun _ => ⟨rfl, ⟨b, 2, none⟩, rfl, HP.out⟩) (Nat.le_refl 4) (by simp [Value.oneCell']) w.heap.size w BM.out (Nat.le_refl _) ?_; intro w2 HG HB)
    have hrow4 : w2.heap[w.heap.size]? = some (.cells (row M s 4) 41 (0, 0)) := by
      rw [HG.out]
      have e : (splice [Value.int .u64 0, .int .u64 0, .int .u64 0, .int .u64 0] 3 ([.int .u64 (Px.wd M 3)] : List Value)).toArray = row M s 4 := by
        simp [splice, row, List.range_succ, HM0.out, HM1.out, HM2.out]
      rw [e]
    have HR4 := Lib.hid hrow4
    clear hrow4 HG GM BM HP
    go_wp2
    go_loopw [8] (fun i wr => ∃ j : Nat, j ≤ 4 ∧ i = .int .i64 ((j : Int) - 1) ∧ wr.heap[w.heap.size]? = some (.cells (row M s j) 41 (0, 0)) ∧ Below w.heap.size w wr) (fun i _ => (intOf i + 1).toNat)
    case atStart => exact ⟨4, by omega, by first | rfl | go_num, HR4.out, HB⟩
    case round =>
      obtain ⟨j, hj, rfl, hrow, hB⟩ := hrel
      clear HR4
      have : j = 0 ∨ j = 1 ∨ j = 2 ∨ j = 3 ∨ j = 4 := by omega
      rcases this with rfl | rfl | rfl | rfl | rfl
      · -- the end
        have lt2 : b < wr.heap.size := Nat.lt_of_lt_of_le lt hB.size
        have blkb : wr.heap[b]? = some (.cells #[.int .i64 size, .int .i64 next, .int .u64 (Px.wd B 0), .int .u64 (Px.wd B 1), .int .u64 (Px.wd B 2), .int .u64 (Px.wd B 3)] 43 (0, 0)) := by rw [hB.block b lt]; exact W.blk
        have q0 : wr.cell? ⟨w.heap.size, 0, none⟩ = some (.int .u64 (Px.wd (Px.up M s) 0)) := Hp.blk_cell hrow (by simp [row, List.range_succ])
        have d0 : wr.cell? ⟨b, 2, none⟩ = some (.int .u64 (Px.wd B 0)) := Hp.blk_cell blkb rfl
        have g0 : wr.frozen? ⟨b, 2, none⟩ = false := Hp.blk_free blkb
        have q1 : wr.cell? ⟨w.heap.size, 1, none⟩ = some (.int .u64 (Px.wd (Px.up M s) 1)) := Hp.blk_cell hrow (by simp [row, List.range_succ])
        have d1 : wr.cell? ⟨b, 3, none⟩ = some (.int .u64 (Px.wd B 1)) := Hp.blk_cell blkb rfl
        have g1 : wr.frozen? ⟨b, 3, none⟩ = false := Hp.blk_free blkb
        have q2 : wr.cell? ⟨w.heap.size, 2, none⟩ = some (.int .u64 (Px.wd (Px.up M s) 2)) := Hp.blk_cell hrow (by simp [row, List.range_succ])
        have d2 : wr.cell? ⟨b, 4, none⟩ = some (.int .u64 (Px.wd B 2)) := Hp.blk_cell blkb rfl
        have g2 : wr.frozen? ⟨b, 4, none⟩ = false := Hp.blk_free blkb
        have q3 : wr.cell? ⟨w.heap.size, 3, none⟩ = some (.int .u64 (Px.wd (Px.up M s) 3)) := Hp.blk_cell hrow (by simp [row, List.range_succ])
        have d3 : wr.cell? ⟨b, 5, none⟩ = some (.int .u64 (Px.wd B 3)) := Hp.blk_cell blkb rfl
        have g3 : wr.frozen? ⟨b, 5, none⟩ = false := Hp.blk_free blkb
        have HBB := Lib.hid blkb
        have BU : Hid (But b w wr) := ⟨hB.os, hB.tape, hB.output, hB.size, fun k hk _ => hB.block k hk⟩
        clear hrow blkb hB c2 c3 c4 c5 f2 f3 f4 f5
        go_wp2
        go_end0
        refine ⟨rfl, ⟨?_⟩, ?_⟩
        · have e : Px.up B n.toNat = Px.up M s := by rw [HHM.out, Px.up_up]; congr 1; omega
          rw [e]
          exact Hp.blk_set (o := 5) (Hp.blk_set (o := 4) (Hp.blk_set (o := 3) (Hp.blk_set (o := 2) HBB.out)))
        · have BU' := BU.out
          repeat (first | exact BU' | refine But.setCell ?_ _ _ | refine But.drew ?_)
      · -- word 0
        have b0 : wr.frozen? ⟨w.heap.size, 0, none⟩ = false := Hp.blk_free hrow
        have q0 : wr.cell? ⟨w.heap.size, 0, none⟩ = some (.int .u64 (Px.wd M 0)) := Hp.blk_cell hrow (by simp [row, List.range_succ])
        have e1 := wrapS (Px.wd M 0) s
        rw [show ((Px.wd M 0 : Int) * 2 ^ s % 18446744073709551616) = (Px.wd (Px.up M s) 0 : Int) from by rw [Px.up_word0 M s hs64]; simp] at e1
        have R : Hid (∀ v1 : Value, ((row M s 1).setIfInBounds 0 v1).setIfInBounds 0 (.int .u64 (Px.wd (Px.up M s) 0)) = row M s 0) := fun v1 => by simp [row, List.range_succ]
        have R1 : Hid ((row M s 1).setIfInBounds 0 (.int .u64 (Px.wd (Px.up M s) 0)) = row M s 0) := by show _ = _; simp [row, List.range_succ]
        have HR := Lib.hid hrow
        clear hrow
        go_wp2
        go_roundw
        case rel => exact ⟨0, by omega, by first | rfl | go_num, by rw [← R1.out]; exact Hp.blk_set HR.out, by (repeat (first | exact Below.refl _ _ | refine Below.drew ?_ | refine Hp.drewN ?_ _ | refine Below.setCell ?_ (by first | (simp; done) | (simp; omega) | omega) _ | refine Below.alloc ?_ (by first | (simp; done) | (simp; omega) | omega) _ | (refine Hp.step ?_ (by assumption))))⟩
        case measure => simp [intOf]
      · -- word 1
        have b0 : wr.frozen? ⟨w.heap.size, 1, none⟩ = false := Hp.blk_free hrow
        have q1 : wr.cell? ⟨w.heap.size, 1, none⟩ = some (.int .u64 (Px.wd M 1)) := Hp.blk_cell hrow (by simp [row, List.range_succ])
        have e1 := wrapS (Px.wd M 1) s
        have q0 : wr.cell? ⟨w.heap.size, 0, none⟩ = some (.int .u64 (Px.wd M 0)) := Hp.blk_cell hrow (by simp [row, List.range_succ])
        have e2 := orS M s 0 hs64 (by decide)
        simp only [show (0 : Nat) + 1 = 1 from rfl] at e2
        have R : Hid (∀ v1 : Value, ((row M s 2).setIfInBounds 1 v1).setIfInBounds 1 (.int .u64 (Px.wd (Px.up M s) 1)) = row M s 1) := fun v1 => by simp [row, List.range_succ]
        have R1 : Hid ((row M s 2).setIfInBounds 1 (.int .u64 (Px.wd (Px.up M s) 1)) = row M s 1) := by show _ = _; simp [row, List.range_succ]
        have HR := Lib.hid hrow
        clear hrow
        go_wp2
        go_region
        go_wp2
        go_roundw
        case rel => exact ⟨1, by omega, by first | rfl | go_num, Hp.blk_drew (by rw [← R.out (.int .u64 ((Px.wd M 1 : Int) * 2 ^ s % 18446744073709551616))]; exact Hp.blk_set (Hp.blk_set HR.out)), by (repeat (first | exact Below.refl _ _ | refine Below.drew ?_ | refine Hp.drewN ?_ _ | refine Below.setCell ?_ (by first | (simp; done) | (simp; omega) | omega) _ | refine Below.alloc ?_ (by first | (simp; done) | (simp; omega) | omega) _ | (refine Hp.step ?_ (by assumption))))⟩
        case measure => simp [intOf]
      · -- word 2
        have b0 : wr.frozen? ⟨w.heap.size, 2, none⟩ = false := Hp.blk_free hrow
        have q2 : wr.cell? ⟨w.heap.size, 2, none⟩ = some (.int .u64 (Px.wd M 2)) := Hp.blk_cell hrow (by simp [row, List.range_succ])
        have e1 := wrapS (Px.wd M 2) s
        have q1 : wr.cell? ⟨w.heap.size, 1, none⟩ = some (.int .u64 (Px.wd M 1)) := Hp.blk_cell hrow (by simp [row, List.range_succ])
        have e2 := orS M s 1 hs64 (by decide)
        simp only [show (1 : Nat) + 1 = 2 from rfl] at e2
        have R : Hid (∀ v1 : Value, ((row M s 3).setIfInBounds 2 v1).setIfInBounds 2 (.int .u64 (Px.wd (Px.up M s) 2)) = row M s 2) := fun v1 => by simp [row, List.range_succ]
        have R1 : Hid ((row M s 3).setIfInBounds 2 (.int .u64 (Px.wd (Px.up M s) 2)) = row M s 2) := by show _ = _; simp [row, List.range_succ]
        have HR := Lib.hid hrow
        clear hrow
        go_wp2
        go_region
        go_wp2
        go_roundw
        case rel => exact ⟨2, by omega, by first | rfl | go_num, Hp.blk_drew (by rw [← R.out (.int .u64 ((Px.wd M 2 : Int) * 2 ^ s % 18446744073709551616))]; exact Hp.blk_set (Hp.blk_set HR.out)), by (repeat (first | exact Below.refl _ _ | refine Below.drew ?_ | refine Hp.drewN ?_ _ | refine Below.setCell ?_ (by first | (simp; done) | (simp; omega) | omega) _ | refine Below.alloc ?_ (by first | (simp; done) | (simp; omega) | omega) _ | (refine Hp.step ?_ (by assumption))))⟩
        case measure => simp [intOf]
      · -- word 3
        have b0 : wr.frozen? ⟨w.heap.size, 3, none⟩ = false := Hp.blk_free hrow
        have q3 : wr.cell? ⟨w.heap.size, 3, none⟩ = some (.int .u64 (Px.wd M 3)) := Hp.blk_cell hrow (by simp [row, List.range_succ])
        have e1 := wrapS (Px.wd M 3) s
        have q2 : wr.cell? ⟨w.heap.size, 2, none⟩ = some (.int .u64 (Px.wd M 2)) := Hp.blk_cell hrow (by simp [row, List.range_succ])
        have e2 := orS M s 2 hs64 (by decide)
        simp only [show (2 : Nat) + 1 = 3 from rfl] at e2
        have R : Hid (∀ v1 : Value, ((row M s 4).setIfInBounds 3 v1).setIfInBounds 3 (.int .u64 (Px.wd (Px.up M s) 3)) = row M s 3) := fun v1 => by simp [row, List.range_succ]
        have R1 : Hid ((row M s 4).setIfInBounds 3 (.int .u64 (Px.wd (Px.up M s) 3)) = row M s 3) := by show _ = _; simp [row, List.range_succ]
        have HR := Lib.hid hrow
        clear hrow
        go_wp2
        go_region
        go_wp2
        go_roundw
        case rel => exact ⟨3, by omega, by first | rfl | go_num, Hp.blk_drew (by rw [← R.out (.int .u64 ((Px.wd M 3 : Int) * 2 ^ s % 18446744073709551616))]; exact Hp.blk_set (Hp.blk_set HR.out)), by (repeat (first | exact Below.refl _ _ | refine Below.drew ?_ | refine Hp.drewN ?_ _ | refine Below.setCell ?_ (by first | (simp; done) | (simp; omega) | omega) _ | refine Below.alloc ?_ (by first | (simp; done) | (simp; omega) | omega) _ | (refine Hp.step ?_ (by assumption))))⟩
        case measure => simp [intOf]
theorem rise_any {b : Nat} {size next : Int} {B : Nat} (n : Int) (h0 : 0 ≤ n) (w : World) (W : Win w b size next B) :
    Calls Try.prog 24 #[.pointer (some ⟨b, 0, none⟩), .int .i64 n] w fun e w' => e = .returned (.tuple #[]) ∧ Win w' b size next (Px.up B n.toNat) ∧ But b w w' := by
  by_cases h : 256 ≤ n
  · exact rise_big n h w W
  · obtain ⟨s, hs⟩ : ∃ s : Nat, n % 64 = (s : Int) := ⟨(n % 64).toNat, by omega⟩
    have : n / 64 = 0 ∨ n / 64 = 1 ∨ n / 64 = 2 ∨ n / 64 = 3 := by omega
    rcases this with hk | hk | hk | hk
    · exact rise_copy0 n s h0 (by omega) hk hs w W
    · exact rise_copy1 n s h0 (by omega) hk hs w W
    · exact rise_copy2 n s h0 (by omega) hk hs w W
    · exact rise_copy3 n s h0 (by omega) hk hs w W
end Go.Proofs.Ythmkckdjddgmhaa.PxW
