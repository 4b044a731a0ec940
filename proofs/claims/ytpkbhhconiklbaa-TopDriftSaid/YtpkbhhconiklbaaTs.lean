/- Contracts of the oscillator: spans. -/
import Derived.Test.YtpkbhhconiklbaaTc
import Derived.Deep.OwnRows
import Derived.Laws.OwnMore
import Derived.Laws.MakeOwn
import Derived.Deep.DeepCutAuto
set_option linter.unusedVariables false
set_option linter.unusedSimpArgs false
namespace Go.Proofs.Ytpkbhhconiklbaa.TxW
open Go.RowKit Ls
def row (f : Nat → Int) (n : Nat) : Array Value := (Array.range n).map fun i => .int .i64 (f i)
theorem row_size (f : Nat → Int) (n : Nat) : (row f n).size = n := by simp [row]
theorem row_get (f : Nat → Int) {n i : Nat} (h : i < n) : (row f n)[i]? = some (.int .i64 (f i)) := by simp [row, h]
def upd (f : Nat → Int) (i : Nat) (v : Int) (j : Nat) : Int := if j = i then v else f j
theorem row_set (f : Nat → Int) (n i : Nat) (v : Int) : (row f n).setIfInBounds i (.int .i64 v) = row (upd f i v) n := by
  apply Array.ext_getElem?
  intro j
  rw [Array.getElem?_setIfInBounds]
  by_cases hj : j < n
  · rw [row_get (upd f i v) hj]
    by_cases e : i = j
    · subst e; rw [if_pos rfl, if_pos (by rw [row_size]; exact hj)]; unfold upd; rw [if_pos rfl]
    · rw [if_neg e, row_get _ hj]; unfold upd; rw [if_neg (by omega)]
  · have e1 : (row (upd f i v) n)[j]? = none := Array.getElem?_eq_none (by rw [row_size]; omega)
    have e2 : (row f n)[j]? = none := Array.getElem?_eq_none (by rw [row_size]; omega)
    rw [e1, e2]
    by_cases e : i = j
    · subst e; rw [if_pos rfl, if_neg (by rw [row_size]; omega)]
    · rw [if_neg e]
theorem row_congr {f g : Nat → Int} {n : Nat} (h : ∀ i, i < n → f i = g i) : row f n = row g n := by
  apply Array.ext_getElem?
  intro j
  by_cases hj : j < n
  · rw [row_get _ hj, row_get _ hj, h j hj]
  · rw [Array.getElem?_eq_none (by rw [row_size]; omega), Array.getElem?_eq_none (by rw [row_size]; omega)]
/-- a block of type T that holds the integers f 0 .. f (n - 1) -/
structure Ob (T : TypeId) (w : World) (g n : Nat) (f : Nat → Int) : Prop where
  h : w.heap[g]? = some (.cells (row f n) T (0, 0))
section
variable {T : TypeId} {w w' : World} {g n : Nat} {f : Nat → Int}
theorem Ob.lt (o : Ob T w g n f) : g < w.heap.size := Hp.blk_lt o.h
theorem Ob.cell (o : Ob T w g n f) {i : Nat} (hi : i < n) : w.cell? ⟨g, i, none⟩ = some (.int .i64 (f i)) := Hp.blk_cell o.h (row_get f hi)
theorem Ob.free (o : Ob T w g n f) (i : Nat) : w.frozen? ⟨g, i, none⟩ = false := Hp.blk_free o.h
theorem Ob.later (o : Ob T w g n f) (k : Below w.heap.size w w') : Ob T w' g n f := ⟨(k.block g o.lt).trans o.h⟩
theorem Ob.below {B : Nat} (o : Ob T w g n f) (k : Below B w w') (hg : g < B) : Ob T w' g n f := ⟨(k.block g hg).trans o.h⟩
theorem Ob.drewN (o : Ob T w g n f) (k : Nat) : Ob T (w.drewN k) g n f := ⟨o.h⟩
theorem Ob.alloc (o : Ob T w g n f) (x : Obj) : Ob T (w.alloc x) g n f := ⟨Hp.blk_old o.h⟩
theorem Ob.set (o : Ob T w g n f) (i : Nat) (v : Int) : Ob T (w.setCell ⟨g, i, none⟩ (.int .i64 v)) g n (upd f i v) := ⟨by have := Hp.blk_set (o := i) (v := .int .i64 v) o.h; rw [row_set] at this; exact this⟩
theorem Ob.congr {f' : Nat → Int} (o : Ob T w g n f) (h : ∀ i, i < n → f i = f' i) : Ob T w g n f' := ⟨by rw [← row_congr h]; exact o.h⟩
end
theorem made3 (n : Nat) : madeCells #[Value.int .i64 0, .int .i64 0, .int .i64 0] n = row (fun _ => 0) n := by
  apply Array.ext_getElem?
  intro j
  by_cases hj : j < n
  · rw [row_get _ hj]
    have h : j % 3 = 0 ∨ j % 3 = 1 ∨ j % 3 = 2 := by omega
    rcases h with h | h | h <;> simp [madeCells, hj, h]
  · rw [Array.getElem?_eq_none (by rw [size_madeCells]; omega), Array.getElem?_eq_none (by rw [row_size]; omega)]
theorem span_info : (Try.prog.info? 50).map (fun i => (i.zero, i.size, i.bytes)) = some (some (.agg #[.int .i64 0, .int .i64 0, .int .i64 0]), 3, 24) := by kernel_rfl
/-- make([]span, n) -/
theorem make_spans (n : Nat) (v : Int) (hv : v = n) (hn : n ≤ 1000000) (w : World) :
    (Instr.makeSlice 41 (.int .i64 v) (.int .i64 v)).run Try.prog w = .ok (.slice (some ⟨w.heap.size, 0, none⟩) n n) (w.alloc (.cells (row (fun _ => 0) (n * 3)) 50)) := by
  subst hv
  obtain ⟨i, hi, hz, hs, hb⟩ := info_parts span_info
  have := run_make (P := Try.prog) (w := w) 41 50 i _ Try.underlying41 hi hz .i64 .i64 n n (by omega) (by omega) (by rw [hb]; omega) (by omega)
  rw [hs, show (Value.agg #[.int .i64 0, .int .i64 0, .int .i64 0]).cells = #[Value.int .i64 0, .int .i64 0, .int .i64 0] by rfl, made3] at this
  simpa using this

/-- segment i with its end: its three numbers -/
def spn (n : Nat) (z : Nat → Nat → Int) (i j : Nat) : Int := if j = 0 then z i 0 else if j = 1 then z i 1 else Tx.en n z i
/-- the first k spans are laid -/
def spk (n : Nat) (z : Nat → Nat → Int) (k t : Nat) : Int := if t / 3 < k then spn n z (t / 3) (t % 3) else 0
theorem spk_step (n : Nat) (z : Nat → Nat → Int) (k : Nat) : upd (upd (upd (spk n z k) (k * 3) (z k 0)) (k * 3 + 1) (z k 1)) (k * 3 + 2) (Tx.en n z k) = spk n z (k + 1) := by
  funext t
  unfold upd spk
  by_cases h2 : t = k * 3 + 2
  · rw [if_pos h2, if_pos (by omega)]; unfold spn; rw [show t / 3 = k by omega, show t % 3 = 2 by omega]; simp
  · rw [if_neg h2]
    by_cases h1 : t = k * 3 + 1
    · rw [if_pos h1, if_pos (by omega)]; unfold spn; rw [show t / 3 = k by omega, show t % 3 = 1 by omega]; simp
    · rw [if_neg h1]
      by_cases h0 : t = k * 3
      · rw [if_pos h0, if_pos (by omega)]; unfold spn; rw [show t / 3 = k by omega, show t % 3 = 0 by omega]; simp
      · rw [if_neg h0]
        by_cases h : t / 3 < k
        · rw [if_pos h, if_pos (by omega)]
        · rw [if_neg h, if_neg (by omega)]
theorem upd_two (f : Nat → Int) (i : Nat) (a b : Int) : upd (upd f i a) i b = upd f i b := by
  funext t; unfold upd; split <;> rfl
theorem vo_mono {p : Int} {n : Nat} {z : Nat → Nat → Int} (V : Tx.Vo p n z) {i : Nat} : ∀ d, i + 1 + d < n → z i 0 < z (i + 1 + d) 0
  | 0, h => V.ord i h
  | d + 1, h => by
    have a := vo_mono V (i := i) d (by omega); have b := V.ord (i + 1 + d) h
    exact Int.lt_trans a b
def SpanPost (n : Nat) (z : Nat → Nat → Int) (w : World) (e : Ending) (w' : World) : Prop := ∃ g, e = .returned (.slice (some ⟨g, 0, none⟩) n n) ∧ Ss 3 w' (some ⟨g, 0, none⟩) n (spn n z) ∧ Below w.heap.size w w'
theorem ss_of_ob {w : World} {g n : Nat} {z : Nat → Nat → Int} (o : Ob 50 w g (n * 3) (spk n z n)) : Ss 3 w (some ⟨g, 0, none⟩) n (spn n z) := by
  refine ⟨.inr ⟨g, 0, rfl, o.lt, fun i j hi hj => ?_⟩⟩
  rw [Nat.zero_add, o.cell (i := i * 3 + j) (by omega)]
  unfold spk
  rw [if_pos (by omega), show (i * 3 + j) / 3 = i by omega, show (i * 3 + j) % 3 = j by omega]
set_option maxHeartbeats 8000000 in
set_option maxRecDepth 4000 in
theorem spans_any (p : Int) (a : Option Addr) (n c : Nat) (z : Nat → Nat → Int) (V : Tx.Vo p n z) (w : World) (S : Ss 2 w a n z) :
    Calls Try.prog 13 #[.agg #[.int .i64 p, .slice a n c]] w (SpanPost n z w) := by
  have BA := Lib.hid (Below.alloc (Below.refl w.heap.size w) (Nat.le_refl _) (.cells #[.int .i64 p, .slice a n c] 24))
  have CB : Hid ((w.alloc (.cells #[.int .i64 p, .slice a n c] 24)).heap[w.heap.size]? = some (.cells #[.int .i64 p, .slice a n c] 24 (0, 0))) := Lib.hid (Hp.blk_new _ _)
  have SA := Lib.hid (S.later BA.out)
  have n1 := V.n1; have n2 := V.n2
  have HV := Lib.hid V
  have hmk := fun W => make_spans n _ rfl (by omega) W
  obtain ⟨wb, hwb⟩ : ∃ wb, w.alloc (.cells #[.int .i64 p, .slice a n c] 24) = wb := ⟨_, rfl⟩
  rw [hwb] at BA CB SA
  have lc := Hp.blk_lt CB.out
  have bc := Hp.blk_cell (o := 1) CB.out rfl
  obtain ⟨m, hm⟩ : ∃ m, n = m + 1 := ⟨n - 1, by omega⟩
  have hml : m < n := by omega
  have kw : (n : Int) - 1 = m := by omega
  obtain ⟨b, o, rfl, hb, c0, c1⟩ := ss_elem2 SA.out hml
  obtain ⟨X, eX⟩ : ∃ X, z m 0 = X := ⟨_, rfl⟩
  obtain ⟨Y, eY⟩ : ∃ Y, z m 1 = Y := ⟨_, rfl⟩
  rw [eX] at c0; rw [eY] at c1
  have HXY := Lib.hid (And.intro eX eY)
  have HM := Lib.hid hm
  clear S V eX eY hm
  go_enter Try.func13, Try.ntmps13
  go_upto_region 1 with (fail)
  clear hwb
  go_wp2_with (fail)
  go_loopw [22] (fun c wr => ∃ k : Nat, k ≤ n ∧ c = .int .i64 k ∧ wb.heap.size + 1 < wr.heap.size ∧ wr.heap[wb.heap.size + 1]? = some (.cells #[.int .i64 X, .int .i64 Y] 44 (0, 0)) ∧ Ob 50 wr wb.heap.size (n * 3) (spk n z k) ∧ Below wb.heap.size wb wr) (fun c _ => n - (intOf c).toNat)
  case atStart => exact ⟨0, by omega, rfl, by simp, by first | exact Hp.blk_new _ _ | (have := Hp.blk_new (wb.alloc (.cells (row (fun _ => 0) (n * 3)) 50)) (.cells #[.int .i64 X, .int .i64 Y] 44); simpa using this), ((Ob.mk (Hp.blk_new _ _)).alloc _ : Ob 50 _ wb.heap.size (n * 3) (fun _ => 0)).congr (fun t _ => by unfold spk; rw [if_neg (by omega)]), by (repeat (first | exact Below.refl _ _ | refine Below.drew ?_ | refine Hp.drewN ?_ _ | refine Below.setCell ?_ (by first | (simp; done) | (simp; omega) | omega) _ | refine Below.alloc ?_ (by first | (simp; done) | (simp; omega) | omega) _ | (refine Hp.step ?_ (by assumption))))⟩
  case round =>
    obtain ⟨k, hk, rfl, hz, hq, ob, hB⟩ := hrel
    have HB := Lib.hid hB; have HO := Lib.hid ob; have HQ := Lib.hid hq
    have hbs := hB.size
    have C2 := Lib.hid ((hB.block _ lc).trans CB.out)
    have S2 := Lib.hid (SA.out.later hB)
    have bc2 := Hp.blk_cell (o := 1) C2.out rfl
    have lw : w.heap.size < wr.heap.size := Hp.blk_lt C2.out
    have q0 := Hp.blk_cell (o := 0) hq rfl; have q1 := Hp.blk_cell (o := 1) hq rfl
    have ol := ob.lt
    have hbr : b < wr.heap.size := by omega
    clear hB ob hq bc c0 c1
    by_cases hlt : k < n
    · obtain ⟨b', o', e, _, c0, c1⟩ := ss_elem2 S2.out hlt
      obtain ⟨rfl, rfl⟩ : b = b' ∧ o = o' := by injection e with e; injection e with e1 e2; exact ⟨e1, e2⟩
      have f0 := HO.out.cell (i := k * 3) (by omega); have f1 := HO.out.cell (i := k * 3 + 1) (by omega); have f2 := HO.out.cell (i := k * 3 + 2) (by omega)
      have r0 := HO.out.free (k * 3); have r1 := HO.out.free (k * 3 + 1); have r2 := HO.out.free (k * 3 + 2)
      obtain ⟨P, eP⟩ : ∃ P, z k 0 = P := ⟨_, rfl⟩
      obtain ⟨Q, eQ⟩ : ∃ Q, z k 1 = Q := ⟨_, rfl⟩
      rw [eP] at c0; rw [eQ] at c1
      have HPQ := Lib.hid (And.intro eP eQ)
      clear e eP eQ
      go_upto_region 7 with (fail)
      have CX := Lib.hid (Hp.blk_new (((wr.setCell ⟨wb.heap.size, k * 3, none⟩ (.int .i64 P)).setCell ⟨wb.heap.size, k * 3 + 1, none⟩ (.int .i64 Q)).setCell ⟨wb.heap.size, k * 3 + 2, none⟩ (.int .i64 1125899906842624)) (.cells #[.int .i64 P, .int .i64 Q] 44))
      have BX : Hid (Below wb.heap.size wb ((((wr.setCell ⟨wb.heap.size, k * 3, none⟩ (.int .i64 P)).setCell ⟨wb.heap.size, k * 3 + 1, none⟩ (.int .i64 Q)).setCell ⟨wb.heap.size, k * 3 + 2, none⟩ (.int .i64 1125899906842624)).alloc (.cells #[.int .i64 P, .int .i64 Q] 44))) := Lib.hid (by have := HB.out; (repeat (first | exact Below.refl _ _ | refine Below.drew ?_ | refine Hp.drewN ?_ _ | refine Below.setCell ?_ (by first | (simp; done) | (simp; omega) | omega) _ | refine Below.alloc ?_ (by first | (simp; done) | (simp; omega) | omega) _ | (refine Hp.step ?_ (by assumption)))))
      have QX := Lib.hid (Hp.blk_old (y := .cells #[.int .i64 P, .int .i64 Q] 44) (Hp.blk_set_ne (c := wb.heap.size) (o := k * 3 + 2) (v := .int .i64 1125899906842624) (Hp.blk_set_ne (c := wb.heap.size) (o := k * 3 + 1) (v := .int .i64 Q) (Hp.blk_set_ne (c := wb.heap.size) (o := k * 3) (v := .int .i64 P) HQ.out (by omega)) (by omega)) (by omega)))
      have OX := Lib.hid ((((HO.out.set (k * 3) P).set (k * 3 + 1) Q).set (k * 3 + 2) 1125899906842624).alloc (.cells #[.int .i64 P, .int .i64 Q] 44))
      have zz : (((wr.setCell ⟨wb.heap.size, k * 3, none⟩ (.int .i64 P)).setCell ⟨wb.heap.size, k * 3 + 1, none⟩ (.int .i64 Q)).setCell ⟨wb.heap.size, k * 3 + 2, none⟩ (.int .i64 1125899906842624)).heap.size = wr.heap.size := by simp
      obtain ⟨ws, hws⟩ : ∃ ws, (((wr.setCell ⟨wb.heap.size, k * 3, none⟩ (.int .i64 P)).setCell ⟨wb.heap.size, k * 3 + 1, none⟩ (.int .i64 Q)).setCell ⟨wb.heap.size, k * 3 + 2, none⟩ (.int .i64 1125899906842624)).alloc (.cells #[.int .i64 P, .int .i64 Q] 44) = ws := ⟨_, rfl⟩
      rw [hws] at CX BX QX OX
      rw [hws]
      rw [zz] at CX
      have sx := Hp.blk_lt CX.out
      clear hws zz q0 q1 bc2 c0 c1 f0 f1 f2 r0 r1 r2
      have a0 := Hp.blk_cell (o := 0) CX.out rfl; have a1 := Hp.blk_cell (o := 1) CX.out rfl
      have q0 := Hp.blk_cell (o := 0) QX.out rfl; have q1 := Hp.blk_cell (o := 1) QX.out rfl
      have C3 := Lib.hid ((BX.out.block _ lc).trans CB.out)
      have bc3 := Hp.blk_cell (o := 1) C3.out rfl
      by_cases hkm : k = m
      · subst hkm
        obtain ⟨rfl, rfl⟩ : X = P ∧ Y = Q := ⟨HXY.out.1.symm.trans HPQ.out.1, HXY.out.2.symm.trans HPQ.out.2⟩
        have SK := Lib.hid (spk_step n z k)
        have en0 : Tx.en n z k = 1125899906842624 := by unfold Tx.en; rw [if_neg (by have := HM.out; omega)]
        rw [HXY.out.1, HXY.out.2, en0] at SK
        clear en0
        go_wp2_with (fail)
        go_roundw
        case rel => exact ⟨k + 1, by omega, by go_num, by omega, QX.out, by rw [← SK.out]; exact OX.out, BX.out⟩
        case measure => (simp [intOf] <;> omega)
      · have hk1 : k + 1 < n := by have := HM.out; omega
        obtain ⟨b', o', e, _, d0, _⟩ := ss_elem2 (SA.out.later BX.out) hk1
        obtain ⟨rfl, rfl⟩ : b = b' ∧ o = o' := by injection e with e; injection e with e1 e2; exact ⟨e1, e2⟩
        have PX : P < X := by
          have := vo_mono HV.out (i := k) (m - (k + 1)) (by omega)
          rw [show k + 1 + (m - (k + 1)) = m by omega, HPQ.out.1, HXY.out.1] at this
          exact this
        have ne1 : (P == X) = false := by simp; omega
        have SK := Lib.hid (spk_step n z k)
        have en0 : Tx.en n z k = z (k + 1) 0 := by unfold Tx.en; rw [if_pos hk1]
        rw [HPQ.out.1, HPQ.out.2, en0] at SK
        have f2 := OX.out.cell (i := k * 3 + 2) (by omega)
        have r2 := OX.out.free (k * 3 + 2)
        obtain ⟨F, hF⟩ : ∃ F, upd (upd (upd (spk n z k) (k * 3) P) (k * 3 + 1) Q) (k * 3 + 2) 1125899906842624 (k * 3 + 2) = F := ⟨_, rfl⟩
        rw [hF] at f2
        obtain ⟨R, hR⟩ : ∃ R, z (k + 1) 0 = R := ⟨_, rfl⟩
        rw [hR] at d0 SK
        have ol2 := OX.out.lt
        clear en0 e hF hR
        go_wp2_with (fail)
        go_roundw
        case rel => exact ⟨k + 1, by omega, by go_num, by simp; omega, Hp.blk_set_ne QX.out (by omega), by rw [← SK.out, ← upd_two _ (k * 3 + 2) 1125899906842624 R]; exact OX.out.set (k * 3 + 2) R, by have := BX.out; (repeat (first | exact Below.refl _ _ | refine Below.drew ?_ | refine Hp.drewN ?_ _ | refine Below.setCell ?_ (by first | (simp; done) | (simp; omega) | omega) _ | refine Below.alloc ?_ (by first | (simp; done) | (simp; omega) | omega) _ | (refine Hp.step ?_ (by assumption))))⟩
        case measure => (simp [intOf] <;> omega)
    · obtain rfl : n = k := by omega
      clear q0 q1 bc2
      go_wp2_with (fail)
      go_ret
      exact ⟨_, rfl, ss_of_ob HO.out, bl_next BA.out HB.out⟩
end Go.Proofs.Ytpkbhhconiklbaa.TxW
