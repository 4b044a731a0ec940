/- Contracts of layer 51: path. -/
import Derived.Test.YtieggiplbghecaaBl
set_option linter.unusedVariables false
set_option linter.unusedSimpArgs false
namespace Go.Proofs.Ytieggiplbghecaa.BxW
open Go.RowKit Ls Orw Rv
/-- the last r constraints of the path are laid -/
def lay (n : Nat) (z : Nat → Nat → Int) (m e r j : Nat) : Int := if n - r ≤ j then Bx.pth n z m e j else 0
theorem lay_upd {n m e r : Nat} {z : Nat → Nat → Int} (h : r < n) {j : Nat} (hj : j < n) : upd (lay n z m e r) (n - 1 - r) (Bx.pth n z m e (n - 1 - r)) j = lay n z m e (r + 1) j := by
  unfold upd lay
  by_cases e1 : j = n - 1 - r
  · rw [if_pos e1, if_pos (by omega), e1]
  · rw [if_neg e1]
    by_cases h2 : n - r ≤ j
    · rw [if_pos h2, if_pos (by omega)]
    · rw [if_neg h2, if_neg (by omega)]
set_option maxHeartbeats 8000000 in
theorem path_any (n : Nat) (a : Option Addr) (m cap : Nat) (z : Nat → Nat → Int) (V : Bx.Vs n m z) (gl go co e base : Nat) (G : Nat → Nat) (he : e < n) (hl : Bx.bf z m n e < Bx.bf z m (n - 1) e) (w : World) (S : Ss 3 w a m z)
    (L : La w base (.slice (some ⟨go, 0, none⟩) n co) n n G (fun k => Bx.cau z (Bx.bf z m k) m)) :
    Calls Try.prog 39 #[.agg #[.slice (some ⟨gl, 0, none⟩) n n, .slice (some ⟨go, 0, none⟩) n co, .int .i64 e], .slice a m cap] w fun en w' => ∃ g, en = .returned (.slice (some ⟨g, 0, none⟩) n n) ∧ Ob w' g n (Bx.pth n z m e) ∧ w.heap.size ≤ g ∧ Below w.heap.size w w' := by
  have n1 := V.n1; have n2 := V.n2; have m2 := V.m2
  have hV := Lib.hid V; have hS := Lib.hid S; have HL := Lib.hid L; have Hl := Lib.hid hl
  clear V S L hl
  have hmk := fun W => make_run n _ rfl (by omega) W
  have i1 : (1 : Int) ≤ (n : Int) := by omega
  have i2 : (n : Int) ≤ 160 := by omega
  have B0 : Hid (w.heap[w.heap.size]? = none) := Lib.hid (by simp)
  go_enter Try.func39, Try.ntmps39
  go_wp2_with (fail)
  go_loopw [6, 7] (fun b c wr => ∃ r : Nat, r ≤ n ∧ b = .int .i64 (Bx.atv n z m e r) ∧ c = .int .i64 ((n : Int) - 1 - r) ∧ Ob wr (w.heap.size + 1) n (lay n z m e r) ∧ wr.heap[w.heap.size]? = some (.cells #[.slice (some ⟨gl, 0, none⟩) n n, .slice (some ⟨go, 0, none⟩) n co, .int .i64 e] 52 (0, 0)) ∧ Below w.heap.size w wr) (fun _ c _ => (intOf c + 1).toNat)
  case atStart =>
    refine ⟨0, by omega, rfl, by simp, ?_, Hp.blk_old (Hp.blk_new _ _), by (repeat (first | exact Below.refl _ _ | refine Below.drew ?_ | refine Hp.drewN ?_ _ | refine Below.setCell ?_ (by first | (simp; done) | (simp; omega) | omega) _ | refine Below.alloc ?_ (by first | (simp; done) | (simp; omega) | omega) _ | (refine Hp.step ?_ (by assumption))))⟩
    have := Ob.made (w.alloc (.cells #[.slice (some ⟨gl, 0, none⟩) n n, .slice (some ⟨go, 0, none⟩) n co, .int .i64 e] 52)) n
    simp only [World.size_alloc] at this
    exact this.congr fun j hj => by unfold lay; rw [if_neg (by omega)]
  case round =>
    obtain ⟨r, hr, rfl, rfl, o, bx, hb⟩ := hrel
    have O := Lib.hid o; have HB := Lib.hid hb; have BX := Lib.hid bx
    have k1 := Hp.blk_cell (o := 1) bx rfl
    have og := o.lt
    clear o hb bx
    by_cases hlt : r < n
    · obtain ⟨k, hk⟩ : ∃ k, n - 1 - r = k := ⟨_, rfl⟩
      have hk2 : (n : Int) - 1 - r = (k : Int) := by omega
      have hkn : k < n := by omega
      have LL := HL.out.later HB.out
      obtain ⟨go2, co2, he2, _, hgo, hco⟩ := LL.row.at_ (i := k) (by rw [ptrs_len]; exact hkn)
      obtain ⟨rfl, -⟩ : go = go2 ∧ True := by injection he2 with q1; injection q1 with q1; injection q1 with q1; exact ⟨q1, trivial⟩
      rw [ptrs_get G n hkn] at hco
      have ob := LL.obs k hkn
      obtain ⟨at1, at2⟩ := Bx.path_step hV.out he Hl.out r (by omega)
      obtain ⟨p, p1, p2, p3, p4, _⟩ := Bx.pth_ok hV.out he Hl.out hkn
      rw [show n - k = r + 1 by omega] at p3
      have cc := ob.cell at1
      rw [show Bx.cau z (Bx.bf z m k) m (Bx.atv n z m e r) = (p : Int) by rw [← p1]; unfold Bx.pth; rw [show n - 1 - k = r by omega]] at cc
      have gk := ob.lt
      have cx := O.out.cell hkn
      have cf := O.out.free k
      have LU := Lib.hid (fun j hj => @lay_upd n m e r z hlt j hj)
      rw [hk, p1] at LU
      obtain ⟨b, o, rfl, hbl, c0, _, _⟩ := hS.out.elem3 p2
      replace c0 := (HB.out.cell (p := ⟨b, o + p * 3, none⟩) hbl).trans c0
      have hbn : b ≠ w.heap.size + 1 := by omega
      have z0 := (hV.out.ok p p2).1
      have c0' : z p 0 = (Bx.atv n z m e (r + 1) : Int) := by rw [← p3]; unfold Bx.fr; omega
      rw [c0'] at c0
      obtain ⟨X, eX⟩ : ∃ X, lay n z m e r k = X := ⟨_, rfl⟩
      rw [eX] at cx
      obtain ⟨A, eA⟩ : ∃ A, Bx.atv n z m e r = A := ⟨_, rfl⟩
      obtain ⟨A', eA'⟩ : ∃ A, Bx.atv n z m e (r + 1) = A := ⟨_, rfl⟩
      have HA' := Lib.hid eA'
      rw [eA] at at1 cc
      rw [eA'] at c0
      rw [hk2, eA]
      clear eX p1 p3 p4 at2 LL ob he2 c0' eA eA' z0
      go_wp2_with (fail)
      go_roundw
      case rel => exact ⟨r + 1, by omega, by rw [HA'.out], by go_num, (O.out.set k p).congr fun j hj => LU.out j hj, Hp.blk_set_ne BX.out (by omega), by have := HB.out; (repeat (first | exact Below.refl _ _ | refine Below.drew ?_ | refine Hp.drewN ?_ _ | refine Below.setCell ?_ (by first | (simp; done) | (simp; omega) | omega) _ | refine Below.alloc ?_ (by first | (simp; done) | (simp; omega) | omega) _ | (refine Hp.step ?_ (by assumption))))⟩
      case measure => (simp [intOf] <;> omega)
    · obtain rfl : n = r := by omega
      have hk2 : (n : Int) - 1 - n = -1 := by omega
      rw [hk2]
      go_wp2_with (fail)
      go_ret
      exact ⟨_, rfl, O.out.congr fun j hj => by unfold lay; rw [if_pos (by omega)], by omega, HB.out⟩
end Go.Proofs.Ytieggiplbghecaa.BxW
