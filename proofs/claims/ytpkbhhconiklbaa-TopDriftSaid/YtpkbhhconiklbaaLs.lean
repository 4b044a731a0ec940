/- Slices that are read: of integers, of structs of integers. -/
import Derived.Test.YtpkbhhconiklbaaHp
import Derived.Test.YtpkbhhconiklbaaIn
import Derived.Lib.Hide
set_option linter.unusedVariables false
set_option linter.unusedSimpArgs false
namespace Go.Proofs.Ytpkbhhconiklbaa.Ls
open Go.RowKit
/-- a slice of n structs of s integers each: z i j -/
structure Ss (s : Nat) (w : World) (a : Option Addr) (n : Nat) (z : Nat → Nat → Int) : Prop where
  cells : n = 0 ∨ ∃ b o, a = some ⟨b, o, none⟩ ∧ b < w.heap.size ∧ ∀ i j, i < n → j < s → w.cell? ⟨b, o + (i * s + j), none⟩ = some (.int .i64 (z i j))
theorem Ss.later {s : Nat} {w w' : World} {a : Option Addr} {n : Nat} {z : Nat → Nat → Int} (h : Ss s w a n z) (k : Below w.heap.size w w') : Ss s w' a n z := by
  rcases h.cells with h0 | ⟨b, o, ha, hb, hc⟩
  · exact ⟨.inl h0⟩
  · exact ⟨.inr ⟨b, o, ha, Nat.lt_of_lt_of_le hb k.size, fun i j hi hj => (k.cell (p := ⟨b, o + (i * s + j), none⟩) hb).trans (hc i j hi hj)⟩⟩
theorem Ss.elem3 {w : World} {a : Option Addr} {n : Nat} {z : Nat → Nat → Int} (h : Ss 3 w a n z) {i : Nat} (hi : i < n) :
    ∃ b o, a = some ⟨b, o, none⟩ ∧ b < w.heap.size ∧ w.cell? ⟨b, o + i * 3, none⟩ = some (.int .i64 (z i 0)) ∧ w.cell? ⟨b, o + i * 3 + 1, none⟩ = some (.int .i64 (z i 1)) ∧ w.cell? ⟨b, o + i * 3 + 2, none⟩ = some (.int .i64 (z i 2)) := by
  rcases h.cells with h0 | ⟨b, o, ha, hb, hc⟩
  · omega
  · exact ⟨b, o, ha, hb, hc i 0 hi (by omega), hc i 1 hi (by omega), hc i 2 hi (by omega)⟩
theorem Ss.of {ks : List IntKind} {w : World} {a : Option Addr} {n cap : Nat} {z : Nat → Nat → Int} (h : In.IsStructs ks w a n cap z) (hk : ∀ j, j < ks.length → ks[j]? = some .i64) (h0 : 0 < ks.length) : Ss ks.length w a n z := by
  by_cases hn : n = 0
  · exact ⟨.inl hn⟩
  · obtain ⟨b, o, ha, hb, _⟩ := h.elem h0 0 (by omega)
    refine ⟨.inr ⟨b, o, ha, hb, fun i j hi hj => ?_⟩⟩
    obtain ⟨b', o', ha', hb', hc⟩ := h.elem h0 i hi
    obtain ⟨rfl, rfl⟩ : b' = b ∧ o' = o := by rw [ha] at ha'; simpa [eq_comm] using ha'
    exact (hc j .i64 (hk j hj)).1
/-- a slice of n integers x i -/
structure Is (w : World) (a : Option Addr) (n : Nat) (x : Nat → Int) : Prop where
  cells : n = 0 ∨ ∃ b o, a = some ⟨b, o, none⟩ ∧ b < w.heap.size ∧ ∀ i, i < n → w.cell? ⟨b, o + i, none⟩ = some (.int .i64 (x i))
theorem Is.later {w w' : World} {a : Option Addr} {n : Nat} {x : Nat → Int} (h : Is w a n x) (k : Below w.heap.size w w') : Is w' a n x := by
  rcases h.cells with h0 | ⟨b, o, ha, hb, hc⟩
  · exact ⟨.inl h0⟩
  · exact ⟨.inr ⟨b, o, ha, Nat.lt_of_lt_of_le hb k.size, fun i hi => (k.cell (p := ⟨b, o + i, none⟩) hb).trans (hc i hi)⟩⟩
theorem Is.drewN {w : World} {a : Option Addr} {n : Nat} {x : Nat → Int} (h : Is w a n x) (k : Nat) : Is (w.drewN k) a n x := h.later (Hp.drewN (Below.refl _ _) k)
theorem Is.addr {w : World} {a : Option Addr} {n : Nat} {x : Nat → Int} (h : Is w a n x) (hn : 0 < n) : ∃ b o, a = some ⟨b, o, none⟩ ∧ b < w.heap.size ∧ ∀ i, i < n → w.cell? ⟨b, o + i, none⟩ = some (.int .i64 (x i)) := by
  rcases h.cells with h0 | h
  · omega
  · exact h
theorem Is.elem {w : World} {a : Option Addr} {n : Nat} {x : Nat → Int} (h : Is w a n x) {i : Nat} (hi : i < n) :
    ∃ b o, a = some ⟨b, o, none⟩ ∧ b < w.heap.size ∧ w.cell? ⟨b, o + i, none⟩ = some (.int .i64 (x i)) := by
  obtain ⟨b, o, ha, hb, hc⟩ := h.addr (by omega)
  exact ⟨b, o, ha, hb, hc i hi⟩
theorem Is.of_block {w : World} {g : Nat} {n : Nat} {x : Nat → Int} {cs : Array Value} {T : TypeId} {f : Nat × Nat} (h : w.heap[g]? = some (.cells cs T f)) (hc : ∀ i, i < n → cs[i]? = some (.int .i64 (x i))) : Is w (some ⟨g, 0, none⟩) n x :=
  ⟨.inr ⟨g, 0, rfl, Hp.blk_lt h, fun i hi => by rw [Nat.zero_add]; exact Hp.blk_cell h (hc i hi)⟩⟩
theorem Is.congr {w : World} {a : Option Addr} {n : Nat} {x y : Nat → Int} (h : Is w a n x) (e : ∀ i, i < n → x i = y i) : Is w a n y := by
  rcases h.cells with h0 | ⟨b, o, ha, hb, hc⟩
  · exact ⟨.inl h0⟩
  · exact ⟨.inr ⟨b, o, ha, hb, fun i hi => by rw [hc i hi, e i hi]⟩⟩
theorem Is.of_ints {w : World} {a : Option Addr} {len cap : Nat} {zs : List Int} (h : In.IsInts .i64 w a len cap zs) : Is w a len fun i => zs.getD i 0 := by
  by_cases hn : len = 0
  · exact ⟨.inl hn⟩
  · obtain ⟨b, o, ha, hb, _⟩ := h.elem 0 (by omega)
    refine ⟨.inr ⟨b, o, ha, hb, fun i hi => ?_⟩⟩
    obtain ⟨b', o', ha', hb', hc, _⟩ := h.elem i hi
    obtain ⟨rfl, rfl⟩ : b' = b ∧ o' = o := by rw [ha] at ha'; simpa [eq_comm] using ha'
    exact hc
end Go.Proofs.Ytpkbhhconiklbaa.Ls
