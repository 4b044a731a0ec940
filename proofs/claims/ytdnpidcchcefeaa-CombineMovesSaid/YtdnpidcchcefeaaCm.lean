/- Contracts: slices.Equal on equal lists, awake of layer 26. -/
import Derived.Test.YtdnpidcchcefeaaCl
set_option linter.unusedVariables false
set_option linter.unusedSimpArgs false
namespace Go.Proofs.Ytdnpidcchcefeaa.CxW
open Go.RowKit Rw
/-- v reads as the list zs -/
def Rd (w : World) (v : Value) (zs : List Int) : Prop := ∃ (a : Option Addr) (cap : Nat), v = .slice a zs.length cap ∧ ∀ i, i < zs.length → ∃ g, a = some ⟨g, 0, none⟩ ∧ g < w.heap.size ∧ w.cell? ⟨g, i, none⟩ = some (.int .i64 (zs.getD i 0))
theorem Rd.of_row {w : World} {base : Nat} {v : Value} {zs : List Int} (h : Rw.Row w base v zs) : Rd w v zs := by
  rcases h.form with ⟨rfl, rfl⟩ | ⟨g, cap, cur, rfl, _, hh, _, hc⟩
  · exact ⟨none, 0, rfl, fun i hi => by simp at hi⟩
  · exact ⟨_, cap, rfl, fun i hi => ⟨g, rfl, Hp.blk_lt hh, Hp.blk_cell hh (hc i hi)⟩⟩
theorem Rd.later {w w' : World} {v : Value} {zs : List Int} (h : Rd w v zs) (k : Below w.heap.size w w') : Rd w' v zs := by
  obtain ⟨a, cap, hv, hc⟩ := h
  exact ⟨a, cap, hv, fun i hi => by obtain ⟨g, ha, hg, hh⟩ := hc i hi; exact ⟨g, ha, Nat.lt_of_lt_of_le hg k.size, (k.cell (p := ⟨g, i, none⟩) hg).trans hh⟩⟩
set_option maxHeartbeats 2000000 in
theorem equal_same {v1 v2 : Value} {zs : List Int} (w : World) (h1 : Rd w v1 zs) (h2 : Rd w v2 zs) (hl : zs.length ≤ 1000000) :
    Calls Try.prog 12 #[v1, v2] w fun e w' => e = .returned (.bool true) ∧ ∃ n, w' = w.drewN n := by
  obtain ⟨a1, c1, rfl, h1⟩ := h1
  obtain ⟨a2, c2, rfl, h2⟩ := h2
  obtain ⟨n, hn⟩ : ∃ n, zs.length = n := ⟨_, rfl⟩
  rw [hn] at h1 h2 hl; rw [hn]
  have H1 := Lib.hid h1; have H2 := Lib.hid h2
  clear h1 h2 hn
  go_enter Try.func12, Try.ntmps12
  go_wp2
  go_loopw [13] (fun c wr => ∃ k m : Nat, k ≤ n ∧ c = .int .i64 k ∧ wr = w.drewN m) (fun c _ => n - (intOf c).toNat)
  case atStart => exact ⟨0, 0, by omega, rfl, rfl⟩
  case round =>
    obtain ⟨k, m, hk, rfl, rfl⟩ := hrel
    by_cases hlt : k < n
    · obtain ⟨g1, rfl, _, d1⟩ := H1.out k hlt
      obtain ⟨g2, rfl, _, d2⟩ := H2.out k hlt
      obtain ⟨x, hx⟩ : ∃ x, x = zs.getD k 0 := ⟨_, rfl⟩
      rw [← hx] at d1 d2
      clear hx
      go_wp2
      go_quiet (fail)
      go_wp2
      go_roundw
      case rel => exact ⟨k + 1, _, by omega, by go_num, rfl⟩
      case measure => simp [intOf]; omega
    · go_wp2
      go_ret
      exact ⟨rfl, _, rfl⟩
/-- the example's list -/
def ex (i j : Nat) : Int := ([1, 10, 0, 0, 1, 2, 20, 1000, 0, 1] : List Int).getD (i * 5 + j) 0
theorem ex_chk : Cx.chk 2 ex = 0 := by decide
theorem ex_mean : Cx.mean 2 ex = 13 := by decide +kernel
theorem ex_jit : Cx.jit 2 ex = 4 := by decide +kernel
theorem ex_dist : Cx.dist 2 ex = 3 := by decide +kernel
theorem ex_wts : Cx.wtsN ex 2 = [1073741824, 536870912] := by decide +kernel
theorem ex_cs {w : World} {g : Nat} (h : w.heap[g]? = some (.cells #[.int .i64 1, .int .i64 10, .int .i64 0, .int .i64 0, .int .i64 1, .int .i64 2, .int .i64 20, .int .i64 1000, .int .i64 0, .int .i64 1] 34 (0, 0))) : Cs w (some ⟨g, 0, none⟩) 2 ex := by
  refine ⟨.inr ⟨g, 0, rfl, Hp.blk_lt h, fun i j hi hj => Hp.blk_cell h ?_⟩⟩
  have hi' : i = 0 ∨ i = 1 := by omega
  have hj' : j = 0 ∨ j = 1 ∨ j = 2 ∨ j = 3 ∨ j = 4 := by omega
  rcases hi' with rfl | rfl <;> rcases hj' with rfl | rfl | rfl | rfl | rfl <;> rfl
theorem two_rd {w : World} {g : Nat} {x y : Int} (h : w.heap[g]? = some (.cells #[.int .i64 x, .int .i64 y] 3 (0, 0))) : Rd w (.slice (some ⟨g, 0, none⟩) 2 2) [x, y] := by
  refine ⟨_, 2, rfl, fun i hi => ⟨g, rfl, Hp.blk_lt h, Hp.blk_cell h ?_⟩⟩
  have hi' : i = 0 ∨ i = 1 := by simp at hi; omega
  rcases hi' with rfl | rfl <;> rfl
set_option maxHeartbeats 4000000 in
theorem awake26_any (w : World) : Calls Try.prog 9 #[] w fun e w' => e = .returned (.bool true) ∧ Below w.heap.size w w' := by
  have HS0 : Hid (Cs (w.alloc (.cells #[.int .i64 1, .int .i64 10, .int .i64 0, .int .i64 0, .int .i64 1, .int .i64 2, .int .i64 20, .int .i64 1000, .int .i64 0, .int .i64 1] 34)) (some ⟨w.heap.size, 0, none⟩) 2 ex) := ex_cs (Hp.blk_new _ _)
  have HB0 : Hid (Below w.heap.size w (w.alloc (.cells #[.int .i64 1, .int .i64 10, .int .i64 0, .int .i64 0, .int .i64 1, .int .i64 2, .int .i64 20, .int .i64 1000, .int .i64 0, .int .i64 1] 34))) := (Below.refl _ _).alloc (Nat.le_refl _) _
  go_enter Try.func9, Try.ntmps9
  go_wp2_with (fail)
  refine (mean_yes _ 2 2 ex _ HS0.out ex_chk (by omega)).mono ?_
  rw [ex_mean]
  rintro e w1 ⟨rfl, B1⟩
  have hs1 := B1.size
  simp at hs1
  have HB1 := Lib.hid (HB0.out.trans (B1.mono (by simp)))
  have HS1 := Lib.hid (HS0.out.later B1)
  clear B1 HS0 HB0
  go_wp2_with (fail)
  refine (weights_yes _ 2 2 ex _ HS1.out ex_chk).mono ?_
  rw [ex_wts]
  rintro e w2 ⟨v, rfl, R2, B2⟩
  have hs2 := B2.size
  have BB := HB1.out.trans (B2.mono (by omega))
  have HR2 := Lib.hid ((Rd.of_row R2).later ((Below.refl w2.heap.size w2).alloc (Nat.le_refl _) (.cells #[.int .i64 1073741824, .int .i64 536870912] 3)))
  have HL2 : Hid (Rd (w2.alloc (.cells #[.int .i64 1073741824, .int .i64 536870912] 3)) (.slice (some ⟨w2.heap.size, 0, none⟩) 2 2) [1073741824, 536870912]) := two_rd (Hp.blk_new _ _)
  have HB2 := Lib.hid (Below.alloc BB (by omega) (.cells #[.int .i64 1073741824, .int .i64 536870912] 3))
  have HS2 := Lib.hid ((HS1.out.later B2).later ((Below.refl w2.heap.size w2).alloc (Nat.le_refl _) (.cells #[.int .i64 1073741824, .int .i64 536870912] 3)))
  clear R2 B2 BB HB1 HS1
  go_wp2_with (fail)
  refine (equal_same _ HR2.out HL2.out (by simp)).mono ?_
  rintro e w' ⟨rfl, nq, rfl⟩
  have HS3 := Lib.hid (HS2.out.later (Hp.drewN (Below.refl _ _) nq))
  have HB3 := Lib.hid (Hp.drewN HB2.out nq)
  clear HS2 HB2 HR2 HL2
  go_wp2_with (fail)
  refine (jitter_any _ 2 2 ex _ HS3.out).mono ?_
  rw [ex_jit]
  rintro e w4 ⟨rfl, B4⟩
  have HS4 := Lib.hid (HS3.out.later B4)
  have HB4 := Lib.hid (HB3.out.trans (B4.mono (HB3.out.size)))
  clear B4 HS3 HB3
  go_wp2_with (fail)
  refine (dist_any _ 2 2 ex _ HS4.out).mono ?_
  rw [ex_dist]
  rintro e w5 ⟨rfl, B5⟩
  have HB5 := Lib.hid (HB4.out.trans (B5.mono (HB4.out.size)))
  clear B5 HS4 HB4
  go_wp2_with (fail)
  go_ret
  exact ⟨rfl, HB5.out⟩
end Go.Proofs.Ytdnpidcchcefeaa.CxW
