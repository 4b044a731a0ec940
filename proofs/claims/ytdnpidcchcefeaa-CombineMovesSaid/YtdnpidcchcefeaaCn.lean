/- The laws CombineMeans, CombineWeights, CombineSpreads of layer 26. -/
import Derived.Test.YtdnpidcchcefeaaCm
set_option linter.unusedVariables false
set_option linter.unusedSimpArgs false
namespace Go.Proofs.Ytdnpidcchcefeaa.CxW
open Go.RowKit Rw
theorem cs_of {w : World} {a : Option Addr} {n cap : Nat} {z : Nat → Nat → Int} (h : In.IsStructs [.i64, .i64, .i64, .i64, .i64] w a n cap z) : Cs w a n z := by
  by_cases h0 : n = 0
  · exact ⟨.inl h0⟩
  · obtain ⟨b, o, ha, hb, _⟩ := h.elem (by simp) 0 (by omega)
    refine ⟨.inr ⟨b, o, ha, hb, fun i j hi hj => ?_⟩⟩
    obtain ⟨b', o', ha', hb', hc⟩ := h.elem (by simp) i hi
    obtain ⟨rfl, rfl⟩ : b' = b ∧ o' = o := by rw [ha] at ha'; simpa [eq_comm] using ha'
    have hk : ([.i64, .i64, .i64, .i64, .i64] : List IntKind)[j]? = some .i64 := by
      have hj' : j = 0 ∨ j = 1 ∨ j = 2 ∨ j = 3 ∨ j = 4 := by omega
      rcases hj' with rfl | rfl | rfl | rfl | rfl <;> rfl
    exact (hc j .i64 hk).1
set_option maxHeartbeats 4000000 in
theorem law_CombineMeans (a : Option Addr) (n cap : Nat) (z : Nat → Nat → Int) (w : World) (S : In.IsStructs [.i64, .i64, .i64, .i64, .i64] w a n cap z) :
    Calls Try.prog 3 #[.slice a n cap] w fun e w' => e = .returned (.bool true) ∧ Below w.heap.size w w' := by
  have hS := Lib.hid (cs_of S)
  clear S
  by_cases h : 40 < n
  · have h' : (40 : Int) < (n : Int) := by omega
    clear h
    go_enter Try.func3, Try.ntmps3
    go_wp2_with (fail)
    refine (awake26_any _).mono ?_
    rintro e w1 ⟨rfl, B1⟩
    have HB1 := Lib.hid B1
    clear B1
    go_wp2_with (fail)
    go_ret
    exact ⟨rfl, HB1.out⟩
  · have h' : ¬ (40 : Int) < (n : Int) := by omega
    clear h
    obtain ⟨m, hm⟩ : ∃ m, Cx.mean n z = m := ⟨_, rfl⟩
    obtain ⟨f, hf⟩ : ∃ f, Cx.meanE n z = f := ⟨_, rfl⟩
    have HM := Lib.hid hm; have HF := Lib.hid hf
    clear hm hf
    go_enter Try.func3, Try.ntmps3
    go_wp2_with (fail)
    refine (mean_any a n cap z _ hS.out).mono ?_
    rw [HM.out, HF.out]
    rintro e w1 ⟨rfl, B1⟩
    have hs1 := B1.size
    have HB1 := Lib.hid B1
    have HS1 := Lib.hid (hS.out.later B1)
    clear B1
    go_wp2_with (fail)
    refine (rmean_any a n cap z _ HS1.out).mono ?_
    rw [HM.out, HF.out]
    rintro e w2 ⟨rfl, B2⟩
    have HB2 := Lib.hid (HB1.out.trans (B2.mono hs1))
    clear B2 HB1 HS1
    go_wp2_with (fail)
    refine (awake26_any _).mono ?_
    rintro e w3 ⟨rfl, B3⟩
    have HB3 := Lib.hid (HB2.out.trans (B3.mono HB2.out.size))
    clear B3 HB2
    go_wp2_with (fail)
    go_ret
    exact ⟨rfl, HB3.out⟩
theorem wts_len (n : Nat) (z : Nat → Nat → Int) : (Cx.wts n z).length ≤ 1000000 := by
  unfold Cx.wts
  split
  · rename_i h
    rw [Cx.wtsN_len]
    have := (Cx.chk_ok h).1
    omega
  · simp
set_option maxHeartbeats 4000000 in
theorem law_CombineWeights (a : Option Addr) (n cap : Nat) (z : Nat → Nat → Int) (w : World) (S : In.IsStructs [.i64, .i64, .i64, .i64, .i64] w a n cap z) :
    Calls Try.prog 4 #[.slice a n cap] w fun e w' => e = .returned (.bool true) ∧ Below w.heap.size w w' := by
  have hS := Lib.hid (cs_of S)
  clear S
  by_cases h : 40 < n
  · have h' : (40 : Int) < (n : Int) := by omega
    clear h
    go_enter Try.func4, Try.ntmps4
    go_wp2_with (fail)
    go_ret
    exact ⟨rfl, Below.refl _ _⟩
  · have h' : ¬ (40 : Int) < (n : Int) := by omega
    clear h
    go_enter Try.func4, Try.ntmps4
    go_wp2_with (fail)
    refine (weights_any a n cap z _ hS.out).mono ?_
    rintro e w1 ⟨v1, rfl, R1, B1⟩
    have hs1 := B1.size
    have HB1 := Lib.hid B1
    have HS1 := Lib.hid (hS.out.later B1)
    have HR1 := Lib.hid (Rd.of_row R1)
    clear B1 R1
    go_wp2_with (fail)
    refine (rweights_any a n cap z _ HS1.out).mono ?_
    rintro e w2 ⟨v2, rfl, R2, B2⟩
    have HB2 := Lib.hid (HB1.out.trans (B2.mono hs1))
    have HR2 := Lib.hid (Rd.of_row R2)
    have HR3 := Lib.hid (HR1.out.later B2)
    clear B2 R2 HB1 HS1 HR1
    go_wp2_with (fail)
    refine (equal_same _ HR3.out HR2.out (wts_len n z)).mono ?_
    rintro e w' ⟨rfl, nq, rfl⟩
    have HB3 := Lib.hid (Hp.drewN HB2.out nq)
    clear HB2 HR2 HR3
    go_wp2_with (fail)
    refine (awake26_any _).mono ?_
    rintro e w4 ⟨rfl, B4⟩
    have HB4 := Lib.hid (HB3.out.trans (B4.mono HB3.out.size))
    clear B4 HB3
    go_wp2_with (fail)
    go_ret
    exact ⟨rfl, HB4.out⟩
set_option maxHeartbeats 4000000 in
theorem law_CombineSpreads (a : Option Addr) (n cap : Nat) (z : Nat → Nat → Int) (w : World) (S : In.IsStructs [.i64, .i64, .i64, .i64, .i64] w a n cap z) :
    Calls Try.prog 5 #[.slice a n cap] w fun e w' => e = .returned (.bool true) ∧ Below w.heap.size w w' := by
  have hS := Lib.hid (cs_of S)
  clear S
  by_cases h : 40 < n
  · have h' : (40 : Int) < (n : Int) := by omega
    clear h
    go_enter Try.func5, Try.ntmps5
    go_wp2_with (fail)
    go_ret
    exact ⟨rfl, Below.refl _ _⟩
  · have h' : ¬ (40 : Int) < (n : Int) := by omega
    clear h
    obtain ⟨m, hm⟩ : ∃ m, Cx.jit n z = m := ⟨_, rfl⟩
    obtain ⟨f, hf⟩ : ∃ f, Cx.dist n z = f := ⟨_, rfl⟩
    have HM := Lib.hid hm; have HF := Lib.hid hf
    clear hm hf
    go_enter Try.func5, Try.ntmps5
    go_wp2_with (fail)
    refine (jitter_any a n cap z _ hS.out).mono ?_
    rw [HM.out]
    rintro e w1 ⟨rfl, B1⟩
    have HB1 := Lib.hid B1
    have HS1 := Lib.hid (hS.out.later B1)
    clear B1
    go_wp2_with (fail)
    refine (rjitter_any a n cap z _ HS1.out).mono ?_
    rw [HM.out]
    rintro e w2 ⟨rfl, B2⟩
    have HB2 := Lib.hid (HB1.out.trans (B2.mono HB1.out.size))
    have HS2 := Lib.hid (HS1.out.later B2)
    clear B2 HB1 HS1
    go_wp2_with (fail)
    refine (dist_any a n cap z _ HS2.out).mono ?_
    rw [HF.out]
    rintro e w3 ⟨rfl, B3⟩
    have HB3 := Lib.hid (HB2.out.trans (B3.mono HB2.out.size))
    have HS3 := Lib.hid (HS2.out.later B3)
    clear B3 HB2 HS2
    go_wp2_with (fail)
    refine (rdist_any a n cap z _ HS3.out).mono ?_
    rw [HF.out]
    rintro e w4 ⟨rfl, B4⟩
    have HB4 := Lib.hid (HB3.out.trans (B4.mono HB3.out.size))
    clear B4 HB3 HS3
    go_wp2_with (fail)
    refine (awake26_any _).mono ?_
    rintro e w5 ⟨rfl, B5⟩
    have HB5 := Lib.hid (HB4.out.trans (B5.mono HB4.out.size))
    clear B5 HB4
    go_wp2_with (fail)
    go_ret
    exact ⟨rfl, HB5.out⟩
end Go.Proofs.Ytdnpidcchcefeaa.CxW
