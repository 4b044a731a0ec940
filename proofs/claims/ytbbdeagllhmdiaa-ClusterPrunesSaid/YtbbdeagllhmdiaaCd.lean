/- Contracts: timesyncref24.Check. -/
import Derived.Test.YtbbdeagllhmdiaaCc
import Derived.Deep.QuietTactic
set_option linter.unusedVariables false
set_option linter.unusedSimpArgs false
namespace Go.Proofs.Ytbbdeagllhmdiaa.CxW
open Go.RowKit
theorem right_at {z : Nat → Nat → Int} {k : Nat} {r : Bool} (h : Hid (Cx.right z k = r)) (w : World) : Calls Try.prog 39 #[.agg #[.int .i64 (z k 0), .int .i64 (z k 1), .int .i64 (z k 2), .int .i64 (z k 3), .int .i64 (z k 4)]] w fun e' w' => e' = .returned (.bool r) ∧ Below w.heap.size w w' := by
  rw [← h.out]; exact right_any _ _ _ _ _ w
theorem twice_yes {z : Nat → Nat → Int} {m k : Nat} (hm : m < k) (h : z m 0 = z k 0) : Cx.twice z k = true := decide_eq_true (Cx.mem_ids.2 ⟨m, hm, h⟩)
theorem twice_no {z : Nat → Nat → Int} {k : Nat} (h : ∀ m, m < k → z m 0 ≠ z k 0) : Cx.twice z k = false := decide_eq_false (fun hm => by obtain ⟨i, hi, e⟩ := Cx.mem_ids.1 hm; exact h i hi e)
set_option maxHeartbeats 4000000 in
theorem rcheck_any (a : Option Addr) (n cap : Nat) (z : Nat → Nat → Int) (w : World) (S : Cs w a n z) :
    Calls Try.prog 26 #[.slice a n cap] w fun e w' => e = .returned (.int .i64 (Cx.chk n z)) ∧ Below w.heap.size w w' := by
  by_cases hn : 12 < n
  · have hn' : (12 : Int) < (n : Int) := by omega
    clear S
    go_enter Try.func26, Try.ntmps26
    go_wp2
    go_ret
    exact ⟨Hp.ret_int (by unfold Cx.chk; rw [if_pos hn]), Below.refl _ _⟩
  · have hn' : ¬ (12 : Int) < (n : Int) := by omega
    have hS := Lib.hid S
    have hC := Lib.hid (show Cx.chk n z = Cx.scan z n by unfold Cx.chk; rw [if_neg hn])
    clear S
    go_enter Try.func26, Try.ntmps26
    go_wp2
    go_loopw [3] (fun c wr => ∃ k : Nat, k ≤ n ∧ c = .int .i64 k ∧ Cx.scan z k = 0 ∧ Below w.heap.size w wr) (fun c _ => n - (intOf c).toNat)
    case atStart => exact ⟨0, by omega, rfl, rfl, Below.refl _ _⟩
    case round =>
      obtain ⟨k, hk, rfl, hs, hB⟩ := hrel
      by_cases hlt : k < n
      · obtain ⟨b, o, rfl, hb, c0, c1, c2, c3, c4⟩ := (hS.out.later hB).elem hlt
        have HB := Lib.hid hB; have HS := Lib.hid hs
        have hbs := hB.size
        clear hB hs
        by_cases h1 : Cx.right z k = true
        · have q := Lib.hid h1
          clear h1
          go_wp2_with (go_at_call 39; refine (right_at q _).mono ?_; rintro e w5 ⟨rfl, hb5⟩; obtain ⟨hc5, hf5⟩ := Hp.bcell hb5; have hs5 := hb5.size; (try simp at hs5); have B5 := Lib.hid (HB.out.trans (hb5.mono hbs)); clear hb5)
          go_loopw [4] (fun c wr => ∃ m : Nat, m ≤ k ∧ c = .int .i64 m ∧ (∀ i, i < m → z i 0 ≠ z k 0) ∧ Below w.heap.size w wr) (fun c _ => k - (intOf c).toNat)
          case atStart => exact ⟨0, by omega, rfl, fun i hi => by omega, B5.out⟩
          case round =>
            obtain ⟨m, hm, rfl, hno, hB⟩ := hrel
            have HN := Lib.hid hno; have HBm := Lib.hid hB
            have hbs2 := hB.size
            by_cases hlt2 : m < k
            · have SL := hS.out.later hB
              obtain ⟨b', o', hab, hb', d0, _⟩ := SL.elem (i := m) (by omega)
              obtain ⟨b'', o'', hab', hb'', e0, _⟩ := SL.elem (i := k) (by omega)
              obtain ⟨rfl, rfl⟩ : b' = b ∧ o' = o := by simpa [eq_comm] using hab
              obtain ⟨rfl, rfl⟩ : b'' = b' ∧ o'' = o' := by simpa [eq_comm] using hab'
              clear SL hno hB hab hab' c0 c1 c2 c3 c4 hc5 hf5
              have hmn : m < n := by omega
              obtain ⟨x, hx⟩ : ∃ x, x = z m 0 := ⟨_, rfl⟩
              obtain ⟨y, hy⟩ : ∃ y, y = z k 0 := ⟨_, rfl⟩
              have HX := Lib.hid hx; have HY := Lib.hid hy
              rw [← hx] at d0; rw [← hy] at e0
              clear hx hy
              by_cases hxy : x = y
              · have hq : (x == y) = true := by simp [hxy]
                have HE := Lib.hid hxy
                clear hxy
                go_wp2
                go_quiet (fail)
                go_wp2
                go_ret
                have e := Cx.scan_two HS.out q.out (twice_yes hlt2 (by rw [← HX.out, ← HY.out, HE.out]))
                exact ⟨Hp.ret_int (by rw [hC.out, Cx.scan_stay (by rw [e]; decide) n hlt, e]), by have := HBm.out; (repeat (first | exact Below.refl _ _ | refine Below.drew ?_ | refine Hp.drewN ?_ _ | refine Below.setCell ?_ (by first | (simp; done) | (simp; omega) | omega) _ | refine Below.alloc ?_ (by first | (simp; done) | (simp; omega) | omega) _ | (refine Hp.step ?_ (by assumption))))⟩
              · have hq : (x == y) = false := by simp [hxy]
                have HE := Lib.hid hxy
                clear hxy
                go_wp2
                go_quiet (fail)
                go_wp2
                go_roundw
                case rel =>
                  refine ⟨m + 1, by omega, by go_num, fun i hi => ?_, by have := HBm.out; (repeat (first | exact Below.refl _ _ | refine Below.drew ?_ | refine Hp.drewN ?_ _ | refine Below.setCell ?_ (by first | (simp; done) | (simp; omega) | omega) _ | refine Below.alloc ?_ (by first | (simp; done) | (simp; omega) | omega) _ | (refine Hp.step ?_ (by assumption))))⟩
                  by_cases e : i = m
                  · rw [e, ← HX.out, ← HY.out]; exact HE.out
                  · exact HN.out i (by omega)
                case measure => simp [intOf]; omega
            · clear hno hB c0 c1 c2 c3 c4 hc5 hf5
              have e := Lib.hid (Cx.scan_go HS.out q.out (twice_no (fun i hi => HN.out i (by omega))))
              go_wp2
              go_roundw
              case rel => exact ⟨k + 1, by omega, by go_num, e.out, HBm.out⟩
              case measure => simp [intOf]; omega
        · have h1 : Cx.right z k = false := by simpa using h1
          have q := Lib.hid h1
          have e := Lib.hid (Cx.scan_no HS.out h1)
          clear h1
          go_wp2_with (go_at_call 39; refine (right_at q _).mono ?_; rintro e w5 ⟨rfl, hb5⟩; obtain ⟨hc5, hf5⟩ := Hp.bcell hb5; have hs5 := hb5.size; (try simp at hs5); have B5 := Lib.hid (HB.out.trans (hb5.mono hbs)); clear hb5)
          go_ret
          exact ⟨Hp.ret_int (by rw [hC.out, Cx.scan_stay (by rw [e.out]; decide) n hlt, e.out]), B5.out⟩
      · have HB := Lib.hid hB; have HS := Lib.hid hs
        clear hB hs
        go_wp2
        go_ret
        exact ⟨Hp.ret_int (by rw [hC.out, ← show k = n by omega, HS.out]), HB.out⟩
end Go.Proofs.Ytbbdeagllhmdiaa.CxW
