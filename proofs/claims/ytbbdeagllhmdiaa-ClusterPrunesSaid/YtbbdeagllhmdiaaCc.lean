/- Contracts: choose.Check. -/
import Derived.Test.YtbbdeagllhmdiaaCv
import Derived.Test.YtbbdeagllhmdiaaMb
import Derived.Test.YtbbdeagllhmdiaaIn
import Derived.LoopTactic
import Derived.OwnWalk
import Derived.Maps.Own
set_option linter.unusedVariables false
set_option linter.unusedSimpArgs false
namespace Go.Proofs.Ytbbdeagllhmdiaa.CxW
open Go.RowKit Go.Maps
/-- a slice of n candidates z -/
structure Cs (w : World) (a : Option Addr) (n : Nat) (z : Nat → Nat → Int) : Prop where
  cells : n = 0 ∨ ∃ b o, a = some ⟨b, o, none⟩ ∧ b < w.heap.size ∧ ∀ i j, i < n → j < 5 → w.cell? ⟨b, o + (i * 5 + j), none⟩ = some (.int .i64 (z i j))
theorem Cs.later {w w' : World} {a : Option Addr} {n : Nat} {z : Nat → Nat → Int} (h : Cs w a n z) (k : Below w.heap.size w w') : Cs w' a n z := by
  rcases h.cells with h0 | ⟨b, o, ha, hb, hc⟩
  · exact ⟨.inl h0⟩
  · exact ⟨.inr ⟨b, o, ha, Nat.lt_of_lt_of_le hb k.size, fun i j hi hj => (k.cell (p := ⟨b, o + (i * 5 + j), none⟩) hb).trans (hc i j hi hj)⟩⟩
theorem Cs.elem {w : World} {a : Option Addr} {n : Nat} {z : Nat → Nat → Int} (h : Cs w a n z) {i : Nat} (hi : i < n) :
    ∃ b o, a = some ⟨b, o, none⟩ ∧ b < w.heap.size ∧ w.cell? ⟨b, o + i * 5, none⟩ = some (.int .i64 (z i 0)) ∧ w.cell? ⟨b, o + i * 5 + 1, none⟩ = some (.int .i64 (z i 1)) ∧ w.cell? ⟨b, o + i * 5 + 2, none⟩ = some (.int .i64 (z i 2)) ∧ w.cell? ⟨b, o + i * 5 + 3, none⟩ = some (.int .i64 (z i 3)) ∧ w.cell? ⟨b, o + i * 5 + 4, none⟩ = some (.int .i64 (z i 4)) := by
  rcases h.cells with h0 | ⟨b, o, ha, hb, hc⟩
  · omega
  · exact ⟨b, o, ha, hb, hc i 0 hi (by omega), hc i 1 hi (by omega), hc i 2 hi (by omega), hc i 3 hi (by omega), hc i 4 hi (by omega)⟩
theorem past {w w' : World} {x : Obj} {b n : Nat} {l : List Int} (h : Mb.Has w b n l) (k : Below (w.alloc x).heap.size (w.alloc x) w') : Mb.Has w' b n l :=
  h.of_block (by
    have hl := h.lt
    rw [k.block b (by simp; omega), Below.heap_alloc _ _ _ hl])
theorem past_below {B : Nat} {w0 w w' : World} {x : Obj} (h : Below B w0 w) (hs : B ≤ w.heap.size) (k : Below (w.alloc x).heap.size (w.alloc x) w') : Below B w0 w' :=
  (Below.alloc h hs x).trans (k.mono (by simp; omega))
theorem grown_below {B b : Nat} {w0 w w' : World} (h : Below B w0 w) (hs : B ≤ w.heap.size) (hb : B ≤ b) (k : w.grownBy w' (some b)) : Below B w0 w' :=
  h.grown k hs (fun i hi => by cases hi; omega)
theorem valid_at {z : Nat → Nat → Int} {k : Nat} {r : Bool} (h : Hid (Cx.right z k = r)) (w : World) : Calls Try.prog 35 #[.agg #[.int .i64 (z k 0), .int .i64 (z k 1), .int .i64 (z k 2), .int .i64 (z k 3), .int .i64 (z k 4)]] w fun e' w' => e' = .returned (.bool r) ∧ Below w.heap.size w w' := by
  rw [← h.out]; exact valid_any _ _ _ _ _ w
theorem id_wf {z : Nat → Nat → Int} {k : Nat} (h : Cx.right z k = true) : (Lit.int .i64 (z k 0)).wf = true := by
  have := Cx.okC_iff.1 h
  simp [Lit.wf, IntKind.min, IntKind.max, IntKind.signed, IntKind.bits]
  omega
set_option maxHeartbeats 4000000 in
theorem check_any (a : Option Addr) (n cap : Nat) (z : Nat → Nat → Int) (w : World) (S : Cs w a n z) :
    Calls Try.prog 20 #[.slice a n cap] w fun e w' => e = .returned (.int .i64 (Cx.chk n z)) ∧ Below w.heap.size w w' := by
  by_cases hn : 12 < n
  · have hn' : (12 : Int) < (n : Int) := by omega
    clear S
    go_enter Try.func20, Try.ntmps20
    go_wp2
    go_ret
    exact ⟨Hp.ret_int (by unfold Cx.chk; rw [if_pos hn]), Below.refl _ _⟩
  · have hn' : ¬ (12 : Int) < (n : Int) := by omega
    have hmm := @run_makeMap Try.prog
    have hS := Lib.hid S
    have hC := Lib.hid (show Cx.chk n z = Cx.scan z n by unfold Cx.chk; rw [if_neg hn])
    have hM := Lib.hid (Mb.Has.made w)
    clear S
    go_enter Try.func20, Try.ntmps20
    go_wp2
    go_loopw [12] (fun c wr => ∃ k : Nat, k ≤ n ∧ c = .int .i64 k ∧ Cx.scan z k = 0 ∧ Mb.Has wr w.heap.size k (Cx.ids z k) ∧ Below w.heap.size w wr ∧ w.heap.size < wr.heap.size) (fun c _ => n - (intOf c).toNat)
    case atStart => exact ⟨0, by omega, rfl, rfl, hM.out, by (repeat (first | exact Below.refl _ _ | refine Below.drew ?_ | refine Hp.drewN ?_ _ | refine Below.setCell ?_ (by first | (simp; done) | (simp; omega) | omega) _ | refine Below.alloc ?_ (by first | (simp; done) | (simp; omega) | omega) _ | (refine Hp.step ?_ (by assumption)))), by simp⟩
    case round =>
      obtain ⟨k, hk, rfl, hs, hm, hB, hsz⟩ := hrel
      by_cases hlt : k < n
      · obtain ⟨b, o, rfl, hb, c0, c1, c2, c3, c4⟩ := (hS.out.later hB).elem hlt
        have HM := Lib.hid hm; have HB := Lib.hid hB; have HS := Lib.hid hs
        clear hm hB hs
        by_cases h1 : Cx.right z k = true
        · have q := Lib.hid h1
          have hw := Lib.hid (id_wf h1)
          clear h1
          by_cases h2 : z k 0 ∈ Cx.ids z k
          · have q2 := Lib.hid h2; have d2 := Lib.hid (decide_eq_true h2)
            have e := Lib.hid (Cx.scan_two HS.out q.out d2.out)
            clear h2
            go_wp2_with (first | (at_lookup; refine Mb.look rfl (.tmp 19) (.tmp 21) rfl rfl rfl hw.out M5.out d2.out ?_) | (go_at_call 35; refine (valid_at q _).mono ?_; rintro e w5 ⟨rfl, hb5⟩; obtain ⟨hc5, hf5⟩ := Hp.bcell hb5; have hs5 := hb5.size; (try simp at hs5); have M5 := Lib.hid (past HM.out hb5); have B5 := Lib.hid (past_below HB.out (by omega) hb5); clear hb5))
            go_ret
            exact ⟨Hp.ret_int (by rw [hC.out, Cx.scan_stay (by rw [e.out]; decide) n hlt, e.out]), B5.out⟩
          · have q2 := Lib.hid h2; have d2 := Lib.hid (decide_eq_false h2)
            have e := Lib.hid (Cx.scan_go HS.out q.out d2.out)
            clear h2
            go_wp2_with (first | (at_lookup; refine Mb.look rfl (.tmp 19) (.tmp 21) rfl rfl rfl hw.out M5.out d2.out ?_) | (at_mapUpdate; refine Mb.store rfl (.tmp 23) (.tmp 25) _ rfl rfl rfl rfl hw.out M5.out (by omega) ?_; intro w6 m6 g6; have M6 := Lib.hid m6; have G6 := Lib.hid g6; have s6 := g6.size; clear m6 g6) | (go_at_call 35; refine (valid_at q _).mono ?_; rintro e w5 ⟨rfl, hb5⟩; obtain ⟨hc5, hf5⟩ := Hp.bcell hb5; have hs5 := hb5.size; (try simp at hs5); have M5 := Lib.hid (past HM.out hb5); have B5 := Lib.hid (past_below HB.out (by omega) hb5); clear hb5))
            go_roundw
            case rel => exact ⟨k + 1, by omega, by go_num, e.out, by rw [Cx.ids_succ]; exact M6.out, grown_below B5.out (by omega) (by omega) G6.out, by omega⟩
            case measure => simp [intOf]; omega
        · have h1 : Cx.right z k = false := by simpa using h1
          have q := Lib.hid h1
          have e := Lib.hid (Cx.scan_no HS.out h1)
          clear h1
          go_wp2_with (go_at_call 35; refine (valid_at q _).mono ?_; rintro e w5 ⟨rfl, hb5⟩; obtain ⟨hc5, hf5⟩ := Hp.bcell hb5; have hs5 := hb5.size; (try simp at hs5); have B5 := Lib.hid (past_below HB.out (by omega) hb5); clear hb5)
          go_ret
          exact ⟨Hp.ret_int (by rw [hC.out, Cx.scan_stay (by rw [e.out]; decide) n hlt, e.out]), B5.out⟩
      · have HB := Lib.hid hB; have HS := Lib.hid hs
        clear hm hB hs
        go_wp2
        go_ret
        exact ⟨Hp.ret_int (by rw [hC.out, ← show k = n by omega, HS.out]), HB.out⟩
end Go.Proofs.Ytbbdeagllhmdiaa.CxW
