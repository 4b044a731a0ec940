/- The contract of sample.Of: wrong order, and the sample. -/
import Derived.Test.YtjfchcjmfogijaaSo
set_option linter.unusedVariables false
set_option linter.unusedSimpArgs false
namespace Go.Proofs.Ytjfchcjmfogijaa.FxW
open Go.RowKit

set_option maxHeartbeats 4000000 in
set_option maxRecDepth 100000 in
theorem sof_order (T : Nat → Int) (t0 : Sx.timeB (T 0) = true) (t1 : Sx.timeB (T 1) = true) (t2 : Sx.timeB (T 2) = true) (t3 : Sx.timeB (T 3) = true) (prec tol : Int) (p1 : ¬ prec < 1) (p2 : ¬ 1000000000 < prec) (tl : Sx.tolB tol = true)
    (h : T 3 < T 0 ∨ (¬ T 3 < T 0 ∧ T 2 < T 1)) (w : World) :
    Calls Try.prog 10 #[.agg #[.int .i64 (T 0), .int .i64 (T 1), .int .i64 (T 2), .int .i64 (T 3)], .int .i64 prec, .int .i64 tol] w (OfPost ⟨0, 0, 0, 0, 12⟩ w) := by
  have i0 : ∀ w, (Instr.index 47 (.agg #[.int .i64 (T 0), .int .i64 (T 1), .int .i64 (T 2), .int .i64 (T 3)]) (.int .i64 0)).run Try.prog w = .ok (.int .i64 (T 0)) w := fun _ => by kernel_rfl
  have i1 : ∀ w, (Instr.index 47 (.agg #[.int .i64 (T 0), .int .i64 (T 1), .int .i64 (T 2), .int .i64 (T 3)]) (.int .i64 1)).run Try.prog w = .ok (.int .i64 (T 1)) w := fun _ => by kernel_rfl
  have i2 : ∀ w, (Instr.index 47 (.agg #[.int .i64 (T 0), .int .i64 (T 1), .int .i64 (T 2), .int .i64 (T 3)]) (.int .i64 2)).run Try.prog w = .ok (.int .i64 (T 2)) w := fun _ => by kernel_rfl
  have i3 : ∀ w, (Instr.index 47 (.agg #[.int .i64 (T 0), .int .i64 (T 1), .int .i64 (T 2), .int .i64 (T 3)]) (.int .i64 3)).run Try.prog w = .ok (.int .i64 (T 3)) w := fun _ => by kernel_rfl
  have H1 : Hid (∀ k, k < 4 → Sx.timeB (T k) = true) := fun k hk => by
    have : k = 0 ∨ k = 1 ∨ k = 2 ∨ k = 3 := by omega
    rcases this with rfl | rfl | rfl | rfl <;> assumption
  have b0 := Sx.timeB_iff.1 t0
  have b1 := Sx.timeB_iff.1 t1
  have b2 := Sx.timeB_iff.1 t2
  have b3 := Sx.timeB_iff.1 t3
  clear t0 t1 t2 t3
  go_enter Try.func10, Try.ntmps10
  go_wp2_with (fail)
  go_loop [24] (fun i => ∃ k : Nat, k ≤ 4 ∧ i = .int .i64 k) (fun i => 4 - (intOf i).toNat)
  case atStart => exact ⟨0, Nat.zero_le _, rfl⟩
  case round =>
    obtain ⟨k, hk, rfl⟩ := hrel
    by_cases e : k = 4
    · subst e
      rcases h with h | ⟨h, h'⟩
      all_goals
        go_wp2_with (go_at_call 23; refine (istol_any _ _).mono ?_; rintro e w' ⟨rfl, rfl⟩)
        refine bodyPost_ret (v := .tuple #[.agg #[.int .i64 0, .int .i64 0, .int .i64 0, .int .i64 0], .int .i64 12]) (by simp [results, Try.results10, go_sem]) rfl ⟨rfl, ?_⟩
        (repeat (first | exact Below.refl _ _ | refine Below.drew ?_ | refine Hp.drewN ?_ _ | refine Below.setCell ?_ (by simp) _ | refine Below.alloc ?_ (by simp) _ | (refine Hp.step ?_ (by assumption))))
    · have X : Sx.timeB (T k) = true := H1.out k (by omega)
      have : k = 0 ∨ k = 1 ∨ k = 2 ∨ k = 3 := by omega
      have lt : k + 1 ≤ 4 := by omega
      clear e h
      rcases this with rfl | rfl | rfl | rfl
      all_goals
        go_wp2_with (go_at_call 22; refine (istime_any _ _).mono ?_; rintro e w' ⟨rfl, rfl⟩)
        go_round
        case rel => exact ⟨_, lt, by first | rfl | go_num⟩
        case measure => simp [intOf]
set_option maxHeartbeats 8000000 in
set_option maxRecDepth 100000 in
theorem sof_fin (T : Nat → Int) (t0 : Sx.timeB (T 0) = true) (t1 : Sx.timeB (T 1) = true) (t2 : Sx.timeB (T 2) = true) (t3 : Sx.timeB (T 3) = true) (prec tol : Int) (p1 : ¬ prec < 1) (p2 : ¬ 1000000000 < prec) (tl : Sx.tolB tol = true)
    (h : ¬ T 3 < T 0) (h' : ¬ T 2 < T 1) (w : World) :
    Calls Try.prog 10 #[.agg #[.int .i64 (T 0), .int .i64 (T 1), .int .i64 (T 2), .int .i64 (T 3)], .int .i64 prec, .int .i64 tol] w (OfPost (Sx.fin5 (Fx.fl ((T 1 - T 0) + (T 2 - T 3)) 2) (max prec ((T 3 - T 0) - (T 2 - T 1))) (prec + Sx.gr (T 3 - T 0) tol) (T 3)) w) := by
  have tb := Sx.tolB_iff.1 tl
  have i0 : ∀ w, (Instr.index 47 (.agg #[.int .i64 (T 0), .int .i64 (T 1), .int .i64 (T 2), .int .i64 (T 3)]) (.int .i64 0)).run Try.prog w = .ok (.int .i64 (T 0)) w := fun _ => by kernel_rfl
  have i1 : ∀ w, (Instr.index 47 (.agg #[.int .i64 (T 0), .int .i64 (T 1), .int .i64 (T 2), .int .i64 (T 3)]) (.int .i64 1)).run Try.prog w = .ok (.int .i64 (T 1)) w := fun _ => by kernel_rfl
  have i2 : ∀ w, (Instr.index 47 (.agg #[.int .i64 (T 0), .int .i64 (T 1), .int .i64 (T 2), .int .i64 (T 3)]) (.int .i64 2)).run Try.prog w = .ok (.int .i64 (T 2)) w := fun _ => by kernel_rfl
  have i3 : ∀ w, (Instr.index 47 (.agg #[.int .i64 (T 0), .int .i64 (T 1), .int .i64 (T 2), .int .i64 (T 3)]) (.int .i64 3)).run Try.prog w = .ok (.int .i64 (T 3)) w := fun _ => by kernel_rfl
  have H1 : Hid (∀ k, k < 4 → Sx.timeB (T k) = true) := fun k hk => by
    have : k = 0 ∨ k = 1 ∨ k = 2 ∨ k = 3 := by omega
    rcases this with rfl | rfl | rfl | rfl <;> assumption
  have b0 := Sx.timeB_iff.1 t0
  have b1 := Sx.timeB_iff.1 t1
  have b2 := Sx.timeB_iff.1 t2
  have b3 := Sx.timeB_iff.1 t3
  clear t0 t1 t2 t3
  go_enter Try.func10, Try.ntmps10
  go_wp2_with (fail)
  go_loop [24] (fun i => ∃ k : Nat, k ≤ 4 ∧ i = .int .i64 k) (fun i => 4 - (intOf i).toNat)
  case atStart => exact ⟨0, Nat.zero_le _, rfl⟩
  case round =>
    obtain ⟨k, hk, rfl⟩ := hrel
    by_cases e : k = 4
    · subst e
      obtain ⟨g1, g2, g3, _, _⟩ := Sx.gr_facts (T 3 - T 0) tol (by omega) (by omega) tb.1 tb.2
      obtain ⟨f1, f2, f3, _, _⟩ := Sx.half_facts ((T 1 - T 0) + (T 2 - T 3)) (by omega) (by omega)
      have s1 : IntKind.i64.wrap (T 1 - T 0) = T 1 - T 0 := IntWalk.i64_in _ (by omega)
      clear g1 H1
      go_wp2_with (first | (go_at_call 23; refine (istol_any _ _).mono ?_; rintro e w' ⟨rfl, rfl⟩) | (go_at_call 24; refine (floor_any _ _ (by omega) (by omega) (by omega) (by omega) _).mono ?_; rw [f1]; rintro e w1 ⟨rfl, nq, rfl⟩))
      have s2 : IntKind.i64.wrap (T 2 - T 1) = T 2 - T 1 := IntWalk.i64_in _ (by omega)
      have s3 : IntKind.i64.wrap (T 3 - T 0 - (T 2 - T 1)) = T 3 - T 0 - (T 2 - T 1) := IntWalk.i64_in _ (by omega)
      have s4 : IntKind.i64.wrap (prec + Sx.gr (T 3 - T 0) tol) = prec + Sx.gr (T 3 - T 0) tol := IntWalk.i64_in _ (by omega)
      have nb1 : ¬ (w.heap.size = w.heap.size + 1 + 1) := by omega
      have nb2 : ¬ (w.heap.size + 1 + 1 = w.heap.size) := by omega
      have nb3 : ¬ (w.heap.size + 1 = w.heap.size + 1 + 1) := by omega
      have nb4 : ¬ (w.heap.size + 1 + 1 = w.heap.size + 1) := by omega
      have cc : Sx.okS (Fx.fl (T 1 - T 0 + (T 2 - T 3)) 2) (max prec (T 3 - T 0 - (T 2 - T 1))) (prec + Sx.gr (T 3 - T 0) tol) (T 3) = true ∨ Sx.okS (Fx.fl (T 1 - T 0 + (T 2 - T 3)) 2) (max prec (T 3 - T 0 - (T 2 - T 1))) (prec + Sx.gr (T 3 - T 0) tol) (T 3) = false := by
        cases Sx.okS (Fx.fl (T 1 - T 0 + (T 2 - T 3)) 2) (max prec (T 3 - T 0 - (T 2 - T 1))) (prec + Sx.gr (T 3 - T 0) tol) (T 3) <;> simp
      rcases cc with c | c
      · have C := Lib.hid (Sx.chk_ok c)
        have F5 := Lib.hid (Sx.fin5_ok c)
        clear c
        all_goals
          go_region_held3 (fun w' => w'.cell? ⟨w.heap.size, 0, none⟩ = some (.int .i64 (T 0)) ∧ w'.cell? ⟨w.heap.size, 1, none⟩ = some (.int .i64 (T 1)) ∧ w'.cell? ⟨w.heap.size, 2, none⟩ = some (.int .i64 (T 2)) ∧ w'.cell? ⟨w.heap.size, 3, none⟩ = some (.int .i64 (T 3))) (go_keep)
            (first | (go_at_call 25; refine (sgrowth_any _ _ (by omega) (by omega) (by omega) (by omega) _).mono ?_; rintro e w' ⟨rfl, nq2, rfl⟩))
          all_goals
            go_wp2_with (go_at_call 13; refine (scheck_any _ _ _ _ _).mono ?_; rw [C.out]; rintro e w4 ⟨rfl, hb⟩; obtain ⟨hc, hf⟩ := Hp.bcell hb; have hz := hb.size; (try simp at hz); have hz0 : w.heap.size < w4.heap.size := (by omega); have hz1 : w.heap.size + 1 < w4.heap.size := (by omega); have hz2 : w.heap.size + 1 + 1 < w4.heap.size := (by omega))
            refine bodyPost_ret (v := .tuple #[.agg #[.int .i64 (Fx.fl (T 1 - T 0 + (T 2 - T 3)) 2), .int .i64 (max prec (T 3 - T 0 - (T 2 - T 1))), .int .i64 (prec + Sx.gr (T 3 - T 0) tol), .int .i64 (T 3)], .int .i64 0]) (by simp [results, Try.results10, go_sem, hc, hz0, hz1, hz2]) rfl ?_
            rw [F5.out]
            refine ⟨rfl, ?_⟩
            (repeat (first | exact Below.refl _ _ | refine Below.drew ?_ | refine Hp.drewN ?_ _ | refine Below.setCell ?_ (by simp; try omega) _ | refine Below.alloc ?_ (by simp; try omega) _ | (refine Hp.step ?_ (by assumption))))
      · have C := Lib.hid (Sx.chk_no c)
        have F5 := Lib.hid (Sx.fin5_no c)
        clear c
        all_goals
          go_region_held3 (fun w' => w'.cell? ⟨w.heap.size, 0, none⟩ = some (.int .i64 (T 0)) ∧ w'.cell? ⟨w.heap.size, 1, none⟩ = some (.int .i64 (T 1)) ∧ w'.cell? ⟨w.heap.size, 2, none⟩ = some (.int .i64 (T 2)) ∧ w'.cell? ⟨w.heap.size, 3, none⟩ = some (.int .i64 (T 3))) (go_keep)
            (first | (go_at_call 25; refine (sgrowth_any _ _ (by omega) (by omega) (by omega) (by omega) _).mono ?_; rintro e w' ⟨rfl, nq2, rfl⟩))
          all_goals
            go_wp2_with (go_at_call 13; refine (scheck_any _ _ _ _ _).mono ?_; rw [C.out]; rintro e w4 ⟨rfl, hb⟩; obtain ⟨hc, hf⟩ := Hp.bcell hb; have hz := hb.size; (try simp at hz); have hz0 : w.heap.size < w4.heap.size := (by omega); have hz1 : w.heap.size + 1 < w4.heap.size := (by omega); have hz2 : w.heap.size + 1 + 1 < w4.heap.size := (by omega))
            refine bodyPost_ret (v := .tuple #[.agg #[.int .i64 0, .int .i64 0, .int .i64 0, .int .i64 0], .int .i64 3]) (by simp [results, Try.results10, go_sem, hc, hz0, hz1, hz2]) rfl ?_
            rw [F5.out]
            refine ⟨rfl, ?_⟩
            (repeat (first | exact Below.refl _ _ | refine Below.drew ?_ | refine Hp.drewN ?_ _ | refine Below.setCell ?_ (by simp; try omega) _ | refine Below.alloc ?_ (by simp; try omega) _ | (refine Hp.step ?_ (by assumption))))
    · have X : Sx.timeB (T k) = true := H1.out k (by omega)
      have : k = 0 ∨ k = 1 ∨ k = 2 ∨ k = 3 := by omega
      have lt : k + 1 ≤ 4 := by omega
      clear e h h'
      rcases this with rfl | rfl | rfl | rfl
      all_goals
        go_wp2_with (go_at_call 22; refine (istime_any _ _).mono ?_; rintro e w' ⟨rfl, rfl⟩)
        go_round
        case rel => exact ⟨_, lt, by first | rfl | go_num⟩
        case measure => simp [intOf]
theorem sof_any (a b c d prec tol : Int) (w : World) :
    Calls Try.prog 10 #[.agg #[.int .i64 a, .int .i64 b, .int .i64 c, .int .i64 d], .int .i64 prec, .int .i64 tol] w (OfPost (Sx.ofR a b c d prec tol) w) := by
  have T : ∃ T : Nat → Int, T 0 = a ∧ T 1 = b ∧ T 2 = c ∧ T 3 = d := ⟨fun k => match k with | 0 => a | 1 => b | 2 => c | _ => d, rfl, rfl, rfl, rfl⟩
  obtain ⟨T, rfl, rfl, rfl, rfl⟩ := T
  rcases Sx.inB_ways (T 0) (T 1) (T 2) (T 3) prec tol with ⟨hi, h⟩ | ⟨hi, t0, t1, t2, t3, p1, p2, tl⟩
  · rw [Sx.ofR_bad hi]
    rcases h with h | ⟨t0, h⟩ | ⟨t0, t1, h⟩ | ⟨t0, t1, t2, h⟩ | ⟨t0, t1, t2, t3, h⟩ | ⟨t0, t1, t2, t3, h, h'⟩ | ⟨t0, t1, t2, t3, h, h', h''⟩
    · exact sof_time 0 (by omega) T (fun k hk => by omega) h prec tol w
    · exact sof_time 1 (by omega) T (fun k hk => by
        have e : k = 0 := (by omega)
        subst e; exact t0) h prec tol w
    · exact sof_time 2 (by omega) T (fun k hk => by
        have : k = 0 ∨ k = 1 := by omega
        rcases this with rfl | rfl <;> assumption) h prec tol w
    · exact sof_time 3 (by omega) T (fun k hk => by
        have : k = 0 ∨ k = 1 ∨ k = 2 := by omega
        rcases this with rfl | rfl | rfl <;> assumption) h prec tol w
    · exact sof_num T t0 t1 t2 t3 prec tol (.inl h) w
    · exact sof_num T t0 t1 t2 t3 prec tol (.inr (.inl ⟨h, h'⟩)) w
    · exact sof_num T t0 t1 t2 t3 prec tol (.inr (.inr ⟨h, h', h''⟩)) w
  · by_cases h : T 3 < T 0 ∨ T 2 < T 1
    · rw [Sx.ofR_order hi h]
      exact sof_order T t0 t1 t2 t3 prec tol p1 p2 tl (by omega) w
    · rw [Sx.ofR_fin hi h]
      exact sof_fin T t0 t1 t2 t3 prec tol p1 p2 tl (by omega) (by omega) w
end Go.Proofs.Ytjfchcjmfogijaa.FxW
