/- The contract of the reference's Of. -/
import Derived.Test.YtjfchcjmfogijaaSo
import Derived.Test.YtjfchcjmfogijaaSr
set_option linter.unusedVariables false
set_option linter.unusedSimpArgs false
namespace Go.Proofs.Ytjfchcjmfogijaa.FxW
open Go.RowKit

set_option maxHeartbeats 8000000 in
set_option maxRecDepth 100000 in
theorem rof_bad (a b c d prec tol : Int)
    (h : Sx.timeB a = false ∨ (Sx.timeB a = true ∧ Sx.timeB b = false) ∨ (Sx.timeB a = true ∧ Sx.timeB b = true ∧ Sx.timeB c = false) ∨ (Sx.timeB a = true ∧ Sx.timeB b = true ∧ Sx.timeB c = true ∧ Sx.timeB d = false) ∨
      (Sx.timeB a = true ∧ Sx.timeB b = true ∧ Sx.timeB c = true ∧ Sx.timeB d = true ∧ prec < 1) ∨ (Sx.timeB a = true ∧ Sx.timeB b = true ∧ Sx.timeB c = true ∧ Sx.timeB d = true ∧ ¬ prec < 1 ∧ 1000000000 < prec) ∨
      (Sx.timeB a = true ∧ Sx.timeB b = true ∧ Sx.timeB c = true ∧ Sx.timeB d = true ∧ ¬ prec < 1 ∧ ¬ 1000000000 < prec ∧ Sx.tolB tol = false)) (w : World) :
    Calls Try.prog 11 #[.agg #[.int .i64 a, .int .i64 b, .int .i64 c, .int .i64 d], .int .i64 prec, .int .i64 tol] w (OfPost ⟨0, 0, 0, 0, 3⟩ w) := by
  rcases h with h | ⟨t0, h⟩ | ⟨t0, t1, h⟩ | ⟨t0, t1, t2, h⟩ | ⟨t0, t1, t2, t3, h⟩ | ⟨t0, t1, t2, t3, h, h'⟩ | ⟨t0, t1, t2, t3, h, h', h''⟩
  all_goals
    go_enter Try.func11, Try.ntmps11
    go_wp2_with (first | (go_at_call 26; refine (ristime_any _ _).mono ?_; rintro e w' ⟨rfl, rfl⟩) | (go_at_call 27; refine (ristol_any _ _).mono ?_; rintro e w' ⟨rfl, rfl⟩))
    refine bodyPost_ret (v := .tuple #[.agg #[.int .i64 0, .int .i64 0, .int .i64 0, .int .i64 0], .int .i64 3]) (by simp [results, Try.results11, go_sem]) rfl ⟨rfl, ?_⟩
    (repeat (first | exact Below.refl _ _ | refine Below.drew ?_ | refine Hp.drewN ?_ _ | refine Below.setCell ?_ (by simp; try omega) _ | refine Below.alloc ?_ (by simp; try omega) _ | (refine Hp.step ?_ (by assumption))))
set_option maxHeartbeats 8000000 in
set_option maxRecDepth 100000 in
theorem rof_order (a b c d prec tol : Int) (t0 : Sx.timeB a = true) (t1 : Sx.timeB b = true) (t2 : Sx.timeB c = true) (t3 : Sx.timeB d = true) (p1 : ¬ prec < 1) (p2 : ¬ 1000000000 < prec) (tl : Sx.tolB tol = true)
    (h : d < a ∨ (¬ d < a ∧ c < b)) (w : World) :
    Calls Try.prog 11 #[.agg #[.int .i64 a, .int .i64 b, .int .i64 c, .int .i64 d], .int .i64 prec, .int .i64 tol] w (OfPost ⟨0, 0, 0, 0, 12⟩ w) := by
  rcases h with h | ⟨h, h'⟩
  all_goals
    go_enter Try.func11, Try.ntmps11
    go_wp2_with (first | (go_at_call 26; refine (ristime_any _ _).mono ?_; rintro e w' ⟨rfl, rfl⟩) | (go_at_call 27; refine (ristol_any _ _).mono ?_; rintro e w' ⟨rfl, rfl⟩))
    refine bodyPost_ret (v := .tuple #[.agg #[.int .i64 0, .int .i64 0, .int .i64 0, .int .i64 0], .int .i64 12]) (by simp [results, Try.results11, go_sem]) rfl ⟨rfl, ?_⟩
    (repeat (first | exact Below.refl _ _ | refine Below.drew ?_ | refine Hp.drewN ?_ _ | refine Below.setCell ?_ (by simp; try omega) _ | refine Below.alloc ?_ (by simp; try omega) _ | (refine Hp.step ?_ (by assumption))))
set_option maxHeartbeats 16000000 in
set_option maxRecDepth 100000 in
theorem rof_low (a b c d prec tol : Int) (t0 : Sx.timeB a = true) (t1 : Sx.timeB b = true) (t2 : Sx.timeB c = true) (t3 : Sx.timeB d = true) (p1 : ¬ prec < 1) (p2 : ¬ 1000000000 < prec) (tl : Sx.tolB tol = true)
    (h : ¬ d < a) (h' : ¬ c < b) (hm : d - a - (c - b) < prec) (ok : Bool)
    (hok : Sx.okS (Fx.fl (b - a + (c - d)) 2) prec (prec + Sx.gr (d - a) tol) d = ok) (w : World) :
    Calls Try.prog 11 #[.agg #[.int .i64 a, .int .i64 b, .int .i64 c, .int .i64 d], .int .i64 prec, .int .i64 tol] w (OfPost (Sx.fin5 (Fx.fl (b - a + (c - d)) 2) prec (prec + Sx.gr (d - a) tol) d) w) := by
  have tb := Sx.tolB_iff.1 tl
  have b0 := Sx.timeB_iff.1 t0
  have b1 := Sx.timeB_iff.1 t1
  have b2 := Sx.timeB_iff.1 t2
  have b3 := Sx.timeB_iff.1 t3
  obtain ⟨_, g2, g3, _, _⟩ := Sx.gr_facts (d - a) tol (by omega) (by omega) tb.1 tb.2
  obtain ⟨f1, f2, f3, _, _⟩ := Sx.half_facts ((b - a) + (c - d)) (by omega) (by omega)
  have s0 : IntKind.i64.wrap (d - a) = d - a := IntWalk.i64_in _ (by omega)
  have s4 : IntKind.i64.wrap (prec + Sx.gr (d - a) tol) = prec + Sx.gr (d - a) tol := IntWalk.i64_in _ (by omega)
  have nb1 : ¬ (w.heap.size = w.heap.size + 1 + 1) := by omega
  have nb2 : ¬ (w.heap.size + 1 + 1 = w.heap.size) := by omega
  have nb3 : ¬ (w.heap.size + 1 = w.heap.size + 1 + 1) := by omega
  have nb4 : ¬ (w.heap.size + 1 + 1 = w.heap.size + 1) := by omega
  cases ok
  · have C := Lib.hid (Sx.chk_no hok)
    have F5 := Lib.hid (Sx.fin5_no hok)
    clear hok
    all_goals
      go_enter Try.func11, Try.ntmps11
      go_wp2_with (first | (go_at_call 26; refine (ristime_any _ _).mono ?_; rintro e w' ⟨rfl, rfl⟩) | (go_at_call 27; refine (ristol_any _ _).mono ?_; rintro e w' ⟨rfl, rfl⟩) | (go_at_call 28; refine (rfloor_any _ _ (by omega) (by omega) (by omega) (by omega) _).mono ?_; rw [f1]; rintro e w' ⟨rfl, rfl⟩))
      go_region_held3 (fun w' => w'.cell? ⟨w.heap.size, 0, none⟩ = some (.int .i64 a) ∧ w'.cell? ⟨w.heap.size, 1, none⟩ = some (.int .i64 b) ∧ w'.cell? ⟨w.heap.size, 2, none⟩ = some (.int .i64 c) ∧ w'.cell? ⟨w.heap.size, 3, none⟩ = some (.int .i64 d)) (go_keep)
        (first | (go_at_call 29; refine (rgrowth_any _ _ (by omega) (by omega) (by omega) (by omega) _).mono ?_; rintro e w' ⟨rfl, rfl⟩))
      all_goals
        go_wp2_with (go_at_call 14; refine (rcheck_any _ _ _ _ _).mono ?_; rw [C.out]; rintro e w4 ⟨rfl, hb⟩; obtain ⟨hc, hf⟩ := Hp.bcell hb; have hz := hb.size; (try simp at hz); have hz0 : w.heap.size < w4.heap.size := (by omega); have hz1 : w.heap.size + 1 < w4.heap.size := (by omega); have hz2 : w.heap.size + 1 + 1 < w4.heap.size := (by omega))
        refine bodyPost_ret (v := .tuple #[.agg #[.int .i64 0, .int .i64 0, .int .i64 0, .int .i64 0], .int .i64 3]) (by simp [results, Try.results11, go_sem, hc, hz0, hz1, hz2]) rfl ?_
        rw [F5.out]
        refine ⟨rfl, ?_⟩
        (repeat (first | exact Below.refl _ _ | refine Below.drew ?_ | refine Hp.drewN ?_ _ | refine Below.setCell ?_ (by simp; try omega) _ | refine Below.alloc ?_ (by simp; try omega) _ | (refine Hp.step ?_ (by assumption))))
  · have C := Lib.hid (Sx.chk_ok hok)
    have F5 := Lib.hid (Sx.fin5_ok hok)
    clear hok
    all_goals
      go_enter Try.func11, Try.ntmps11
      go_wp2_with (first | (go_at_call 26; refine (ristime_any _ _).mono ?_; rintro e w' ⟨rfl, rfl⟩) | (go_at_call 27; refine (ristol_any _ _).mono ?_; rintro e w' ⟨rfl, rfl⟩) | (go_at_call 28; refine (rfloor_any _ _ (by omega) (by omega) (by omega) (by omega) _).mono ?_; rw [f1]; rintro e w' ⟨rfl, rfl⟩))
      go_region_held3 (fun w' => w'.cell? ⟨w.heap.size, 0, none⟩ = some (.int .i64 a) ∧ w'.cell? ⟨w.heap.size, 1, none⟩ = some (.int .i64 b) ∧ w'.cell? ⟨w.heap.size, 2, none⟩ = some (.int .i64 c) ∧ w'.cell? ⟨w.heap.size, 3, none⟩ = some (.int .i64 d)) (go_keep)
        (first | (go_at_call 29; refine (rgrowth_any _ _ (by omega) (by omega) (by omega) (by omega) _).mono ?_; rintro e w' ⟨rfl, rfl⟩))
      all_goals
        go_wp2_with (go_at_call 14; refine (rcheck_any _ _ _ _ _).mono ?_; rw [C.out]; rintro e w4 ⟨rfl, hb⟩; obtain ⟨hc, hf⟩ := Hp.bcell hb; have hz := hb.size; (try simp at hz); have hz0 : w.heap.size < w4.heap.size := (by omega); have hz1 : w.heap.size + 1 < w4.heap.size := (by omega); have hz2 : w.heap.size + 1 + 1 < w4.heap.size := (by omega))
        refine bodyPost_ret (v := .tuple #[.agg #[.int .i64 (Fx.fl (b - a + (c - d)) 2), .int .i64 prec, .int .i64 (prec + Sx.gr (d - a) tol), .int .i64 d], .int .i64 0]) (by simp [results, Try.results11, go_sem, hc, hz0, hz1, hz2]) rfl ?_
        rw [F5.out]
        refine ⟨rfl, ?_⟩
        (repeat (first | exact Below.refl _ _ | refine Below.drew ?_ | refine Hp.drewN ?_ _ | refine Below.setCell ?_ (by simp; try omega) _ | refine Below.alloc ?_ (by simp; try omega) _ | (refine Hp.step ?_ (by assumption))))
set_option maxHeartbeats 16000000 in
set_option maxRecDepth 100000 in
theorem rof_high (a b c d prec tol : Int) (t0 : Sx.timeB a = true) (t1 : Sx.timeB b = true) (t2 : Sx.timeB c = true) (t3 : Sx.timeB d = true) (p1 : ¬ prec < 1) (p2 : ¬ 1000000000 < prec) (tl : Sx.tolB tol = true)
    (h : ¬ d < a) (h' : ¬ c < b) (hm : ¬ d - a - (c - b) < prec) (ok : Bool)
    (hok : Sx.okS (Fx.fl (b - a + (c - d)) 2) (d - a - (c - b)) (prec + Sx.gr (d - a) tol) d = ok) (w : World) :
    Calls Try.prog 11 #[.agg #[.int .i64 a, .int .i64 b, .int .i64 c, .int .i64 d], .int .i64 prec, .int .i64 tol] w (OfPost (Sx.fin5 (Fx.fl (b - a + (c - d)) 2) (d - a - (c - b)) (prec + Sx.gr (d - a) tol) d) w) := by
  have tb := Sx.tolB_iff.1 tl
  have b0 := Sx.timeB_iff.1 t0
  have b1 := Sx.timeB_iff.1 t1
  have b2 := Sx.timeB_iff.1 t2
  have b3 := Sx.timeB_iff.1 t3
  obtain ⟨_, g2, g3, _, _⟩ := Sx.gr_facts (d - a) tol (by omega) (by omega) tb.1 tb.2
  obtain ⟨f1, f2, f3, _, _⟩ := Sx.half_facts ((b - a) + (c - d)) (by omega) (by omega)
  have s0 : IntKind.i64.wrap (d - a) = d - a := IntWalk.i64_in _ (by omega)
  have s4 : IntKind.i64.wrap (prec + Sx.gr (d - a) tol) = prec + Sx.gr (d - a) tol := IntWalk.i64_in _ (by omega)
  have nb1 : ¬ (w.heap.size = w.heap.size + 1 + 1) := by omega
  have nb2 : ¬ (w.heap.size + 1 + 1 = w.heap.size) := by omega
  have nb3 : ¬ (w.heap.size + 1 = w.heap.size + 1 + 1) := by omega
  have nb4 : ¬ (w.heap.size + 1 + 1 = w.heap.size + 1) := by omega
  cases ok
  · have C := Lib.hid (Sx.chk_no hok)
    have F5 := Lib.hid (Sx.fin5_no hok)
    clear hok
    all_goals
      go_enter Try.func11, Try.ntmps11
      go_wp2_with (first | (go_at_call 26; refine (ristime_any _ _).mono ?_; rintro e w' ⟨rfl, rfl⟩) | (go_at_call 27; refine (ristol_any _ _).mono ?_; rintro e w' ⟨rfl, rfl⟩) | (go_at_call 28; refine (rfloor_any _ _ (by omega) (by omega) (by omega) (by omega) _).mono ?_; rw [f1]; rintro e w' ⟨rfl, rfl⟩))
      go_region_held3 (fun w' => w'.cell? ⟨w.heap.size, 0, none⟩ = some (.int .i64 a) ∧ w'.cell? ⟨w.heap.size, 1, none⟩ = some (.int .i64 b) ∧ w'.cell? ⟨w.heap.size, 2, none⟩ = some (.int .i64 c) ∧ w'.cell? ⟨w.heap.size, 3, none⟩ = some (.int .i64 d)) (go_keep)
        (first | (go_at_call 29; refine (rgrowth_any _ _ (by omega) (by omega) (by omega) (by omega) _).mono ?_; rintro e w' ⟨rfl, rfl⟩))
      all_goals
        go_wp2_with (go_at_call 14; refine (rcheck_any _ _ _ _ _).mono ?_; rw [C.out]; rintro e w4 ⟨rfl, hb⟩; obtain ⟨hc, hf⟩ := Hp.bcell hb; have hz := hb.size; (try simp at hz); have hz0 : w.heap.size < w4.heap.size := (by omega); have hz1 : w.heap.size + 1 < w4.heap.size := (by omega); have hz2 : w.heap.size + 1 + 1 < w4.heap.size := (by omega))
        refine bodyPost_ret (v := .tuple #[.agg #[.int .i64 0, .int .i64 0, .int .i64 0, .int .i64 0], .int .i64 3]) (by simp [results, Try.results11, go_sem, hc, hz0, hz1, hz2]) rfl ?_
        rw [F5.out]
        refine ⟨rfl, ?_⟩
        (repeat (first | exact Below.refl _ _ | refine Below.drew ?_ | refine Hp.drewN ?_ _ | refine Below.setCell ?_ (by simp; try omega) _ | refine Below.alloc ?_ (by simp; try omega) _ | (refine Hp.step ?_ (by assumption))))
  · have C := Lib.hid (Sx.chk_ok hok)
    have F5 := Lib.hid (Sx.fin5_ok hok)
    clear hok
    all_goals
      go_enter Try.func11, Try.ntmps11
      go_wp2_with (first | (go_at_call 26; refine (ristime_any _ _).mono ?_; rintro e w' ⟨rfl, rfl⟩) | (go_at_call 27; refine (ristol_any _ _).mono ?_; rintro e w' ⟨rfl, rfl⟩) | (go_at_call 28; refine (rfloor_any _ _ (by omega) (by omega) (by omega) (by omega) _).mono ?_; rw [f1]; rintro e w' ⟨rfl, rfl⟩))
      go_region_held3 (fun w' => w'.cell? ⟨w.heap.size, 0, none⟩ = some (.int .i64 a) ∧ w'.cell? ⟨w.heap.size, 1, none⟩ = some (.int .i64 b) ∧ w'.cell? ⟨w.heap.size, 2, none⟩ = some (.int .i64 c) ∧ w'.cell? ⟨w.heap.size, 3, none⟩ = some (.int .i64 d)) (go_keep)
        (first | (go_at_call 29; refine (rgrowth_any _ _ (by omega) (by omega) (by omega) (by omega) _).mono ?_; rintro e w' ⟨rfl, rfl⟩))
      all_goals
        go_wp2_with (go_at_call 14; refine (rcheck_any _ _ _ _ _).mono ?_; rw [C.out]; rintro e w4 ⟨rfl, hb⟩; obtain ⟨hc, hf⟩ := Hp.bcell hb; have hz := hb.size; (try simp at hz); have hz0 : w.heap.size < w4.heap.size := (by omega); have hz1 : w.heap.size + 1 < w4.heap.size := (by omega); have hz2 : w.heap.size + 1 + 1 < w4.heap.size := (by omega))
        refine bodyPost_ret (v := .tuple #[.agg #[.int .i64 (Fx.fl (b - a + (c - d)) 2), .int .i64 (d - a - (c - b)), .int .i64 (prec + Sx.gr (d - a) tol), .int .i64 d], .int .i64 0]) (by simp [results, Try.results11, go_sem, hc, hz0, hz1, hz2]) rfl ?_
        rw [F5.out]
        refine ⟨rfl, ?_⟩
        (repeat (first | exact Below.refl _ _ | refine Below.drew ?_ | refine Hp.drewN ?_ _ | refine Below.setCell ?_ (by simp; try omega) _ | refine Below.alloc ?_ (by simp; try omega) _ | (refine Hp.step ?_ (by assumption))))
theorem rof_any (a b c d prec tol : Int) (w : World) :
    Calls Try.prog 11 #[.agg #[.int .i64 a, .int .i64 b, .int .i64 c, .int .i64 d], .int .i64 prec, .int .i64 tol] w (OfPost (Sx.ofR a b c d prec tol) w) := by
  rcases Sx.inB_ways a b c d prec tol with ⟨hi, h⟩ | ⟨hi, t0, t1, t2, t3, p1, p2, tl⟩
  · rw [Sx.ofR_bad hi]; exact rof_bad a b c d prec tol h w
  · by_cases h : d < a ∨ c < b
    · rw [Sx.ofR_order hi h]
      exact rof_order a b c d prec tol t0 t1 t2 t3 p1 p2 tl (by omega) w
    · rw [Sx.ofR_fin hi h]
      by_cases hm : d - a - (c - b) < prec
      · rw [show max prec (d - a - (c - b)) = prec by omega]
        exact rof_low a b c d prec tol t0 t1 t2 t3 p1 p2 tl (by omega) (by omega) hm _ rfl w
      · rw [show max prec (d - a - (c - b)) = d - a - (c - b) by omega]
        exact rof_high a b c d prec tol t0 t1 t2 t3 p1 p2 tl (by omega) (by omega) hm _ rfl w
end Go.Proofs.Ytjfchcjmfogijaa.FxW
