/- Contracts of Grow, of the program and of the reference: what is refused. -/
import Derived.Test.YtjfchcjmfogijaaSo
import Derived.Test.YtjfchcjmfogijaaSr
set_option linter.unusedVariables false
set_option linter.unusedSimpArgs false
namespace Go.Proofs.Ytjfchcjmfogijaa.FxW
open Go.RowKit

set_option maxHeartbeats 4000000 in
set_option maxRecDepth 100000 in
theorem sgrow_bad (o d p t now tol : Int) (h : Sx.okS o d p t = false ∨ (Sx.okS o d p t = true ∧ Sx.timeB now = false) ∨ (Sx.okS o d p t = true ∧ Sx.timeB now = true ∧ Sx.tolB tol = false)) (w : World) :
    Calls Try.prog 20 #[.agg #[.int .i64 o, .int .i64 d, .int .i64 p, .int .i64 t], .int .i64 now, .int .i64 tol] w (OfPost ⟨0, 0, 0, 0, 3⟩ w) := by
  rcases h with h | ⟨h, h1⟩ | ⟨h, h1, h2⟩
  · have C := Lib.hid (Sx.chk_no h)
    clear h
    go_enter Try.func20, Try.ntmps20
    go_wp2_with (first | (go_at_call 13; refine (scheck_any _ _ _ _ _).mono ?_; rw [C.out]; rintro e w1 ⟨rfl, hb⟩; obtain ⟨hc, hf⟩ := Hp.bcell hb; have hz := hb.size; (try simp at hz); have hz0 : w.heap.size < w1.heap.size := (by omega); have hz1 : w.heap.size + 1 < w1.heap.size := (by omega)) | (go_at_call 22; refine (istime_any _ _).mono ?_; rintro e w' ⟨rfl, rfl⟩) | (go_at_call 23; refine (istol_any _ _).mono ?_; rintro e w' ⟨rfl, rfl⟩))
    refine bodyPost_ret (v := .tuple #[.agg #[.int .i64 0, .int .i64 0, .int .i64 0, .int .i64 0], .int .i64 3]) (by simp [results, Try.results20, go_sem, hc, hz0, hz1]) rfl ⟨rfl, ?_⟩
    (repeat (first | exact Below.refl _ _ | refine Below.drew ?_ | refine Hp.drewN ?_ _ | refine Below.setCell ?_ (by simp; try omega) _ | refine Below.alloc ?_ (by simp; try omega) _ | (refine Hp.step ?_ (by assumption))))
  all_goals
    have C := Lib.hid (Sx.chk_ok h)
    clear h
    go_enter Try.func20, Try.ntmps20
    go_wp2_with (first | (go_at_call 13; refine (scheck_any _ _ _ _ _).mono ?_; rw [C.out]; rintro e w1 ⟨rfl, hb⟩; obtain ⟨hc, hf⟩ := Hp.bcell hb; have hz := hb.size; (try simp at hz); have hz0 : w.heap.size < w1.heap.size := (by omega); have hz1 : w.heap.size + 1 < w1.heap.size := (by omega)) | (go_at_call 22; refine (istime_any _ _).mono ?_; rintro e w' ⟨rfl, rfl⟩) | (go_at_call 23; refine (istol_any _ _).mono ?_; rintro e w' ⟨rfl, rfl⟩))
    refine bodyPost_ret (v := .tuple #[.agg #[.int .i64 0, .int .i64 0, .int .i64 0, .int .i64 0], .int .i64 3]) (by simp [results, Try.results20, go_sem, hc, hz0, hz1]) rfl ⟨rfl, ?_⟩
    (repeat (first | exact Below.refl _ _ | refine Below.drew ?_ | refine Hp.drewN ?_ _ | refine Below.setCell ?_ (by simp; try omega) _ | refine Below.alloc ?_ (by simp; try omega) _ | (refine Hp.step ?_ (by assumption))))
set_option maxHeartbeats 4000000 in
set_option maxRecDepth 100000 in
theorem sgrow_order (o d p t now tol : Int) (h : Sx.okS o d p t = true) (h1 : Sx.timeB now = true) (h2 : Sx.tolB tol = true) (h3 : now < t) (w : World) :
    Calls Try.prog 20 #[.agg #[.int .i64 o, .int .i64 d, .int .i64 p, .int .i64 t], .int .i64 now, .int .i64 tol] w (OfPost ⟨0, 0, 0, 0, 12⟩ w) := by
  have C := Lib.hid (Sx.chk_ok h)
  clear h
  go_enter Try.func20, Try.ntmps20
  go_wp2_with (first | (go_at_call 13; refine (scheck_any _ _ _ _ _).mono ?_; rw [C.out]; rintro e w1 ⟨rfl, hb⟩; obtain ⟨hc, hf⟩ := Hp.bcell hb; have hz := hb.size; (try simp at hz); have hz0 : w.heap.size < w1.heap.size := (by omega); have hz1 : w.heap.size + 1 < w1.heap.size := (by omega)) | (go_at_call 22; refine (istime_any _ _).mono ?_; rintro e w' ⟨rfl, rfl⟩) | (go_at_call 23; refine (istol_any _ _).mono ?_; rintro e w' ⟨rfl, rfl⟩))
  refine bodyPost_ret (v := .tuple #[.agg #[.int .i64 0, .int .i64 0, .int .i64 0, .int .i64 0], .int .i64 12]) (by simp [results, Try.results20, go_sem, hc, hz0, hz1]) rfl ⟨rfl, ?_⟩
  (repeat (first | exact Below.refl _ _ | refine Below.drew ?_ | refine Hp.drewN ?_ _ | refine Below.setCell ?_ (by simp; try omega) _ | refine Below.alloc ?_ (by simp; try omega) _ | (refine Hp.step ?_ (by assumption))))
set_option maxHeartbeats 4000000 in
set_option maxRecDepth 100000 in
theorem rgrow_bad (o d p t now tol : Int) (h : Sx.okS o d p t = false ∨ (Sx.okS o d p t = true ∧ Sx.timeB now = false) ∨ (Sx.okS o d p t = true ∧ Sx.timeB now = true ∧ Sx.tolB tol = false)) (w : World) :
    Calls Try.prog 21 #[.agg #[.int .i64 o, .int .i64 d, .int .i64 p, .int .i64 t], .int .i64 now, .int .i64 tol] w (OfPost ⟨0, 0, 0, 0, 3⟩ w) := by
  rcases h with h | ⟨h, h1⟩ | ⟨h, h1, h2⟩
  · have C := Lib.hid (Sx.chk_no h)
    clear h
    go_enter Try.func21, Try.ntmps21
    go_wp2_with (first | (go_at_call 14; refine (rcheck_any _ _ _ _ _).mono ?_; rw [C.out]; rintro e w1 ⟨rfl, hb⟩; obtain ⟨hc, hf⟩ := Hp.bcell hb; have hz := hb.size; (try simp at hz); have hz0 : w.heap.size < w1.heap.size := (by omega); have hz1 : w.heap.size + 1 < w1.heap.size := (by omega)) | (go_at_call 26; refine (ristime_any _ _).mono ?_; rintro e w' ⟨rfl, rfl⟩) | (go_at_call 27; refine (ristol_any _ _).mono ?_; rintro e w' ⟨rfl, rfl⟩))
    refine bodyPost_ret (v := .tuple #[.agg #[.int .i64 0, .int .i64 0, .int .i64 0, .int .i64 0], .int .i64 3]) (by simp [results, Try.results21, go_sem, hc, hz0, hz1]) rfl ⟨rfl, ?_⟩
    (repeat (first | exact Below.refl _ _ | refine Below.drew ?_ | refine Hp.drewN ?_ _ | refine Below.setCell ?_ (by simp; try omega) _ | refine Below.alloc ?_ (by simp; try omega) _ | (refine Hp.step ?_ (by assumption))))
  all_goals
    have C := Lib.hid (Sx.chk_ok h)
    clear h
    go_enter Try.func21, Try.ntmps21
    go_wp2_with (first | (go_at_call 14; refine (rcheck_any _ _ _ _ _).mono ?_; rw [C.out]; rintro e w1 ⟨rfl, hb⟩; obtain ⟨hc, hf⟩ := Hp.bcell hb; have hz := hb.size; (try simp at hz); have hz0 : w.heap.size < w1.heap.size := (by omega); have hz1 : w.heap.size + 1 < w1.heap.size := (by omega)) | (go_at_call 26; refine (ristime_any _ _).mono ?_; rintro e w' ⟨rfl, rfl⟩) | (go_at_call 27; refine (ristol_any _ _).mono ?_; rintro e w' ⟨rfl, rfl⟩))
    refine bodyPost_ret (v := .tuple #[.agg #[.int .i64 0, .int .i64 0, .int .i64 0, .int .i64 0], .int .i64 3]) (by simp [results, Try.results21, go_sem, hc, hz0, hz1]) rfl ⟨rfl, ?_⟩
    (repeat (first | exact Below.refl _ _ | refine Below.drew ?_ | refine Hp.drewN ?_ _ | refine Below.setCell ?_ (by simp; try omega) _ | refine Below.alloc ?_ (by simp; try omega) _ | (refine Hp.step ?_ (by assumption))))
set_option maxHeartbeats 4000000 in
set_option maxRecDepth 100000 in
theorem rgrow_order (o d p t now tol : Int) (h : Sx.okS o d p t = true) (h1 : Sx.timeB now = true) (h2 : Sx.tolB tol = true) (h3 : now < t) (w : World) :
    Calls Try.prog 21 #[.agg #[.int .i64 o, .int .i64 d, .int .i64 p, .int .i64 t], .int .i64 now, .int .i64 tol] w (OfPost ⟨0, 0, 0, 0, 12⟩ w) := by
  have C := Lib.hid (Sx.chk_ok h)
  clear h
  go_enter Try.func21, Try.ntmps21
  go_wp2_with (first | (go_at_call 14; refine (rcheck_any _ _ _ _ _).mono ?_; rw [C.out]; rintro e w1 ⟨rfl, hb⟩; obtain ⟨hc, hf⟩ := Hp.bcell hb; have hz := hb.size; (try simp at hz); have hz0 : w.heap.size < w1.heap.size := (by omega); have hz1 : w.heap.size + 1 < w1.heap.size := (by omega)) | (go_at_call 26; refine (ristime_any _ _).mono ?_; rintro e w' ⟨rfl, rfl⟩) | (go_at_call 27; refine (ristol_any _ _).mono ?_; rintro e w' ⟨rfl, rfl⟩))
  refine bodyPost_ret (v := .tuple #[.agg #[.int .i64 0, .int .i64 0, .int .i64 0, .int .i64 0], .int .i64 12]) (by simp [results, Try.results21, go_sem, hc, hz0, hz1]) rfl ⟨rfl, ?_⟩
  (repeat (first | exact Below.refl _ _ | refine Below.drew ?_ | refine Hp.drewN ?_ _ | refine Below.setCell ?_ (by simp; try omega) _ | refine Below.alloc ?_ (by simp; try omega) _ | (refine Hp.step ?_ (by assumption))))
end Go.Proofs.Ytjfchcjmfogijaa.FxW
