/- Contracts of chapter 21 for chapter 22: Check of the reference, Grow of both. -/
import Derived.Test.YtdaedhgbkamjpaaSvs
import Derived.LoopTactic
import Derived.Deep.RegionLaw
set_option linter.unusedVariables false
set_option linter.unusedSimpArgs false
namespace Go.Proofs.Ytdaedhgbkamjpaa.FxW
open Go.RowKit

set_option maxHeartbeats 4000000 in
theorem rcheck_any (o d p t : Int) (w : World) :
    Calls Try.prog 32 #[.agg #[.int .i64 o, .int .i64 d, .int .i64 p, .int .i64 t]] w fun e w' => e = .returned (.int .i64 (Sx.chk o d p t)) ∧ Below w.heap.size w w' := by
  have cases : (Sx.chk o d p t = 0 ∧ Sx.timeB o = true ∧ Sx.timeB t = true ∧ ¬ d < 0 ∧ ¬ 9007199254740992 < d ∧ ¬ p < 0 ∧ ¬ 9007199254740992 < p) ∨
      (Sx.chk o d p t = 3 ∧ (Sx.timeB o = false ∨ (Sx.timeB o = true ∧ Sx.timeB t = false) ∨ (Sx.timeB o = true ∧ Sx.timeB t = true ∧ d < 0) ∨ (Sx.timeB o = true ∧ Sx.timeB t = true ∧ ¬ d < 0 ∧ 9007199254740992 < d) ∨
        (Sx.timeB o = true ∧ Sx.timeB t = true ∧ ¬ d < 0 ∧ ¬ 9007199254740992 < d ∧ p < 0) ∨ (Sx.timeB o = true ∧ Sx.timeB t = true ∧ ¬ d < 0 ∧ ¬ 9007199254740992 < d ∧ ¬ p < 0 ∧ 9007199254740992 < p))) := by
    by_cases h : Sx.okS o d p t = true
    · left
      obtain ⟨h1, h2, h3, h4, h5, h6, h7, h8⟩ := Sx.okS_iff.1 h
      exact ⟨Sx.chk_ok h, Sx.timeB_iff.2 ⟨h1, h2⟩, Sx.timeB_iff.2 ⟨h7, h8⟩, by omega, by omega, by omega, by omega⟩
    · right
      have h' : Sx.okS o d p t = false := by simpa using h
      refine ⟨Sx.chk_no h', ?_⟩
      rw [Sx.okS_iff] at h
      by_cases a1 : Sx.timeB o = true
      · by_cases a2 : Sx.timeB t = true
        · have b1 := Sx.timeB_iff.1 a1
          have b2 := Sx.timeB_iff.1 a2
          by_cases a3 : d < 0
          · exact .inr (.inr (.inl ⟨a1, a2, a3⟩))
          · by_cases a4 : 9007199254740992 < d
            · exact .inr (.inr (.inr (.inl ⟨a1, a2, a3, a4⟩)))
            · by_cases a5 : p < 0
              · exact .inr (.inr (.inr (.inr (.inl ⟨a1, a2, a3, a4, a5⟩))))
              · exact .inr (.inr (.inr (.inr (.inr ⟨a1, a2, a3, a4, a5, by omega⟩))))
        · exact .inr (.inl ⟨a1, by simpa using a2⟩)
      · exact .inl (by simpa using a1)
  rcases cases with ⟨k, x1, x2, x3, x4, x5, x6⟩ | ⟨k, x1 | ⟨x1, x2⟩ | ⟨x1, x2, x3⟩ | ⟨x1, x2, x3, x4⟩ | ⟨x1, x2, x3, x4, x5⟩ | ⟨x1, x2, x3, x4, x5, x6⟩⟩
  all_goals
    have K := Lib.hid k
    clear k
    go_enter Try.func32, Try.ntmps32
    go_wp2_with (go_at_call 47; refine (ristime_any _ _).mono ?_; rintro e w' ⟨rfl, rfl⟩)
    go_ret
    refine ⟨ret_int K.out.symm, ?_⟩
    (repeat (first | exact Below.refl _ _ | refine Below.drew ?_ | refine Hp.drewN ?_ _ | refine Below.setCell ?_ (by simp) _ | refine Below.alloc ?_ (by simp) _ | (refine Hp.step ?_ (by assumption))))
def OfPost (r : Sx.R5) (w : World) (e : Ending) (w' : World) : Prop := e = .returned (.tuple #[.agg #[.int .i64 r.o, .int .i64 r.d, .int .i64 r.p, .int .i64 r.t], .int .i64 r.e]) ∧ Below w.heap.size w w'
set_option maxHeartbeats 4000000 in
set_option maxRecDepth 100000 in
theorem sgrow_bad (o d p t now tol : Int) (h : Sx.okS o d p t = false ∨ (Sx.okS o d p t = true ∧ Sx.timeB now = false) ∨ (Sx.okS o d p t = true ∧ Sx.timeB now = true ∧ Sx.tolB tol = false)) (w : World) :
    Calls Try.prog 29 #[.agg #[.int .i64 o, .int .i64 d, .int .i64 p, .int .i64 t], .int .i64 now, .int .i64 tol] w (OfPost ⟨0, 0, 0, 0, 3⟩ w) := by
  rcases h with h | ⟨h, h1⟩ | ⟨h, h1, h2⟩
  · have C := Lib.hid (Sx.chk_no h)
    clear h
    go_enter Try.func29, Try.ntmps29
    go_wp2_with (first | (go_at_call 28; refine (scheck_any _ _ _ _ _).mono ?_; rw [C.out]; rintro e w1 ⟨rfl, hb⟩; obtain ⟨hc, hf⟩ := Hp.bcell hb; have hz := hb.size; (try simp at hz); have hz0 : w.heap.size < w1.heap.size := (by omega); have hz1 : w.heap.size + 1 < w1.heap.size := (by omega)) | (go_at_call 41; refine (istime_any _ _).mono ?_; rintro e w' ⟨rfl, rfl⟩) | (go_at_call 42; refine (istol_any _ _).mono ?_; rintro e w' ⟨rfl, rfl⟩))
    refine bodyPost_ret (v := .tuple #[.agg #[.int .i64 0, .int .i64 0, .int .i64 0, .int .i64 0], .int .i64 3]) (by simp [results, Try.results29, go_sem, hc, hz0, hz1]) rfl ⟨rfl, ?_⟩
    (repeat (first | exact Below.refl _ _ | refine Below.drew ?_ | refine Hp.drewN ?_ _ | refine Below.setCell ?_ (by simp; try omega) _ | refine Below.alloc ?_ (by simp; try omega) _ | (refine Hp.step ?_ (by assumption))))
  all_goals
    have C := Lib.hid (Sx.chk_ok h)
    clear h
    go_enter Try.func29, Try.ntmps29
    go_wp2_with (first | (go_at_call 28; refine (scheck_any _ _ _ _ _).mono ?_; rw [C.out]; rintro e w1 ⟨rfl, hb⟩; obtain ⟨hc, hf⟩ := Hp.bcell hb; have hz := hb.size; (try simp at hz); have hz0 : w.heap.size < w1.heap.size := (by omega); have hz1 : w.heap.size + 1 < w1.heap.size := (by omega)) | (go_at_call 41; refine (istime_any _ _).mono ?_; rintro e w' ⟨rfl, rfl⟩) | (go_at_call 42; refine (istol_any _ _).mono ?_; rintro e w' ⟨rfl, rfl⟩))
    refine bodyPost_ret (v := .tuple #[.agg #[.int .i64 0, .int .i64 0, .int .i64 0, .int .i64 0], .int .i64 3]) (by simp [results, Try.results29, go_sem, hc, hz0, hz1]) rfl ⟨rfl, ?_⟩
    (repeat (first | exact Below.refl _ _ | refine Below.drew ?_ | refine Hp.drewN ?_ _ | refine Below.setCell ?_ (by simp; try omega) _ | refine Below.alloc ?_ (by simp; try omega) _ | (refine Hp.step ?_ (by assumption))))
set_option maxHeartbeats 4000000 in
set_option maxRecDepth 100000 in
theorem sgrow_order (o d p t now tol : Int) (h : Sx.okS o d p t = true) (h1 : Sx.timeB now = true) (h2 : Sx.tolB tol = true) (h3 : now < t) (w : World) :
    Calls Try.prog 29 #[.agg #[.int .i64 o, .int .i64 d, .int .i64 p, .int .i64 t], .int .i64 now, .int .i64 tol] w (OfPost ⟨0, 0, 0, 0, 12⟩ w) := by
  have C := Lib.hid (Sx.chk_ok h)
  clear h
  go_enter Try.func29, Try.ntmps29
  go_wp2_with (first | (go_at_call 28; refine (scheck_any _ _ _ _ _).mono ?_; rw [C.out]; rintro e w1 ⟨rfl, hb⟩; obtain ⟨hc, hf⟩ := Hp.bcell hb; have hz := hb.size; (try simp at hz); have hz0 : w.heap.size < w1.heap.size := (by omega); have hz1 : w.heap.size + 1 < w1.heap.size := (by omega)) | (go_at_call 41; refine (istime_any _ _).mono ?_; rintro e w' ⟨rfl, rfl⟩) | (go_at_call 42; refine (istol_any _ _).mono ?_; rintro e w' ⟨rfl, rfl⟩))
  refine bodyPost_ret (v := .tuple #[.agg #[.int .i64 0, .int .i64 0, .int .i64 0, .int .i64 0], .int .i64 12]) (by simp [results, Try.results29, go_sem, hc, hz0, hz1]) rfl ⟨rfl, ?_⟩
  (repeat (first | exact Below.refl _ _ | refine Below.drew ?_ | refine Hp.drewN ?_ _ | refine Below.setCell ?_ (by simp; try omega) _ | refine Below.alloc ?_ (by simp; try omega) _ | (refine Hp.step ?_ (by assumption))))
set_option maxHeartbeats 4000000 in
set_option maxRecDepth 100000 in
theorem rgrow_bad (o d p t now tol : Int) (h : Sx.okS o d p t = false ∨ (Sx.okS o d p t = true ∧ Sx.timeB now = false) ∨ (Sx.okS o d p t = true ∧ Sx.timeB now = true ∧ Sx.tolB tol = false)) (w : World) :
    Calls Try.prog 34 #[.agg #[.int .i64 o, .int .i64 d, .int .i64 p, .int .i64 t], .int .i64 now, .int .i64 tol] w (OfPost ⟨0, 0, 0, 0, 3⟩ w) := by
  rcases h with h | ⟨h, h1⟩ | ⟨h, h1, h2⟩
  · have C := Lib.hid (Sx.chk_no h)
    clear h
    go_enter Try.func34, Try.ntmps34
    go_wp2_with (first | (go_at_call 32; refine (rcheck_any _ _ _ _ _).mono ?_; rw [C.out]; rintro e w1 ⟨rfl, hb⟩; obtain ⟨hc, hf⟩ := Hp.bcell hb; have hz := hb.size; (try simp at hz); have hz0 : w.heap.size < w1.heap.size := (by omega); have hz1 : w.heap.size + 1 < w1.heap.size := (by omega)) | (go_at_call 47; refine (ristime_any _ _).mono ?_; rintro e w' ⟨rfl, rfl⟩) | (go_at_call 48; refine (ristol_any _ _).mono ?_; rintro e w' ⟨rfl, rfl⟩))
    refine bodyPost_ret (v := .tuple #[.agg #[.int .i64 0, .int .i64 0, .int .i64 0, .int .i64 0], .int .i64 3]) (by simp [results, Try.results34, go_sem, hc, hz0, hz1]) rfl ⟨rfl, ?_⟩
    (repeat (first | exact Below.refl _ _ | refine Below.drew ?_ | refine Hp.drewN ?_ _ | refine Below.setCell ?_ (by simp; try omega) _ | refine Below.alloc ?_ (by simp; try omega) _ | (refine Hp.step ?_ (by assumption))))
  all_goals
    have C := Lib.hid (Sx.chk_ok h)
    clear h
    go_enter Try.func34, Try.ntmps34
    go_wp2_with (first | (go_at_call 32; refine (rcheck_any _ _ _ _ _).mono ?_; rw [C.out]; rintro e w1 ⟨rfl, hb⟩; obtain ⟨hc, hf⟩ := Hp.bcell hb; have hz := hb.size; (try simp at hz); have hz0 : w.heap.size < w1.heap.size := (by omega); have hz1 : w.heap.size + 1 < w1.heap.size := (by omega)) | (go_at_call 47; refine (ristime_any _ _).mono ?_; rintro e w' ⟨rfl, rfl⟩) | (go_at_call 48; refine (ristol_any _ _).mono ?_; rintro e w' ⟨rfl, rfl⟩))
    refine bodyPost_ret (v := .tuple #[.agg #[.int .i64 0, .int .i64 0, .int .i64 0, .int .i64 0], .int .i64 3]) (by simp [results, Try.results34, go_sem, hc, hz0, hz1]) rfl ⟨rfl, ?_⟩
    (repeat (first | exact Below.refl _ _ | refine Below.drew ?_ | refine Hp.drewN ?_ _ | refine Below.setCell ?_ (by simp; try omega) _ | refine Below.alloc ?_ (by simp; try omega) _ | (refine Hp.step ?_ (by assumption))))
set_option maxHeartbeats 4000000 in
set_option maxRecDepth 100000 in
theorem rgrow_order (o d p t now tol : Int) (h : Sx.okS o d p t = true) (h1 : Sx.timeB now = true) (h2 : Sx.tolB tol = true) (h3 : now < t) (w : World) :
    Calls Try.prog 34 #[.agg #[.int .i64 o, .int .i64 d, .int .i64 p, .int .i64 t], .int .i64 now, .int .i64 tol] w (OfPost ⟨0, 0, 0, 0, 12⟩ w) := by
  have C := Lib.hid (Sx.chk_ok h)
  clear h
  go_enter Try.func34, Try.ntmps34
  go_wp2_with (first | (go_at_call 32; refine (rcheck_any _ _ _ _ _).mono ?_; rw [C.out]; rintro e w1 ⟨rfl, hb⟩; obtain ⟨hc, hf⟩ := Hp.bcell hb; have hz := hb.size; (try simp at hz); have hz0 : w.heap.size < w1.heap.size := (by omega); have hz1 : w.heap.size + 1 < w1.heap.size := (by omega)) | (go_at_call 47; refine (ristime_any _ _).mono ?_; rintro e w' ⟨rfl, rfl⟩) | (go_at_call 48; refine (ristol_any _ _).mono ?_; rintro e w' ⟨rfl, rfl⟩))
  refine bodyPost_ret (v := .tuple #[.agg #[.int .i64 0, .int .i64 0, .int .i64 0, .int .i64 0], .int .i64 12]) (by simp [results, Try.results34, go_sem, hc, hz0, hz1]) rfl ⟨rfl, ?_⟩
  (repeat (first | exact Below.refl _ _ | refine Below.drew ?_ | refine Hp.drewN ?_ _ | refine Below.setCell ?_ (by simp; try omega) _ | refine Below.alloc ?_ (by simp; try omega) _ | (refine Hp.step ?_ (by assumption))))
set_option maxHeartbeats 4000000 in
set_option maxRecDepth 100000 in
theorem sgrow_fin (o d p t now tol : Int) (h : Sx.okS o d p t = true) (h1 : Sx.timeB now = true) (h2 : Sx.tolB tol = true) (h3 : ¬ now < t) (ok : Bool) (hok : Sx.okS o d (p + Sx.gr (now - t) tol) now = ok) (w : World) :
    Calls Try.prog 29 #[.agg #[.int .i64 o, .int .i64 d, .int .i64 p, .int .i64 t], .int .i64 now, .int .i64 tol] w (OfPost (Sx.fin5 o d (p + Sx.gr (now - t) tol) now) w) := by
  have b := Sx.okS_iff.1 h
  have b1 := Sx.timeB_iff.1 h1
  have tb := Sx.tolB_iff.1 h2
  obtain ⟨_, g2, g3, _, _⟩ := Sx.gr_facts (now - t) tol (by omega) (by omega) tb.1 tb.2
  have s0 : IntKind.i64.wrap (now - t) = now - t := IntWalk.i64_in _ (by omega)
  have s4 : IntKind.i64.wrap (p + Sx.gr (now - t) tol) = p + Sx.gr (now - t) tol := IntWalk.i64_in _ (by omega)
  have C0 := Lib.hid (Sx.chk_ok h)
  clear h
  cases ok
  · have C := Lib.hid (Sx.chk_no hok)
    have F5 := Lib.hid (Sx.fin5_no hok)
    clear hok
    go_enter Try.func29, Try.ntmps29
    go_wp2_with (first | (go_at_call 28; refine (scheck_any _ _ _ _ _).mono ?_; rw [C0.out]; rintro e w1 ⟨rfl, hb⟩; obtain ⟨hc, hf⟩ := Hp.bcell hb; have hz := hb.size; (try simp at hz); have hz0 : w.heap.size < w1.heap.size := (by omega); have hz1 : w.heap.size + 1 < w1.heap.size := (by omega); have c0 : w1.cell? ⟨w.heap.size, 0, none⟩ = some (.int .i64 o) := (by rw [hc _ _ (by simp; try omega)]; simp); have c1 : w1.cell? ⟨w.heap.size, 1, none⟩ = some (.int .i64 d) := (by rw [hc _ _ (by simp; try omega)]; simp); have c2 : w1.cell? ⟨w.heap.size, 2, none⟩ = some (.int .i64 p) := (by rw [hc _ _ (by simp; try omega)]; simp); have c3 : w1.cell? ⟨w.heap.size, 3, none⟩ = some (.int .i64 t) := (by rw [hc _ _ (by simp; try omega)]; simp); have c4 : w1.cell? ⟨w.heap.size + 1, 0, none⟩ = some (.int .i64 0) := (by rw [hc _ _ (by simp; try omega)]; simp); have c5 : w1.cell? ⟨w.heap.size + 1, 1, none⟩ = some (.int .i64 0) := (by rw [hc _ _ (by simp; try omega)]; simp); have c6 : w1.cell? ⟨w.heap.size + 1, 2, none⟩ = some (.int .i64 0) := (by rw [hc _ _ (by simp; try omega)]; simp); have c7 : w1.cell? ⟨w.heap.size + 1, 3, none⟩ = some (.int .i64 0) := (by rw [hc _ _ (by simp; try omega)]; simp); have f0 : w1.frozen? ⟨w.heap.size, 0, none⟩ = false := (by rw [hf _ _ (by simp; try omega)]; simp); have f1 : w1.frozen? ⟨w.heap.size, 1, none⟩ = false := (by rw [hf _ _ (by simp; try omega)]; simp); have f2 : w1.frozen? ⟨w.heap.size, 2, none⟩ = false := (by rw [hf _ _ (by simp; try omega)]; simp); have f3 : w1.frozen? ⟨w.heap.size, 3, none⟩ = false := (by rw [hf _ _ (by simp; try omega)]; simp); have f4 : w1.frozen? ⟨w.heap.size + 1, 0, none⟩ = false := (by rw [hf _ _ (by simp; try omega)]; simp); have f5 : w1.frozen? ⟨w.heap.size + 1, 1, none⟩ = false := (by rw [hf _ _ (by simp; try omega)]; simp); have f6 : w1.frozen? ⟨w.heap.size + 1, 2, none⟩ = false := (by rw [hf _ _ (by simp; try omega)]; simp); have f7 : w1.frozen? ⟨w.heap.size + 1, 3, none⟩ = false := (by rw [hf _ _ (by simp; try omega)]; simp); have B1 : Below w.heap.size w w1 := (by (repeat (first | exact Below.refl _ _ | refine Below.drew ?_ | refine Hp.drewN ?_ _ | refine Below.setCell ?_ (by simp) _ | refine Below.alloc ?_ (by simp) _ | (refine Hp.step ?_ (by assumption))))); have HB1 := Lib.hid B1; clear hc hf hb B1 hz) | (go_at_call 41; refine (istime_any _ _).mono ?_; rintro e w' ⟨rfl, rfl⟩) | (go_at_call 42; refine (istol_any _ _).mono ?_; rintro e w' ⟨rfl, rfl⟩))
    go_region_law (first | (go_simp; go_at_call 43; refine (sgrowth_any _ _ (by omega) (by omega) (by omega) (by omega) _).mono ?_; rintro e w' ⟨rfl, nq2, rfl⟩))
    all_goals
      go_wp2_with (go_at_call 28; refine (scheck_any _ _ _ _ _).mono ?_; rw [C.out]; rintro e w4 ⟨rfl, hb2⟩; obtain ⟨hc2, hf2⟩ := Hp.bcell hb2; have hy := hb2.size; (try simp at hy); have hy0 : w.heap.size < w4.heap.size := (by omega); have hy1 : w.heap.size + 1 < w4.heap.size := (by omega))
      refine bodyPost_ret (v := .tuple #[.agg #[.int .i64 0, .int .i64 0, .int .i64 0, .int .i64 0], .int .i64 3]) (by simp [results, Try.results29, go_sem, hc2, hf2, hz0, hz1, hy0, hy1, c4, c5, c6, c7]) rfl ?_
      rw [F5.out]
      refine ⟨rfl, ?_⟩
      have HB1' := HB1.out
      (repeat (first | exact Below.refl _ _ | refine Below.drew ?_ | refine Hp.drewN ?_ _ | refine Below.setCell ?_ (by simp; try omega) _ | refine Below.alloc ?_ (by simp; try omega) _ | exact HB1' | (refine Hp.step ?_ (by assumption))))
  · have C := Lib.hid (Sx.chk_ok hok)
    have F5 := Lib.hid (Sx.fin5_ok hok)
    clear hok
    go_enter Try.func29, Try.ntmps29
    go_wp2_with (first | (go_at_call 28; refine (scheck_any _ _ _ _ _).mono ?_; rw [C0.out]; rintro e w1 ⟨rfl, hb⟩; obtain ⟨hc, hf⟩ := Hp.bcell hb; have hz := hb.size; (try simp at hz); have hz0 : w.heap.size < w1.heap.size := (by omega); have hz1 : w.heap.size + 1 < w1.heap.size := (by omega); have c0 : w1.cell? ⟨w.heap.size, 0, none⟩ = some (.int .i64 o) := (by rw [hc _ _ (by simp; try omega)]; simp); have c1 : w1.cell? ⟨w.heap.size, 1, none⟩ = some (.int .i64 d) := (by rw [hc _ _ (by simp; try omega)]; simp); have c2 : w1.cell? ⟨w.heap.size, 2, none⟩ = some (.int .i64 p) := (by rw [hc _ _ (by simp; try omega)]; simp); have c3 : w1.cell? ⟨w.heap.size, 3, none⟩ = some (.int .i64 t) := (by rw [hc _ _ (by simp; try omega)]; simp); have c4 : w1.cell? ⟨w.heap.size + 1, 0, none⟩ = some (.int .i64 0) := (by rw [hc _ _ (by simp; try omega)]; simp); have c5 : w1.cell? ⟨w.heap.size + 1, 1, none⟩ = some (.int .i64 0) := (by rw [hc _ _ (by simp; try omega)]; simp); have c6 : w1.cell? ⟨w.heap.size + 1, 2, none⟩ = some (.int .i64 0) := (by rw [hc _ _ (by simp; try omega)]; simp); have c7 : w1.cell? ⟨w.heap.size + 1, 3, none⟩ = some (.int .i64 0) := (by rw [hc _ _ (by simp; try omega)]; simp); have f0 : w1.frozen? ⟨w.heap.size, 0, none⟩ = false := (by rw [hf _ _ (by simp; try omega)]; simp); have f1 : w1.frozen? ⟨w.heap.size, 1, none⟩ = false := (by rw [hf _ _ (by simp; try omega)]; simp); have f2 : w1.frozen? ⟨w.heap.size, 2, none⟩ = false := (by rw [hf _ _ (by simp; try omega)]; simp); have f3 : w1.frozen? ⟨w.heap.size, 3, none⟩ = false := (by rw [hf _ _ (by simp; try omega)]; simp); have f4 : w1.frozen? ⟨w.heap.size + 1, 0, none⟩ = false := (by rw [hf _ _ (by simp; try omega)]; simp); have f5 : w1.frozen? ⟨w.heap.size + 1, 1, none⟩ = false := (by rw [hf _ _ (by simp; try omega)]; simp); have f6 : w1.frozen? ⟨w.heap.size + 1, 2, none⟩ = false := (by rw [hf _ _ (by simp; try omega)]; simp); have f7 : w1.frozen? ⟨w.heap.size + 1, 3, none⟩ = false := (by rw [hf _ _ (by simp; try omega)]; simp); have B1 : Below w.heap.size w w1 := (by (repeat (first | exact Below.refl _ _ | refine Below.drew ?_ | refine Hp.drewN ?_ _ | refine Below.setCell ?_ (by simp) _ | refine Below.alloc ?_ (by simp) _ | (refine Hp.step ?_ (by assumption))))); have HB1 := Lib.hid B1; clear hc hf hb B1 hz) | (go_at_call 41; refine (istime_any _ _).mono ?_; rintro e w' ⟨rfl, rfl⟩) | (go_at_call 42; refine (istol_any _ _).mono ?_; rintro e w' ⟨rfl, rfl⟩))
    go_region_law (first | (go_simp; go_at_call 43; refine (sgrowth_any _ _ (by omega) (by omega) (by omega) (by omega) _).mono ?_; rintro e w' ⟨rfl, nq2, rfl⟩))
    all_goals
      go_wp2_with (go_at_call 28; refine (scheck_any _ _ _ _ _).mono ?_; rw [C.out]; rintro e w4 ⟨rfl, hb2⟩; obtain ⟨hc2, hf2⟩ := Hp.bcell hb2; have hy := hb2.size; (try simp at hy); have hy0 : w.heap.size < w4.heap.size := (by omega); have hy1 : w.heap.size + 1 < w4.heap.size := (by omega))
      refine bodyPost_ret (v := .tuple #[.agg #[.int .i64 o, .int .i64 d, .int .i64 (p + Sx.gr (now - t) tol), .int .i64 now], .int .i64 0]) (by simp [results, Try.results29, go_sem, hc2, hf2, hz0, hz1, hy0, hy1, c4, c5, c6, c7]) rfl ?_
      rw [F5.out]
      refine ⟨rfl, ?_⟩
      have HB1' := HB1.out
      (repeat (first | exact Below.refl _ _ | refine Below.drew ?_ | refine Hp.drewN ?_ _ | refine Below.setCell ?_ (by simp; try omega) _ | refine Below.alloc ?_ (by simp; try omega) _ | exact HB1' | (refine Hp.step ?_ (by assumption))))
theorem sgrow_any (o d p t now tol : Int) (w : World) :
    Calls Try.prog 29 #[.agg #[.int .i64 o, .int .i64 d, .int .i64 p, .int .i64 t], .int .i64 now, .int .i64 tol] w (OfPost (Sx.growR o d p t now tol) w) := by
  cases h : Sx.okS o d p t
  · rw [Sx.growR_bad (by rw [h]; rfl)]; exact sgrow_bad o d p t now tol (.inl h) w
  · cases h1 : Sx.timeB now
    · rw [Sx.growR_bad (by rw [h, h1]; rfl)]; exact sgrow_bad o d p t now tol (.inr (.inl ⟨h, h1⟩)) w
    · cases h2 : Sx.tolB tol
      · rw [Sx.growR_bad (by rw [h, h1, h2]; rfl)]; exact sgrow_bad o d p t now tol (.inr (.inr ⟨h, h1, h2⟩)) w
      · by_cases h3 : now < t
        · rw [Sx.growR_order (by rw [h, h1, h2]; rfl) h3]; exact sgrow_order o d p t now tol h h1 h2 h3 w
        · rw [Sx.growR_fin (by rw [h, h1, h2]; rfl) h3]; exact sgrow_fin o d p t now tol h h1 h2 h3 _ rfl w
set_option maxHeartbeats 4000000 in
set_option maxRecDepth 100000 in
theorem rgrow_fin (o d p t now tol : Int) (h : Sx.okS o d p t = true) (h1 : Sx.timeB now = true) (h2 : Sx.tolB tol = true) (h3 : ¬ now < t) (ok : Bool) (hok : Sx.okS o d (p + Sx.gr (now - t) tol) now = ok) (w : World) :
    Calls Try.prog 34 #[.agg #[.int .i64 o, .int .i64 d, .int .i64 p, .int .i64 t], .int .i64 now, .int .i64 tol] w (OfPost (Sx.fin5 o d (p + Sx.gr (now - t) tol) now) w) := by
  have b := Sx.okS_iff.1 h
  have b1 := Sx.timeB_iff.1 h1
  have tb := Sx.tolB_iff.1 h2
  obtain ⟨_, g2, g3, _, _⟩ := Sx.gr_facts (now - t) tol (by omega) (by omega) tb.1 tb.2
  have s0 : IntKind.i64.wrap (now - t) = now - t := IntWalk.i64_in _ (by omega)
  have s4 : IntKind.i64.wrap (p + Sx.gr (now - t) tol) = p + Sx.gr (now - t) tol := IntWalk.i64_in _ (by omega)
  have C0 := Lib.hid (Sx.chk_ok h)
  clear h
  cases ok
  · have C := Lib.hid (Sx.chk_no hok)
    have F5 := Lib.hid (Sx.fin5_no hok)
    clear hok
    go_enter Try.func34, Try.ntmps34
    go_wp2_with (first | (go_at_call 32; refine (rcheck_any _ _ _ _ _).mono ?_; rw [C0.out]; rintro e w1 ⟨rfl, hb⟩; obtain ⟨hc, hf⟩ := Hp.bcell hb; have hz := hb.size; (try simp at hz); have hz0 : w.heap.size < w1.heap.size := (by omega); have hz1 : w.heap.size + 1 < w1.heap.size := (by omega); have c0 : w1.cell? ⟨w.heap.size, 0, none⟩ = some (.int .i64 o) := (by rw [hc _ _ (by simp; try omega)]; simp); have c1 : w1.cell? ⟨w.heap.size, 1, none⟩ = some (.int .i64 d) := (by rw [hc _ _ (by simp; try omega)]; simp); have c2 : w1.cell? ⟨w.heap.size, 2, none⟩ = some (.int .i64 p) := (by rw [hc _ _ (by simp; try omega)]; simp); have c3 : w1.cell? ⟨w.heap.size, 3, none⟩ = some (.int .i64 t) := (by rw [hc _ _ (by simp; try omega)]; simp); have c4 : w1.cell? ⟨w.heap.size + 1, 0, none⟩ = some (.int .i64 0) := (by rw [hc _ _ (by simp; try omega)]; simp); have c5 : w1.cell? ⟨w.heap.size + 1, 1, none⟩ = some (.int .i64 0) := (by rw [hc _ _ (by simp; try omega)]; simp); have c6 : w1.cell? ⟨w.heap.size + 1, 2, none⟩ = some (.int .i64 0) := (by rw [hc _ _ (by simp; try omega)]; simp); have c7 : w1.cell? ⟨w.heap.size + 1, 3, none⟩ = some (.int .i64 0) := (by rw [hc _ _ (by simp; try omega)]; simp); have f0 : w1.frozen? ⟨w.heap.size, 0, none⟩ = false := (by rw [hf _ _ (by simp; try omega)]; simp); have f1 : w1.frozen? ⟨w.heap.size, 1, none⟩ = false := (by rw [hf _ _ (by simp; try omega)]; simp); have f2 : w1.frozen? ⟨w.heap.size, 2, none⟩ = false := (by rw [hf _ _ (by simp; try omega)]; simp); have f3 : w1.frozen? ⟨w.heap.size, 3, none⟩ = false := (by rw [hf _ _ (by simp; try omega)]; simp); have f4 : w1.frozen? ⟨w.heap.size + 1, 0, none⟩ = false := (by rw [hf _ _ (by simp; try omega)]; simp); have f5 : w1.frozen? ⟨w.heap.size + 1, 1, none⟩ = false := (by rw [hf _ _ (by simp; try omega)]; simp); have f6 : w1.frozen? ⟨w.heap.size + 1, 2, none⟩ = false := (by rw [hf _ _ (by simp; try omega)]; simp); have f7 : w1.frozen? ⟨w.heap.size + 1, 3, none⟩ = false := (by rw [hf _ _ (by simp; try omega)]; simp); have B1 : Below w.heap.size w w1 := (by (repeat (first | exact Below.refl _ _ | refine Below.drew ?_ | refine Hp.drewN ?_ _ | refine Below.setCell ?_ (by simp) _ | refine Below.alloc ?_ (by simp) _ | (refine Hp.step ?_ (by assumption))))); have HB1 := Lib.hid B1; clear hc hf hb B1 hz) | (go_at_call 47; refine (ristime_any _ _).mono ?_; rintro e w' ⟨rfl, rfl⟩) | (go_at_call 48; refine (ristol_any _ _).mono ?_; rintro e w' ⟨rfl, rfl⟩))
    go_region_law (first | (go_simp; go_at_call 49; refine (rgrowth_any _ _ (by omega) (by omega) (by omega) (by omega) _).mono ?_; rintro e w' ⟨rfl, rfl⟩))
    all_goals
      go_wp2_with (go_at_call 32; refine (rcheck_any _ _ _ _ _).mono ?_; rw [C.out]; rintro e w4 ⟨rfl, hb2⟩; obtain ⟨hc2, hf2⟩ := Hp.bcell hb2; have hy := hb2.size; (try simp at hy); have hy0 : w.heap.size < w4.heap.size := (by omega); have hy1 : w.heap.size + 1 < w4.heap.size := (by omega))
      refine bodyPost_ret (v := .tuple #[.agg #[.int .i64 0, .int .i64 0, .int .i64 0, .int .i64 0], .int .i64 3]) (by simp [results, Try.results34, go_sem, hc2, hf2, hz0, hz1, hy0, hy1, c4, c5, c6, c7]) rfl ?_
      rw [F5.out]
      refine ⟨rfl, ?_⟩
      have HB1' := HB1.out
      (repeat (first | exact Below.refl _ _ | refine Below.drew ?_ | refine Hp.drewN ?_ _ | refine Below.setCell ?_ (by simp; try omega) _ | refine Below.alloc ?_ (by simp; try omega) _ | exact HB1' | (refine Hp.step ?_ (by assumption))))
  · have C := Lib.hid (Sx.chk_ok hok)
    have F5 := Lib.hid (Sx.fin5_ok hok)
    clear hok
    go_enter Try.func34, Try.ntmps34
    go_wp2_with (first | (go_at_call 32; refine (rcheck_any _ _ _ _ _).mono ?_; rw [C0.out]; rintro e w1 ⟨rfl, hb⟩; obtain ⟨hc, hf⟩ := Hp.bcell hb; have hz := hb.size; (try simp at hz); have hz0 : w.heap.size < w1.heap.size := (by omega); have hz1 : w.heap.size + 1 < w1.heap.size := (by omega); have c0 : w1.cell? ⟨w.heap.size, 0, none⟩ = some (.int .i64 o) := (by rw [hc _ _ (by simp; try omega)]; simp); have c1 : w1.cell? ⟨w.heap.size, 1, none⟩ = some (.int .i64 d) := (by rw [hc _ _ (by simp; try omega)]; simp); have c2 : w1.cell? ⟨w.heap.size, 2, none⟩ = some (.int .i64 p) := (by rw [hc _ _ (by simp; try omega)]; simp); have c3 : w1.cell? ⟨w.heap.size, 3, none⟩ = some (.int .i64 t) := (by rw [hc _ _ (by simp; try omega)]; simp); have c4 : w1.cell? ⟨w.heap.size + 1, 0, none⟩ = some (.int .i64 0) := (by rw [hc _ _ (by simp; try omega)]; simp); have c5 : w1.cell? ⟨w.heap.size + 1, 1, none⟩ = some (.int .i64 0) := (by rw [hc _ _ (by simp; try omega)]; simp); have c6 : w1.cell? ⟨w.heap.size + 1, 2, none⟩ = some (.int .i64 0) := (by rw [hc _ _ (by simp; try omega)]; simp); have c7 : w1.cell? ⟨w.heap.size + 1, 3, none⟩ = some (.int .i64 0) := (by rw [hc _ _ (by simp; try omega)]; simp); have f0 : w1.frozen? ⟨w.heap.size, 0, none⟩ = false := (by rw [hf _ _ (by simp; try omega)]; simp); have f1 : w1.frozen? ⟨w.heap.size, 1, none⟩ = false := (by rw [hf _ _ (by simp; try omega)]; simp); have f2 : w1.frozen? ⟨w.heap.size, 2, none⟩ = false := (by rw [hf _ _ (by simp; try omega)]; simp); have f3 : w1.frozen? ⟨w.heap.size, 3, none⟩ = false := (by rw [hf _ _ (by simp; try omega)]; simp); have f4 : w1.frozen? ⟨w.heap.size + 1, 0, none⟩ = false := (by rw [hf _ _ (by simp; try omega)]; simp); have f5 : w1.frozen? ⟨w.heap.size + 1, 1, none⟩ = false := (by rw [hf _ _ (by simp; try omega)]; simp); have f6 : w1.frozen? ⟨w.heap.size + 1, 2, none⟩ = false := (by rw [hf _ _ (by simp; try omega)]; simp); have f7 : w1.frozen? ⟨w.heap.size + 1, 3, none⟩ = false := (by rw [hf _ _ (by simp; try omega)]; simp); have B1 : Below w.heap.size w w1 := (by (repeat (first | exact Below.refl _ _ | refine Below.drew ?_ | refine Hp.drewN ?_ _ | refine Below.setCell ?_ (by simp) _ | refine Below.alloc ?_ (by simp) _ | (refine Hp.step ?_ (by assumption))))); have HB1 := Lib.hid B1; clear hc hf hb B1 hz) | (go_at_call 47; refine (ristime_any _ _).mono ?_; rintro e w' ⟨rfl, rfl⟩) | (go_at_call 48; refine (ristol_any _ _).mono ?_; rintro e w' ⟨rfl, rfl⟩))
    go_region_law (first | (go_simp; go_at_call 49; refine (rgrowth_any _ _ (by omega) (by omega) (by omega) (by omega) _).mono ?_; rintro e w' ⟨rfl, rfl⟩))
    all_goals
      go_wp2_with (go_at_call 32; refine (rcheck_any _ _ _ _ _).mono ?_; rw [C.out]; rintro e w4 ⟨rfl, hb2⟩; obtain ⟨hc2, hf2⟩ := Hp.bcell hb2; have hy := hb2.size; (try simp at hy); have hy0 : w.heap.size < w4.heap.size := (by omega); have hy1 : w.heap.size + 1 < w4.heap.size := (by omega))
      refine bodyPost_ret (v := .tuple #[.agg #[.int .i64 o, .int .i64 d, .int .i64 (p + Sx.gr (now - t) tol), .int .i64 now], .int .i64 0]) (by simp [results, Try.results34, go_sem, hc2, hf2, hz0, hz1, hy0, hy1, c4, c5, c6, c7]) rfl ?_
      rw [F5.out]
      refine ⟨rfl, ?_⟩
      have HB1' := HB1.out
      (repeat (first | exact Below.refl _ _ | refine Below.drew ?_ | refine Hp.drewN ?_ _ | refine Below.setCell ?_ (by simp; try omega) _ | refine Below.alloc ?_ (by simp; try omega) _ | exact HB1' | (refine Hp.step ?_ (by assumption))))
theorem rgrow_any (o d p t now tol : Int) (w : World) :
    Calls Try.prog 34 #[.agg #[.int .i64 o, .int .i64 d, .int .i64 p, .int .i64 t], .int .i64 now, .int .i64 tol] w (OfPost (Sx.growR o d p t now tol) w) := by
  cases h : Sx.okS o d p t
  · rw [Sx.growR_bad (by rw [h]; rfl)]; exact rgrow_bad o d p t now tol (.inl h) w
  · cases h1 : Sx.timeB now
    · rw [Sx.growR_bad (by rw [h, h1]; rfl)]; exact rgrow_bad o d p t now tol (.inr (.inl ⟨h, h1⟩)) w
    · cases h2 : Sx.tolB tol
      · rw [Sx.growR_bad (by rw [h, h1, h2]; rfl)]; exact rgrow_bad o d p t now tol (.inr (.inr ⟨h, h1, h2⟩)) w
      · by_cases h3 : now < t
        · rw [Sx.growR_order (by rw [h, h1, h2]; rfl) h3]; exact rgrow_order o d p t now tol h h1 h2 h3 w
        · rw [Sx.growR_fin (by rw [h, h1, h2]; rfl) h3]; exact rgrow_fin o d p t now tol h h1 h2 h3 _ rfl w
end Go.Proofs.Ytdaedhgbkamjpaa.FxW
