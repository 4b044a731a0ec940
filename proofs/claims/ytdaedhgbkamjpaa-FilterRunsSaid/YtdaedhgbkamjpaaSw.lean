/- Contracts of package sample. -/
import Derived.Test.YtdaedhgbkamjpaaFm
import Derived.Test.YtdaedhgbkamjpaaSx
import Derived.Test.YtdaedhgbkamjpaaHp
import Derived.StillTailTactics
import Derived.Deep.RegionHeld3
set_option linter.unusedVariables false
set_option linter.unusedSimpArgs false
namespace Go.Proofs.Ytdaedhgbkamjpaa.FxW
open Go.RowKit

set_option maxHeartbeats 2000000 in
theorem scheck_ok (o d p t : Int) (h : Sx.okS o d p t = true) (w : World) :
    Calls Try.prog 28 #[.agg #[.int .i64 o, .int .i64 d, .int .i64 p, .int .i64 t]] w fun e w' => e = .returned (.int .i64 0) ∧ Below w.heap.size w w' := by
  obtain ⟨h1, h2, h3, h4, h5, h6, h7, h8⟩ := Sx.okS_iff.1 h
  have e1 : clamp o (-4503599627370496) 4503599627370496 = o := by unfold clamp; rw [if_neg (by omega), if_neg (by omega)]
  have e2 : clamp d 0 9007199254740992 = d := by unfold clamp; rw [if_neg (by omega), if_neg (by omega)]
  have e3 : clamp p 0 9007199254740992 = p := by unfold clamp; rw [if_neg (by omega), if_neg (by omega)]
  have e4 : clamp t (-4503599627370496) 4503599627370496 = t := by unfold clamp; rw [if_neg (by omega), if_neg (by omega)]
  clear h
  go_enter Try.func28, Try.ntmps28
  go_wp2_with (fail)
  go_region_held3 (fun w' => w'.cell? ⟨w.heap.size, 0, none⟩ = some (.int .i64 o) ∧ w'.cell? ⟨w.heap.size, 1, none⟩ = some (.int .i64 d) ∧ w'.cell? ⟨w.heap.size, 2, none⟩ = some (.int .i64 p) ∧ w'.cell? ⟨w.heap.size, 3, none⟩ = some (.int .i64 t)) (go_keep)
    (first | (go_at_call 40; refine (clamp_any _ _ _ _).mono ?_; rintro e w' ⟨rfl, rfl⟩))
  all_goals
    go_wp2
    go_ret
    refine ⟨rfl, ?_⟩
    repeat (first | exact Below.refl _ _ | refine Below.drew ?_ | refine Hp.drewN ?_ _ | refine Below.setCell ?_ (by simp) _ | refine Below.alloc ?_ (by simp) _)
set_option maxHeartbeats 2000000 in
theorem scheck_no (o d p t : Int) (h : Sx.okS o d p t = false) (w : World) :
    Calls Try.prog 28 #[.agg #[.int .i64 o, .int .i64 d, .int .i64 p, .int .i64 t]] w fun e w' => e = .returned (.int .i64 3) ∧ Below w.heap.size w w' := by
  obtain ⟨x1, e1⟩ : ∃ x, clamp o (-4503599627370496) 4503599627370496 = x := ⟨_, rfl⟩
  obtain ⟨x2, e2⟩ : ∃ x, clamp d 0 9007199254740992 = x := ⟨_, rfl⟩
  obtain ⟨x3, e3⟩ : ∃ x, clamp p 0 9007199254740992 = x := ⟨_, rfl⟩
  obtain ⟨x4, e4⟩ : ∃ x, clamp t (-4503599627370496) 4503599627370496 = x := ⟨_, rfl⟩
  have hb : ¬ (x1 = o ∧ x2 = d ∧ x3 = p ∧ x4 = t) := by
    intro ⟨a, b, c, f⟩
    have : Sx.okS o d p t = true := Sx.okS_iff.2 (by
      unfold clamp at e1 e2 e3 e4
      split at e1 <;> split at e2 <;> split at e3 <;> split at e4 <;> (try split at e1) <;> (try split at e2) <;> (try split at e3) <;> (try split at e4) <;> omega)
    rw [h] at this; cases this
  clear h
  go_enter Try.func28, Try.ntmps28
  go_wp2_with (fail)
  go_region_held3 (fun w' => w'.cell? ⟨w.heap.size, 0, none⟩ = some (.int .i64 o) ∧ w'.cell? ⟨w.heap.size, 1, none⟩ = some (.int .i64 d) ∧ w'.cell? ⟨w.heap.size, 2, none⟩ = some (.int .i64 p) ∧ w'.cell? ⟨w.heap.size, 3, none⟩ = some (.int .i64 t)) (go_keep)
    (first | (go_at_call 40; refine (clamp_any _ _ _ _).mono ?_; rintro e w' ⟨rfl, rfl⟩))
  all_goals
    go_wp2
    all_goals
      go_ret
      refine ⟨rfl, ?_⟩
      repeat (first | exact Below.refl _ _ | refine Below.drew ?_ | refine Hp.drewN ?_ _ | refine Below.setCell ?_ (by simp) _ | refine Below.alloc ?_ (by simp) _)
theorem scheck_any (o d p t : Int) (w : World) :
    Calls Try.prog 28 #[.agg #[.int .i64 o, .int .i64 d, .int .i64 p, .int .i64 t]] w fun e w' => e = .returned (.int .i64 (Sx.chk o d p t)) ∧ Below w.heap.size w w' := by
  by_cases h : Sx.okS o d p t = true
  · rw [Sx.chk_ok h]; exact scheck_ok o d p t h w
  · have h : Sx.okS o d p t = false := by simpa using h
    rw [Sx.chk_no h]; exact scheck_no o d p t h w
end Go.Proofs.Ytdaedhgbkamjpaa.FxW
