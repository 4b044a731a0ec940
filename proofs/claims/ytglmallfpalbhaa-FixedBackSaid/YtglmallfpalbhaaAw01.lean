/- The contract of awake of the statements about layer 1: it returns true. -/
import Derived.Test.YtglmallfpalbhaaRn
import Derived.Test.YtglmallfpalbhaaFn
import Derived.Test.YtglmallfpalbhaaFm
import Derived.Deep.RegionWith
set_option linter.unusedVariables false
namespace Go.Proofs.Ytglmallfpalbhaa.FxW
open Go.RowKit

theorem quiet_calls {f : FuncId} {args : Array Value} {w : World} {v v' : Value} (h : Calls Try.prog f args w fun e w' => e = .returned v ∧ ∃ n, w' = w.drewN n) (e : v = v') :
    Calls Try.prog f args w fun e w' => e = .returned v' ∧ ∃ n, w' = w.drewN n := by subst e; exact h
theorem same_calls {f : FuncId} {args : Array Value} {w : World} {v v' : Value} (h : Calls Try.prog f args w fun e w' => e = .returned v ∧ w = w') (e : v = v') :
    Calls Try.prog f args w fun e w' => e = .returned v' ∧ w = w' := by subst e; exact h
theorem i64_bd {x : Int} (h : (Lit.int .i64 x).wf = true) : -9223372036854775808 ≤ x ∧ x ≤ 9223372036854775807 := by
  simpa [Lit.wf, IntKind.min, IntKind.max, IntKind.signed, IntKind.bits] using h
theorem grown_of {w w' : World} (h : ∃ n, w' = w.drewN n) : Grown w w' := by
  obtain ⟨n, rfl⟩ := h; exact Grown.refl w
theorem val_ib {k : IntKind} {a b : Int} {c d : Bool} (h : a = b) (h' : c = d) : Value.tuple #[.int k a, .bool c] = .tuple #[.int k b, .bool d] := by rw [h, h']
set_option maxHeartbeats 2000000 in
set_option maxRecDepth 100000 in
theorem awake_any (w : World) :
    Calls Try.prog 16 #[] w fun e w' => e = .returned (.bool true) ∧ ∃ n, w' = w.drewN n := by
  have c1 := Lib.hid (fun w => quiet_calls (floor_any (-7) 2 (by omega) (by omega) (by omega) (by omega) w) (v' := .tuple #[.int .i64 (-4), .bool true]) (val_ib (by decide) (by decide)))
  have c2 := Lib.hid (fun w => quiet_calls (ceil_any (-7) 2 (by omega) (by omega) (by omega) (by omega) w) (v' := .tuple #[.int .i64 (-3), .bool true]) (val_ib (by decide) (by decide)))
  have c3 := Lib.hid (fun w => quiet_calls (near_any (-7) 2 (by omega) (by omega) (by omega) (by omega) w) (v' := .tuple #[.int .i64 (-4), .bool true]) (val_ib (by decide) (by decide)))
  have c4 := Lib.hid (fun w => quiet_calls (near_any 5 2 (by omega) (by omega) (by omega) (by omega) w) (v' := .tuple #[.int .i64 2, .bool true]) (val_ib (by decide) (by decide)))
  have c5 := Lib.hid (fun w => quiet_calls (floor_any (-9223372036854775808) (-1) (by omega) (by omega) (by omega) (by omega) w) (v' := .tuple #[.int .i64 0, .bool false]) (val_ib (by decide) (by decide)))
  have c6 := Lib.hid (fun w => quiet_calls (muldiv_any 9000000000000000000 3 9 (by omega) (by omega) (by omega) (by omega) (by omega) (by omega) w) (v' := .tuple #[.int .i64 3000000000000000000, .bool true]) (val_ib (by decide) (by decide)))
  have c7 := Lib.hid (fun w => same_calls (sqrt_int 99 (by omega) (by omega) w) (v' := .tuple #[.int .i64 9, .bool true]) (val_ib (Fx.isq_unique (by omega) (by omega) (by omega)) rfl))
  have c8 := Lib.hid (fun w => quiet_calls (scale_any (-1) 1 (by omega) (by omega) (by omega) (by omega) w) (v' := .tuple #[.int .i64 (-2), .bool true]) (val_ib (by decide) (by decide)))
  have c9 := Lib.hid (fun w => quiet_calls (unscale_any 1000500000 500000 (by omega) (by omega) (by omega) (by omega) w) (v' := .tuple #[.int .i64 1000000000, .bool true]) (val_ib (by decide) (by decide)))
  have c10 := Lib.hid (fun w => same_calls (v := .int .i64 (clamp 5 7 3)) (clamp_any 5 7 3 w) (v' := .int .i64 7) rfl)
  go_enter Try.func16, Try.ntmps16
  go_wp2_with (first
    | ((with_reducible refine (c1.out _).mono ?_); rintro e w' ⟨rfl, n1, rfl⟩)
    | ((with_reducible refine (c2.out _).mono ?_); rintro e w' ⟨rfl, n2, rfl⟩)
    | ((with_reducible refine (c3.out _).mono ?_); rintro e w' ⟨rfl, n3, rfl⟩)
    | ((with_reducible refine (c4.out _).mono ?_); rintro e w' ⟨rfl, n4, rfl⟩)
    | ((with_reducible refine (c5.out _).mono ?_); rintro e w' ⟨rfl, n5, rfl⟩)
    | ((with_reducible refine (c6.out _).mono ?_); rintro e w' ⟨rfl, n6, rfl⟩)
    | ((with_reducible refine (c7.out _).mono ?_); rintro e w' ⟨rfl, rfl⟩)
    | ((with_reducible refine (c8.out _).mono ?_); rintro e w' ⟨rfl, n8, rfl⟩)
    | ((with_reducible refine (c9.out _).mono ?_); rintro e w' ⟨rfl, n9, rfl⟩)
    | ((with_reducible refine (c10.out _).mono ?_); rintro e w' ⟨rfl, rfl⟩))
  go_ret
  exact ⟨rfl, _, rfl⟩
end Go.Proofs.Ytglmallfpalbhaa.FxW
