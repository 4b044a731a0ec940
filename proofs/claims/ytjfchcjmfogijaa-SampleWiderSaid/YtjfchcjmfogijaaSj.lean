/- Contracts of quad and awake of the statements about layer 21. -/
import Derived.Test.YtjfchcjmfogijaaSh
import Derived.Test.YtjfchcjmfogijaaSp
import Derived.Test.YtjfchcjmfogijaaSq
import Derived.Test.YtjfchcjmfogijaaQb
set_option linter.unusedVariables false
set_option linter.unusedSimpArgs false
namespace Go.Proofs.Ytjfchcjmfogijaa.FxW
open Go.RowKit

set_option maxHeartbeats 2000000 in
set_option maxRecDepth 100000 in
theorem quad_any (th ho ba mo cl of more : Int) (h1 : 0 ≤ th) (h2 : th ≤ 4294967295) (h3 : 0 ≤ ho) (h4 : ho ≤ 4294967295) (h5 : 0 ≤ ba) (h6 : ba ≤ 4294967295) (h7 : -2147483648 ≤ cl) (h8 : cl ≤ 2147483647) (h9 : -2147483648 ≤ of) (h10 : of ≤ 2147483647) (h11 : -2147483648 ≤ more) (h12 : more ≤ 2147483648) (w : World) :
    Calls Try.prog 19 #[.agg #[.int .u32 th, .int .u32 ho, .int .u32 ba, .int .i32 mo, .int .i32 cl, .int .i32 of], .int .i64 more] w fun e w' => e = .returned (.agg #[.int .i64 (cl - (th + ho + ba) - more), .int .i64 (cl + of - ba - ho), .int .i64 (cl + of - ba), .int .i64 cl]) ∧ Below w.heap.size w w' := by
  go_enter Try.func19, Try.ntmps19
  go_wp2
  refine bodyPost_ret (v := .agg #[.int .i64 (cl - (th + ho + ba) - more), .int .i64 (cl + of - ba - ho), .int .i64 (cl + of - ba), .int .i64 cl]) (by simp [results, Try.results19, go_sem]) rfl ⟨rfl, ?_⟩
  (repeat (first | exact Below.refl _ _ | refine Below.drew ?_ | refine Hp.drewN ?_ _ | refine Below.setCell ?_ (by first | (simp; done) | (simp; omega) | omega) _ | refine Below.alloc ?_ (by first | (simp; done) | (simp; omega) | omega) _ | (refine Hp.step ?_ (by assumption))))
theorem of_calls {f : FuncId} {args : Array Value} {w : World} {r r' : Sx.R5} (h : Calls Try.prog f args w (OfPost r w)) (e : r = r') : Calls Try.prog f args w (OfPost r' w) := by subst e; exact h
theorem below_calls {f : FuncId} {args : Array Value} {w : World} {v v' : Value} (h : Calls Try.prog f args w fun e w' => e = .returned v ∧ Below w.heap.size w w') (e : v = v') :
    Calls Try.prog f args w fun e w' => e = .returned v' ∧ Below w.heap.size w w' := by subst e; exact h
set_option maxHeartbeats 4000000 in
set_option maxRecDepth 100000 in
theorem awake21_any (w : World) :
    Calls Try.prog 12 #[] w fun e w' => e = .returned (.bool true) ∧ Below w.heap.size w w' := by
  have c1 := Lib.hid (fun w => of_calls (sof_any 10 27 30 20 1 0 w) (r' := ⟨13, 7, 1, 20, 0⟩) (by kernel_rfl))
  have c2 := Lib.hid (fun w => of_calls (sof_any 0 0 0 1 5 500000 w) (r' := ⟨-1, 5, 6, 1, 0⟩) (by kernel_rfl))
  have c3 := Lib.hid (fun w => below_calls (sdist_any 13 7 1 20 w) (v' := .int .i64 5) (by rw [show Sx.dist 13 7 1 20 = 5 by decide +kernel]))
  have c4 := Lib.hid (fun w => below_calls (sbounds_any 13 7 1 20 w) (v' := .agg #[.int .i64 8, .int .i64 18]) (by rw [show Sx.bLo 13 7 1 20 = 8 by decide +kernel, show Sx.bHi 13 7 1 20 = 18 by decide +kernel]))
  go_enter Try.func12, Try.ntmps12
  go_wp2_with (first
    | ((with_reducible refine (c1.out _).mono ?_); rintro e w1 ⟨rfl, hb1⟩; obtain ⟨hc1, hf1⟩ := Hp.bcell hb1)
    | ((with_reducible refine (c2.out _).mono ?_); rintro e w2 ⟨rfl, hb2⟩; obtain ⟨hc2, hf2⟩ := Hp.bcell hb2; have hy := hb2.size; simp at hy; have hy0 : w1.heap.size < w2.heap.size := (by omega); have hy1 : w1.heap.size < w2.heap.size + 1 := (by omega))
    | ((with_reducible refine (c3.out _).mono ?_); rintro e w3 ⟨rfl, hb3⟩; obtain ⟨hc3, hf3⟩ := Hp.bcell hb3; have hx := hb3.size; simp at hx; have hx0 : w1.heap.size < w3.heap.size := (by omega); have hx1 : w2.heap.size < w3.heap.size := (by omega))
    | ((with_reducible refine (c4.out _).mono ?_); rintro e w4 ⟨rfl, hb4⟩))
  go_ret
  refine ⟨rfl, ?_⟩
  have hs1 := hb1.size
  (repeat (first | exact Below.refl _ _ | refine Below.drew ?_ | refine Hp.drewN ?_ _ | refine Below.setCell ?_ (by first | (simp; done) | (simp; omega) | omega) _ | refine Below.alloc ?_ (by first | (simp; done) | (simp; omega) | omega) _ | (refine Hp.step ?_ (by assumption))))
end Go.Proofs.Ytjfchcjmfogijaa.FxW
