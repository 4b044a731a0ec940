/- slices.Equal on lists of integers that read the same. -/
import Derived.Test.YtieggiplbghecaaLs
import Derived.LoopTactic
import Derived.BigQuiet
import Derived.Deep.QuietTactic
set_option linter.unusedVariables false
set_option linter.unusedSimpArgs false
namespace Go.Proofs.Ytieggiplbghecaa.Ls
open Go.RowKit
set_option maxHeartbeats 2000000 in
theorem equal_same {a b : Option Addr} {n ca cb : Nat} {x : Nat → Int} (w : World) (h1 : Is w a n x) (h2 : Is w b n x) (hl : n ≤ 9223372036854775807) :
    Calls Try.prog 22 #[.slice a n ca, .slice b n cb] w fun e w' => e = .returned (.bool true) ∧ ∃ n, w' = w.drewN n := by
  have H1 := Lib.hid h1; have H2 := Lib.hid h2
  clear h1 h2
  go_enter Try.func22, Try.ntmps22
  go_wp2
  go_loopw [13] (fun c wr => ∃ k m : Nat, k ≤ n ∧ c = .int .i64 k ∧ wr = w.drewN m) (fun c _ => n - (intOf c).toNat)
  case atStart => exact ⟨0, 0, by omega, rfl, rfl⟩
  case round =>
    obtain ⟨k, m, hk, rfl, rfl⟩ := hrel
    by_cases hlt : k < n
    · obtain ⟨g1, o1, rfl, _, d1⟩ := H1.out.elem hlt
      obtain ⟨g2, o2, rfl, _, d2⟩ := H2.out.elem hlt
      obtain ⟨v, hv⟩ : ∃ v, x k = v := ⟨_, rfl⟩
      rw [hv] at d1 d2
      clear hv
      go_wp2
      go_quiet (fail)
      go_wp2
      go_roundw
      case rel => exact ⟨k + 1, _, by omega, by go_num, rfl⟩
      case measure => simp [intOf]; omega
    · go_wp2
      go_ret
      exact ⟨rfl, _, rfl⟩
end Go.Proofs.Ytieggiplbghecaa.Ls
