/- Contracts of package replay: has, Top, refusal, Can. -/
import Derived.Test.YthmkckdjddgmhaaPh
set_option linter.unusedVariables false
set_option linter.unusedSimpArgs false
namespace Go.Proofs.Ythmkckdjddgmhaa.PxW
open Go.RowKit

theorem and_one (x : Nat) (hx : x < 18446744073709551616) : bits .and .u64 (x : Int) 1 = ((x % 2 : Nat) : Int) := by
  have h := u64_and_nat x 1 hx (by decide)
  rw [nat_mask1] at h; exact h
theorem has_bit (B q r : Nat) (hr : r < 64) : (bits .and .u64 ((Px.wd B q : Int) / 2 ^ r) 1 != 0) = B.testBit (64 * q + r) := by
  have e : ((Px.wd B q : Int) / 2 ^ r) = ((Px.wd B q / 2 ^ r : Nat) : Int) := by simp
  rw [e, and_one _ (Nat.lt_of_le_of_lt (Nat.div_le_self _ _) (Px.wd_lt _ _)), Px.bit_of B q r hr]
  cases B.testBit (64 * q + r) <;> rfl
set_option maxHeartbeats 1000000 in
theorem has_any {b : Nat} {size next : Int} {B : Nat} (x : Int) (h0 : 0 ≤ x) (h1 : x < 256) (w : World) (W : Win w b size next B) :
    Calls Try.prog 25 #[.pointer (some ⟨b, 0, none⟩), .int .i64 x] w fun e w' => e = .returned (.bool (B.testBit x.toNat)) ∧ w = w' := by
  have c2 := W.c2; have c3 := W.c3; have c4 := W.c4; have c5 := W.c5
  obtain ⟨r, hr⟩ : ∃ r : Nat, x % 64 = (r : Int) := ⟨(x % 64).toNat, by omega⟩
  have hr64 : r < 64 := by omega
  have : x / 64 = 0 ∨ x / 64 = 1 ∨ x / 64 = 2 ∨ x / 64 = 3 := by omega
  rcases this with hq | hq | hq | hq
  · have H := has_bit B 0 r hr64
    rw [show 64 * 0 + r = x.toNat by omega] at H
    go_enter Try.func25, Try.ntmps25
    go_wp2
    go_ret
    exact ⟨rfl, rfl⟩
  · have H := has_bit B 1 r hr64
    rw [show 64 * 1 + r = x.toNat by omega] at H
    go_enter Try.func25, Try.ntmps25
    go_wp2
    go_ret
    exact ⟨rfl, rfl⟩
  · have H := has_bit B 2 r hr64
    rw [show 64 * 2 + r = x.toNat by omega] at H
    go_enter Try.func25, Try.ntmps25
    go_wp2
    go_ret
    exact ⟨rfl, rfl⟩
  · have H := has_bit B 3 r hr64
    rw [show 64 * 3 + r = x.toNat by omega] at H
    go_enter Try.func25, Try.ntmps25
    go_wp2
    go_ret
    exact ⟨rfl, rfl⟩
end Go.Proofs.Ythmkckdjddgmhaa.PxW
