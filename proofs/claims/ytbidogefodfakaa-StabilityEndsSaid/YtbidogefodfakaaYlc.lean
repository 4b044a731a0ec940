/- Contracts of layer 48: line; the law StabilityBlind. -/
import Derived.Test.YtbidogefodfakaaYlb
import Derived.Test.YtbidogefodfakaaYy
set_option linter.unusedVariables false
set_option linter.unusedSimpArgs false
namespace Go.Proofs.Ytbidogefodfakaa.YxW
open Go.RowKit Ls Orw Rw
def xs (zs : List Int) (i : Nat) : Int := zs.getD i 0
theorem xs_bd {w : World} {a : Option Addr} {n cap : Nat} {zs : List Int} (S : In.IsInts .i32 w a n cap zs) : ∀ i, i < n → -2147483648 ≤ xs zs i ∧ xs zs i ≤ 2147483647 := fun i hi => by
  obtain ⟨_, _, _, _, _, hw⟩ := S.elem i hi
  exact Hp.i32_bd hw
/-- a slice of 32-bit integers in a later world -/
structure I32 (w : World) (a : Option Addr) (n : Nat) (x : Nat → Int) : Prop where
  cells : ∀ i, i < n → ∃ b o, a = some ⟨b, o, none⟩ ∧ b < w.heap.size ∧ w.cell? ⟨b, o + i, none⟩ = some (.int .i32 (x i))
theorem I32.of {w : World} {a : Option Addr} {n cap : Nat} {zs : List Int} (S : In.IsInts .i32 w a n cap zs) : I32 w a n (xs zs) :=
  ⟨fun i hi => by obtain ⟨b, o, h1, h2, h3, _⟩ := S.elem i hi; exact ⟨b, o, h1, h2, h3⟩⟩
theorem I32.later {w w' : World} {a : Option Addr} {n : Nat} {x : Nat → Int} (h : I32 w a n x) (k : Below w.heap.size w w') : I32 w' a n x :=
  ⟨fun i hi => by
    obtain ⟨b, o, h1, h2, h3⟩ := h.cells i hi
    exact ⟨b, o, h1, Nat.lt_of_lt_of_le h2 k.size, (k.cell (p := ⟨b, o + i, none⟩) h2).trans h3⟩⟩
theorem row_cap {w : World} {base : Nat} {v : Value} {zs : List Int} (h : Row w base v zs) {a : Option Addr} {n cap : Nat} (hv : v = .slice a n cap) : n ≤ cap ∧ cap ≤ 9223372036854775807 := by
  subst hv
  rcases h.2 with ⟨h1, h2⟩ | ⟨g, c, cur, h1, _, _, h2, h3, _⟩
  · injection h1 with _ e1 e2; omega
  · injection h1 with _ e1 e2; unfold maxLen at h3; omega
set_option maxHeartbeats 4000000 in
theorem line_any (a : Option Addr) (n cap : Nat) (x : Nat → Int) (A B : Int) (w : World) (S : I32 w a n x) (hlc : n ≤ cap) (hcc : cap ≤ 9223372036854775807) (h0 : a = none → n = 0 ∧ cap = 0) (hx : ∀ i, i < n → -2147483648 ≤ x i ∧ x i ≤ 2147483647)
    (a1 : -2147483648 ≤ A) (a2 : A ≤ 2147483647) (b1 : -32768 ≤ B) (b2 : B ≤ 32767) :
    Calls Try.prog 22 #[.slice a n cap, .int .i64 A, .int .i64 B] w fun e w' => ∃ v cp, e = .returned (.slice v (min n 1000) cp) ∧ (min n 1000 ≤ cp ∧ cp ≤ 9223372036854775807) ∧ Is w' v (min n 1000) (Yx.lin x A B) ∧ (v = none ∨ ∃ g, v = some ⟨g, 0, none⟩ ∧ w.heap.size ≤ g) ∧ Below w.heap.size w w' := by
  have hS := Lib.hid S; have HX := Lib.hid hx
  rcases a with _ | ad
  · obtain ⟨rfl, rfl⟩ := h0 rfl
    clear S h0 hx
    have hmin : min (0 : Int) 1000 = 0 := by decide
    go_enter Try.func22, Try.ntmps22
    go_wp2_with (fail)
    go_loopw [16, 7] (fun c d wr => c = .int .i64 0 ∧ d = .slice none 0 0 ∧ wr = w) (fun c _ _ => 0)
    case atStart => exact ⟨rfl, rfl, rfl⟩
    case round =>
      obtain ⟨rfl, rfl, rfl⟩ := hrel
      go_wp2_with (fail)
      go_ret
      exact ⟨none, 0, rfl, by omega, ⟨.inl rfl⟩, .inl rfl, Below.refl _ _⟩
  · obtain ⟨K, hK⟩ : ∃ K, min n 1000 = K := ⟨_, rfl⟩
    have hmin : min (n : Int) 1000 = (K : Int) := by omega
    have hmin2 : (if (1000 : Int) < (n : Int) then (1000 : Int) else (n : Int)) = (K : Int) := by split <;> omega
    have hKn : K ≤ n := by omega
    have hKm : K ≤ 1000 := by omega
    have k1 : (K : Int) ≤ (cap : Int) := by omega
    have k2 : (cap : Int) ≤ 9223372036854775807 := by omega
    have k3 : (K : Int) ≤ 1000 := by omega
    rw [hK]
    clear S h0 hx hK
    go_enter Try.func22, Try.ntmps22
    go_wp2_with (fail)
    go_loopw [16, 7] (fun c d wr => ∃ k : Nat, k ≤ K ∧ c = .int .i64 k ∧ Row wr w.heap.size d ((List.range k).map (Yx.lin x A B)) ∧ Below w.heap.size w wr) (fun c _ _ => K - (intOf c).toNat)
    case atStart => exact ⟨0, by omega, rfl, Row.nil _ _, Below.refl _ _⟩
    case round =>
      obtain ⟨k, hk, rfl, hR, hb⟩ := hrel
      have HR := Lib.hid hR; have HBl := Lib.hid hb
      have hz := hb.size
      clear hR hb
      by_cases hlt : k < K
      · obtain ⟨b, o, hab, _, c0⟩ := (hS.out.later HBl.out).cells k (by omega)
        obtain rfl : ad = ⟨b, o, none⟩ := by simpa using hab
        have hb := HX.out k (by omega)
        have HL := Lib.hid (show Yx.lin x A B k = x k + A + B * k from rfl)
        obtain ⟨v, hv⟩ : ∃ v, x k = v := ⟨_, rfl⟩
        have HV := Lib.hid hv
        rw [hv] at c0 hb
        have v1 := hb.1; have v2 := hb.2
        have p1 := Int.mul_le_mul_of_nonneg_right (a := B) (b := 32767) (c := (k : Int)) b2 (by omega)
        have p2 := Int.mul_le_mul_of_nonneg_right (a := -32768) (b := B) (c := (k : Int)) b1 (by omega)
        have p3 : B * (k : Int) ≤ 32767000 := by omega
        have p4 : -32768000 ≤ B * (k : Int) := by omega
        have AP := Lib.hid (Ap.mk' HR.out hz (v + A + B * k))
        have BX := Lib.hid (Below.alloc HBl.out hz (.cells #[.int .i64 (v + A + B * k)] 3))
        have sm := Lib.hid (show ((List.range k).map (Yx.lin x A B)).length ≤ 1000000 by simp; omega)
        clear hv hb p1 p2 hab
        go_wp2_with (at_builtin; refine append_int rfl (.tmp 21) (.tmp 30) rfl rfl AP.out.row ⟨wr.heap.size, 0, none⟩ rfl AP.out.cell sm.out AP.out.base ?_; intro v2 w2 R2 G2; have HR2 := Lib.hid R2; have HG2 := Lib.hid G2; clear R2 G2)
        go_roundw
        case rel => exact ⟨k + 1, by omega, by go_num, by rw [range_succ, HL.out, HV.out]; exact HR2.out, Row.below AP.out.row (Nat.le_refl _) HG2.out BX.out AP.out.base⟩
        case measure => simp [intOf]; omega
      · obtain rfl : k = K := by omega
        go_wp2_with (fail)
        go_ret
        obtain ⟨v, cp, hv, hI⟩ := is_of_row HR.out
        refine ⟨v, cp, by rw [hv] <;> rfl, row_cap HR.out hv, hI, ?_, HBl.out⟩
        rcases HR.out.form with ⟨h1, _⟩ | ⟨g, c, _, h1, h2, _⟩
        · rw [hv] at h1; injection h1 with h1 _ _; exact .inl h1
        · rw [hv] at h1; injection h1 with h1 _ _; exact .inr ⟨g, h1, h2⟩
end Go.Proofs.Ytbidogefodfakaa.YxW
