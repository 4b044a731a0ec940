/- Plain numbers: the quotient of two words by one, digit by digit (what math/bits.Div64 computes), and the quotient bit by bit. -/
import Derived.Lib.BitFns
set_option linter.unusedVariables false
set_option linter.unusedSimpArgs false
namespace Go.Proofs.Ytdaedhgbkamjpaa.Dv

/-- the true digit -/
def dig (U d Y : Nat) : Nat := (U * 4294967296 + d) / Y

theorem dig_lt {U d Y : Nat} (hU : U < Y) (hd : d < 4294967296) : dig U d Y < 4294967296 := by
  unfold dig; rw [Nat.div_lt_iff_lt_mul (by omega)]
  have : (U + 1) * 4294967296 ≤ Y * 4294967296 := Nat.mul_le_mul_right _ hU
  omega
theorem dig_le {U d Y q : Nat} (h : q * Y ≤ U * 4294967296 + d) (hY : 0 < Y) : q ≤ dig U d Y := by
  unfold dig; exact (Nat.le_div_iff_mul_le hY).2 h
theorem lt_dig {U d Y q : Nat} (h : U * 4294967296 + d < q * Y) (hY : 0 < Y) : dig U d Y < q := by
  unfold dig; exact (Nat.div_lt_iff_lt_mul hY).2 h
theorem mul_Y (q Y1 Y0 : Nat) : q * (Y1 * 4294967296 + Y0) = q * Y1 * 4294967296 + q * Y0 := by
  rw [Nat.mul_add, Nat.mul_assoc]

/-- at the loop's head: the guess and its rest -/
structure Head (U d Y Y1 q r : Nat) : Prop where
  sum : U = q * Y1 + r
  ge : dig U d Y ≤ q
  small : r < 4294967296
  near : q ≤ 4294967297

theorem head_start {U d Y Y1 Y0 : Nat} (hY : Y = Y1 * 4294967296 + Y0) (h0 : Y0 < 4294967296) (h1 : 2147483648 ≤ Y1) (h2 : Y1 < 4294967296) (hU : U < Y) (hd : d < 4294967296) :
    Head U d Y Y1 (U / Y1) (U % Y1) := by
  have e := Nat.div_add_mod U Y1
  have l := Nat.mod_lt U (y := Y1) (by omega)
  have hq : U / Y1 ≤ 4294967297 := by
    have : U / Y1 < 4294967298 := by rw [Nat.div_lt_iff_lt_mul (by omega)]; omega
    omega
  refine ⟨by rw [Nat.mul_comm]; omega, ?_, by omega, hq⟩
  have : dig U d Y < U / Y1 + 1 := by
    refine lt_dig ?_ (by omega)
    subst hY
    rw [mul_Y, Nat.add_mul, Nat.mul_comm (U / Y1) Y1]
    generalize Y1 * (U / Y1) = a at *
    generalize (U / Y1 + 1) * Y0 = b at *
    omega
  omega
theorem head_step {U d Y Y1 Y0 q r : Nat} (hY : Y = Y1 * 4294967296 + Y0) (hU : U < Y) (hd : d < 4294967296) (H : Head U d Y Y1 q r)
    (c : 4294967296 ≤ q ∨ 4294967296 * r + d < q * Y0) : 1 ≤ q ∧ U = (q - 1) * Y1 + (r + Y1) ∧ dig U d Y ≤ q - 1 := by
  have hlt : dig U d Y < q := by
    rcases c with c | c
    · have := dig_lt hU hd; omega
    · refine lt_dig ?_ (by omega)
      have := H.sum
      subst hY
      rw [mul_Y]
      generalize q * Y1 = a at *
      generalize q * Y0 = b at *
      omega
  have h1 : 1 ≤ q := by omega
  refine ⟨h1, ?_, by omega⟩
  have := H.sum
  obtain ⟨p, rfl⟩ : ∃ p, q = p + 1 := ⟨q - 1, by omega⟩
  rw [Nat.add_mul] at this
  simp only [Nat.add_sub_cancel]
  omega
theorem head_exit {U d Y Y1 Y0 q r : Nat} (hY : Y = Y1 * 4294967296 + Y0) (h0 : Y0 < 4294967296) (hY1 : 0 < Y1) (sum : U = q * Y1 + r) (ge : dig U d Y ≤ q)
    (c : q * Y0 ≤ 4294967296 * r + d ∨ (4294967296 ≤ r ∧ q ≤ 4294967296)) : q = dig U d Y := by
  have : q ≤ dig U d Y := by
    refine dig_le ?_ (by omega)
    have c' : q * Y0 ≤ 4294967296 * r + d := by
      rcases c with c | ⟨c1, c2⟩
      · exact c
      · have a1 : q * Y0 ≤ 4294967296 * Y0 := Nat.mul_le_mul_right _ c2
        omega
    subst hY
    rw [mul_Y]
    generalize q * Y1 = a at *
    generalize q * Y0 = b at *
    omega
  omega
theorem out_break {U d Y Y1 Y0 q r : Nat} (hY : Y = Y1 * 4294967296 + Y0) (h0 : Y0 < 4294967296) (hY1 : 0 < Y1) (hU : U < Y) (hd : d < 4294967296) (H : Head U d Y Y1 q r)
    (c : 4294967296 ≤ q ∨ 4294967296 * r + d < q * Y0) (hb : 4294967296 ≤ (r : Int) + (Y1 : Int)) : (q : Int) - 1 = (dig U d Y : Nat) := by
  obtain ⟨a, b, e⟩ := head_step hY hU hd H c
  have n := H.near
  have := head_exit hY h0 hY1 b e (.inr ⟨by omega, by omega⟩)
  omega
theorem out_test {U d Y Y1 Y0 q r : Nat} (hY : Y = Y1 * 4294967296 + Y0) (h0 : Y0 < 4294967296) (hY1 : 0 < Y1) (H : Head U d Y Y1 q r)
    (c : q * Y0 ≤ 4294967296 * r + d) : (q : Int) = (dig U d Y : Nat) := by
  have := head_exit hY h0 hY1 H.sum H.ge (.inl c)
  omega
theorem again {U d Y Y1 Y0 q r : Nat} (hY : Y = Y1 * 4294967296 + Y0) (hU : U < Y) (hd : d < 4294967296) (H : Head U d Y Y1 q r)
    (c : 4294967296 ≤ q ∨ 4294967296 * r + d < q * Y0) (hb : ¬ 4294967296 ≤ (r : Int) + (Y1 : Int)) :
    ∃ q' r' : Nat, (q : Int) - 1 = q' ∧ (r : Int) + (Y1 : Int) = r' ∧ Head U d Y Y1 q' r' := by
  obtain ⟨a, b, e⟩ := head_step hY hU hd H c
  have n := H.near
  exact ⟨q - 1, r + Y1, by omega, by omega, b, e, by omega, by omega⟩
theorem dig_mod (U d Y : Nat) : U * 4294967296 + d - dig U d Y * Y = (U * 4294967296 + d) % Y := by
  unfold dig
  have := Nat.div_add_mod (U * 4294967296 + d) Y
  rw [Nat.mul_comm] at this; omega
theorem dig_mul_le (U d Y : Nat) : dig U d Y * Y ≤ U * 4294967296 + d := by
  unfold dig; exact Nat.div_mul_le_self _ _
/-- two digits are the whole quotient -/
theorem dig_two {U V1 V0 Y : Nat} (hY : 0 < Y) :
    dig U V1 Y * 4294967296 + dig ((U * 4294967296 + V1) % Y) V0 Y = ((U * 4294967296 + V1) * 4294967296 + V0) / Y ∧
      (((U * 4294967296 + V1) % Y) * 4294967296 + V0) % Y = ((U * 4294967296 + V1) * 4294967296 + V0) % Y := by
  have e := Nat.div_add_mod (U * 4294967296 + V1) Y
  have s : (U * 4294967296 + V1) * 4294967296 + V0 = (((U * 4294967296 + V1) % Y) * 4294967296 + V0) + (dig U V1 Y * 4294967296) * Y := by
    unfold dig
    generalize (U * 4294967296 + V1) % Y = R at *
    rw [Nat.mul_right_comm, Nat.mul_comm _ Y]
    generalize Y * ((U * 4294967296 + V1) / Y) = a at *
    omega
  rw [s, Nat.add_mul_div_right _ _ hY, Nat.add_mul_mod_self_right]
  exact ⟨Nat.add_comm _ _, rfl⟩
/-- the normalized numbers' quotient and rest -/
theorem norm (N y s : Nat) : N * 2 ^ s / (y * 2 ^ s) = N / y ∧ N * 2 ^ s % (y * 2 ^ s) / 2 ^ s = N % y := by
  have p : 0 < 2 ^ s := Nat.two_pow_pos s
  refine ⟨Nat.mul_div_mul_right _ _ p, ?_⟩
  rw [Nat.mul_mod_mul_right, Nat.mul_div_cancel _ p]
theorem bitLen_bounds : ∀ (f x : Nat), x < 2 ^ f → 0 < x → x < 2 ^ Lib.bitLenAux f x ∧ 2 ^ Lib.bitLenAux f x ≤ 2 * x ∧ Lib.bitLenAux f x ≤ f ∧ 1 ≤ Lib.bitLenAux f x
  | 0, x, h, h0 => by simp at h; omega
  | f + 1, x, h, h0 => by
    simp only [Lib.bitLenAux, if_neg (Nat.pos_iff_ne_zero.1 h0)]
    by_cases hx : x / 2 = 0
    · have : x = 1 := by omega
      subst this
      cases f <;> simp [Lib.bitLenAux]
    · have ih := bitLen_bounds f (x / 2) (by rw [Nat.pow_succ] at h; omega) (by omega)
      rw [Nat.add_comm 1, Nat.pow_succ]
      omega
/-- by how much a word is shifted to its greatest place -/
theorem bitLen_facts (y : Nat) (h0 : 0 < y) (h1 : y < 2 ^ 64) : ∃ s : Nat, s + Lib.bitLen y = 64 ∧ s < 64 ∧ y * 2 ^ s < 18446744073709551616 ∧ 9223372036854775808 ≤ y * 2 ^ s := by
  obtain ⟨a, b, c, d⟩ := bitLen_bounds 64 y h1 h0
  refine ⟨64 - Lib.bitLenAux 64 y, ?_, by omega, ?_, ?_⟩
  · unfold Lib.bitLen; omega
  · have e : 2 ^ Lib.bitLenAux 64 y * 2 ^ (64 - Lib.bitLenAux 64 y) = 18446744073709551616 := by rw [← Nat.pow_add, Nat.add_sub_cancel' c]
    rw [← e]; exact Nat.mul_lt_mul_of_pos_right a (Nat.two_pow_pos _)
  · have e : 2 ^ Lib.bitLenAux 64 y * 2 ^ (64 - Lib.bitLenAux 64 y) = 18446744073709551616 := by rw [← Nat.pow_add, Nat.add_sub_cancel' c]
    have : 2 ^ Lib.bitLenAux 64 y * 2 ^ (64 - Lib.bitLenAux 64 y) ≤ 2 * y * 2 ^ (64 - Lib.bitLenAux 64 y) := Nat.mul_le_mul_right _ b
    rw [e, Nat.mul_assoc] at this; omega
theorem join {s : Nat} (a b : Nat) (h : b < 2 ^ s) : a * 2 ^ s ||| b = a * 2 ^ s + b := by
  have := Nat.two_pow_add_eq_or_of_lt h a
  rw [Nat.mul_comm a]; exact this.symm
end Go.Proofs.Ytdaedhgbkamjpaa.Dv
