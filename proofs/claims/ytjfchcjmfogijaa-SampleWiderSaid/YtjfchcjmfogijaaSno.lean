/- The law SampleWider of layer 21, joined. -/
import Derived.Test.YtjfchcjmfogijaaSnn
set_option linter.unusedVariables false
set_option linter.unusedSimpArgs false
namespace Go.Proofs.Ytjfchcjmfogijaa.FxW
open Go.RowKit
theorem law_SampleWider (th ho ba mo cl of fi se tol : Int) (h1 : 0 ≤ th) (h2 : th ≤ 4294967295) (h3 : 0 ≤ ho) (h4 : ho ≤ 4294967295) (h5 : 0 ≤ ba) (h6 : ba ≤ 4294967295) (h7 : -2147483648 ≤ cl) (h8 : cl ≤ 2147483647) (h9 : -2147483648 ≤ of) (h10 : of ≤ 2147483647)
    (f1 : 0 ≤ fi) (f2 : fi ≤ 4294967295) (s1 : 0 ≤ se) (s2 : se ≤ 4294967295) (t1 : 0 ≤ tol) (t2 : tol ≤ 4294967295) (w : World) :
    Calls Try.prog 9 #[.agg #[.int .u32 th, .int .u32 ho, .int .u32 ba, .int .i32 mo, .int .i32 cl, .int .i32 of], .int .u32 fi, .int .u32 se, .int .u32 tol] w fun e w' => e = .returned (.bool true) ∧ Below w.heap.size w w' := by
  obtain ⟨a, ha⟩ : ∃ a, a = cl - (th + ho + ba) - 0 := ⟨_, rfl⟩
  obtain ⟨b, hb⟩ : ∃ b, b = cl + of - ba - ho := ⟨_, rfl⟩
  obtain ⟨c, hc⟩ : ∃ c, c = cl + of - ba := ⟨_, rfl⟩
  obtain ⟨t, ht⟩ : ∃ t, tol % 500001 = t := ⟨_, rfl⟩
  have t3 : 0 ≤ t := by omega
  have t4 : t ≤ 500000 := by omega
  obtain ⟨o, e1, ok, _, _⟩ := Sx.ofR_ok (a := a) (b := b) (c := c) (d := cl) (prec := 1) (tol := t) (by omega) (by omega) (by omega) (by omega) (by omega) (by omega) (by omega) (by omega) (by omega) (by omega) (by omega) (by omega) (by omega) (by omega)
  have g0 := Sx.gr_facts (cl - a) t (by omega) (by omega) t3 t4
  have gm := Int.mul_le_mul_of_nonneg_left (a := t) (b := 500000) (c := cl - a) t4 (by omega)
  obtain ⟨D, hD⟩ : ∃ D, max 1 ((cl - a) - (c - b)) = D := ⟨_, rfl⟩
  obtain ⟨p, hp⟩ : ∃ p, 1 + Sx.gr (cl - a) t = p := ⟨_, rfl⟩
  rw [hD, hp] at e1 ok
  have p0 : 1 ≤ p := by omega
  have p1 : p ≤ 10000000 := by omega
  have ga := Sx.gr_facts fi t f1 (by omega) t3 t4
  have gb := Sx.gr_facts se t s1 (by omega) t3 t4
  have gs := Sx.gr_facts (fi + se) t (by omega) (by omega) t3 t4
  have gz := Sx.gr_facts 0 t (by omega) (by omega) t3 t4
  have ma := Int.mul_le_mul_of_nonneg_left (a := t) (b := 500000) (c := fi) t4 f1
  have mb := Int.mul_le_mul_of_nonneg_left (a := t) (b := 500000) (c := se) t4 s1
  have es : (fi + se) * t = fi * t + se * t := Int.add_mul _ _ _
  rw [Int.zero_mul] at gz
  obtain ⟨A, hA⟩ : ∃ A, Sx.gr fi t = A := ⟨_, rfl⟩
  obtain ⟨B, hB⟩ : ∃ A, Sx.gr se t = A := ⟨_, rfl⟩
  obtain ⟨C, hC⟩ : ∃ A, Sx.gr (fi + se) t = A := ⟨_, rfl⟩
  rw [hA] at ga; rw [hB] at gb; rw [hC] at gs
  rw [es] at gs
  have z0 : Sx.gr 0 t = 0 := by omega
  have A1 : A ≤ 3000000 := by omega
  have B1 : B ≤ 3000000 := by omega
  have C1 : C ≤ 6000000 := by omega
  have two : A + B = C ∨ A + B = C + 1 := by omega
  obtain ⟨G1, k1⟩ := Sx.growR_ok (now := cl + fi) (tol := t) ok t3 t4 (by omega) (by omega) (by omega) (by omega)
  rw [show cl + fi - cl = fi by omega, hA] at G1 k1
  obtain ⟨G2, k2⟩ := Sx.growR_ok (now := cl + fi + se) (tol := t) k1 t3 t4 (by omega) (by omega) (by omega) (by omega)
  rw [show cl + fi + se - (cl + fi) = se by omega, hB] at G2 k2
  obtain ⟨G3, k3⟩ := Sx.growR_ok (now := cl + fi + se) (tol := t) ok t3 t4 (by omega) (by omega) (by omega) (by omega)
  rw [show cl + fi + se - cl = fi + se by omega, hC] at G3 k3
  obtain ⟨G4, k4⟩ := Sx.growR_ok (now := cl) (tol := t) ok t3 t4 (by omega) (by omega) (by omega) (by omega)
  rw [show cl - cl = 0 by omega, z0, Int.add_zero] at G4
  have b1 := Sx.bLo_ok ok; have b2 := Sx.bHi_ok ok; have b3 := Sx.bLo_ok k2; have b4 := Sx.bHi_ok k2
  rw [Sx.dist_ok ok] at b1 b2; rw [Sx.dist_ok k2] at b3 b4
  subst ht
  exact wider_walk th ho ba mo cl of fi se tol a b c o D p (p + A) (p + A + B) (p + C) _ _ _ _ h1 h2 h3 h4 h5 h6 h7 h8 h9 h10 f1 f2 s1 s2 t1 t2 (Lib.hid ha) (Lib.hid hb) (Lib.hid hc) (Lib.hid e1) (Lib.hid G1) (Lib.hid G2) (Lib.hid G3) (Lib.hid G4)
    (Lib.hid rfl) (Lib.hid rfl) (Lib.hid rfl) (Lib.hid rfl) (by rw [b1, b3]; omega) (by rw [b2, b4]; omega) (by omega) (by omega)
    (by rcases two with h | h
        · exact .inl (by simp; omega)
        · exact .inr ⟨by simp; omega, by simp; omega⟩) w
end Go.Proofs.Ytjfchcjmfogijaa.FxW
