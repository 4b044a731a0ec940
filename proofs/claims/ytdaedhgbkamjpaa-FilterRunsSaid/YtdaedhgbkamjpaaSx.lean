/- Plain functions that the layer sample computes (no program in sight). -/
import Derived.Test.YtdaedhgbkamjpaaFx
set_option linter.unusedVariables false
set_option linter.unusedSimpArgs false
namespace Go.Proofs.Ytdaedhgbkamjpaa.Sx
/-- is a sample right -/
def okS (o d p t : Int) : Bool := decide (-4503599627370496 ≤ o ∧ o ≤ 4503599627370496 ∧ 0 ≤ d ∧ d ≤ 9007199254740992 ∧ 0 ≤ p ∧ p ≤ 9007199254740992 ∧ -4503599627370496 ≤ t ∧ t ≤ 4503599627370496)
def chk (o d p t : Int) : Int := if okS o d p t = true then 0 else 3
theorem okS_iff {o d p t : Int} : okS o d p t = true ↔ (-4503599627370496 ≤ o ∧ o ≤ 4503599627370496 ∧ 0 ≤ d ∧ d ≤ 9007199254740992 ∧ 0 ≤ p ∧ p ≤ 9007199254740992 ∧ -4503599627370496 ≤ t ∧ t ≤ 4503599627370496) := by
  unfold okS; simp
theorem chk_ok {o d p t : Int} (h : okS o d p t = true) : chk o d p t = 0 := by unfold chk; rw [if_pos h]
theorem chk_no {o d p t : Int} (h : okS o d p t = false) : chk o d p t = 3 := by unfold chk; rw [h]; rfl
def timeB (t : Int) : Bool := decide (-4503599627370496 ≤ t ∧ t ≤ 4503599627370496)
def tolB (t : Int) : Bool := decide (0 ≤ t ∧ t ≤ 500000)
theorem timeB_iff {t : Int} : timeB t = true ↔ (-4503599627370496 ≤ t ∧ t ≤ 4503599627370496) := by unfold timeB; simp
theorem tolB_iff {t : Int} : tolB t = true ↔ (0 ≤ t ∧ t ≤ 500000) := by unfold tolB; simp
/-- half the delay and the dispersion -/
def dist (o d p t : Int) : Int := if okS o d p t = true then (d + 1) / 2 + p else 0
def bLo (o d p t : Int) : Int := if okS o d p t = true then o - dist o d p t else 0
def bHi (o d p t : Int) : Int := if okS o d p t = true then o + dist o d p t else 0
theorem dist_ok {o d p t : Int} (h : okS o d p t = true) : dist o d p t = (d + 1) / 2 + p := by unfold dist; rw [if_pos h]
theorem dist_no {o d p t : Int} (h : okS o d p t = false) : dist o d p t = 0 := by unfold dist; rw [h]; rfl
theorem bLo_ok {o d p t : Int} (h : okS o d p t = true) : bLo o d p t = o - dist o d p t := by unfold bLo; rw [if_pos h]
theorem bHi_ok {o d p t : Int} (h : okS o d p t = true) : bHi o d p t = o + dist o d p t := by unfold bHi; rw [if_pos h]
theorem bLo_no {o d p t : Int} (h : okS o d p t = false) : bLo o d p t = 0 := by unfold bLo; rw [h]; rfl
theorem bHi_no {o d p t : Int} (h : okS o d p t = false) : bHi o d p t = 0 := by unfold bHi; rw [h]; rfl
theorem ce_half (d : Int) (h0 : 0 ≤ d) (h1 : d ≤ 9007199254740992) : Fx.qV 2 (Fx.ce d 2) = (d + 1) / 2 := by
  have e : Fx.ce d 2 = (d + 1) / 2 := Fx.ce_unique (q := (d + 1) / 2) (r := d - (d + 1) / 2 * 2) (by omega) (by omega)
  rw [e]; exact (Fx.q_in (by omega) (by omega) (by omega)).1.symm
/-- the growth, rounded up -/
def gr (d t : Int) : Int := -(Fx.fl (-d * t) 1000000000)
theorem gr_facts (d t : Int) (h0 : 0 ≤ d) (h1 : d ≤ 9007199254740992) (t0 : 0 ≤ t) (t1 : t ≤ 500000) :
    Fx.qV 1000000000 (Fx.fl (-d * t) 1000000000) = -(gr d t) ∧ 0 ≤ gr d t ∧ gr d t ≤ 9007199254740992 ∧ d * t ≤ gr d t * 1000000000 ∧ gr d t * 1000000000 < d * t + 1000000000 := by
  obtain ⟨q, r, hq, hr, hrb⟩ := Fx.fl_facts (-d * t) 1000000000 (by omega)
  have e : -d * t = -(d * t) := Int.neg_mul _ _
  have p0 : 0 ≤ d * t := Int.mul_nonneg h0 t0
  have p1 : d * t ≤ d * 500000 := Int.mul_le_mul_of_nonneg_left t1 h0
  unfold gr
  rw [hq]
  exact ⟨by rw [Int.neg_neg]; exact (Fx.q_in (by omega) (by omega) (by omega)).1.symm, by omega, by omega, by omega, by omega⟩
/-- a sample and an error -/
structure R5 where
  o : Int
  d : Int
  p : Int
  t : Int
  e : Int
def inB (a b c d prec tol : Int) : Bool := timeB a && timeB b && timeB c && timeB d && decide (1 ≤ prec) && decide (prec ≤ 1000000000) && tolB tol
def fin5 (o d p t : Int) : R5 := if okS o d p t = true then ⟨o, d, p, t, 0⟩ else ⟨0, 0, 0, 0, 3⟩
/-- what Of returns -/
def ofR (a b c d prec tol : Int) : R5 :=
  if inB a b c d prec tol = false then ⟨0, 0, 0, 0, 3⟩
  else if d < a ∨ c < b then ⟨0, 0, 0, 0, 12⟩
  else fin5 (Fx.fl ((b - a) + (c - d)) 2) (max prec ((d - a) - (c - b))) (prec + gr (d - a) tol) d
theorem fin5_ok {o d p t : Int} (h : okS o d p t = true) : fin5 o d p t = ⟨o, d, p, t, 0⟩ := by unfold fin5; rw [if_pos h]
theorem fin5_no {o d p t : Int} (h : okS o d p t = false) : fin5 o d p t = ⟨0, 0, 0, 0, 3⟩ := by unfold fin5; rw [h]; rfl
theorem ofR_bad {a b c d prec tol : Int} (h : inB a b c d prec tol = false) : ofR a b c d prec tol = ⟨0, 0, 0, 0, 3⟩ := by unfold ofR; rw [if_pos h]
theorem ofR_order {a b c d prec tol : Int} (h : inB a b c d prec tol = true) (h2 : d < a ∨ c < b) : ofR a b c d prec tol = ⟨0, 0, 0, 0, 12⟩ := by
  unfold ofR; rw [if_neg (by rw [h]; decide), if_pos h2]
theorem ofR_fin {a b c d prec tol : Int} (h : inB a b c d prec tol = true) (h2 : ¬ (d < a ∨ c < b)) :
    ofR a b c d prec tol = fin5 (Fx.fl ((b - a) + (c - d)) 2) (max prec ((d - a) - (c - b))) (prec + gr (d - a) tol) d := by
  unfold ofR; rw [if_neg (by rw [h]; decide), if_neg h2]
/-- the ways in which an exchange's numbers are out of bounds, one after the other -/
theorem inB_ways (a b c d prec tol : Int) :
    (inB a b c d prec tol = false ∧ (timeB a = false ∨ (timeB a = true ∧ timeB b = false) ∨ (timeB a = true ∧ timeB b = true ∧ timeB c = false) ∨ (timeB a = true ∧ timeB b = true ∧ timeB c = true ∧ timeB d = false) ∨
      (timeB a = true ∧ timeB b = true ∧ timeB c = true ∧ timeB d = true ∧ prec < 1) ∨ (timeB a = true ∧ timeB b = true ∧ timeB c = true ∧ timeB d = true ∧ ¬ prec < 1 ∧ 1000000000 < prec) ∨
      (timeB a = true ∧ timeB b = true ∧ timeB c = true ∧ timeB d = true ∧ ¬ prec < 1 ∧ ¬ 1000000000 < prec ∧ tolB tol = false))) ∨
    (inB a b c d prec tol = true ∧ timeB a = true ∧ timeB b = true ∧ timeB c = true ∧ timeB d = true ∧ ¬ prec < 1 ∧ ¬ 1000000000 < prec ∧ tolB tol = true) := by
  unfold inB
  cases ha : timeB a <;> cases hb : timeB b <;> cases hc : timeB c <;> cases hd : timeB d <;> cases ht : tolB tol <;> by_cases h1 : prec < 1 <;> by_cases h2 : 1000000000 < prec <;> simp [h1, h2] <;> omega
theorem half_facts (x : Int) (h1 : -18014398509481984 ≤ x) (h2 : x ≤ 18014398509481984) : Fx.qV 2 (Fx.fl x 2) = Fx.fl x 2 ∧ -9007199254740992 ≤ Fx.fl x 2 ∧ Fx.fl x 2 ≤ 9007199254740992 ∧ 2 * Fx.fl x 2 ≤ x ∧ x ≤ 2 * Fx.fl x 2 + 1 := by
  obtain ⟨q, r, hq, hr, hrb⟩ := Fx.fl_facts x 2 (by omega)
  rw [hq]
  exact ⟨(Fx.q_in (by omega) (by omega) (by omega)).1.symm, by omega, by omega, by omega, by omega⟩
/-- what Grow returns -/
def growR (o d p t now tol : Int) : R5 :=
  if (okS o d p t && timeB now && tolB tol) = false then ⟨0, 0, 0, 0, 3⟩
  else if now < t then ⟨0, 0, 0, 0, 12⟩
  else fin5 o d (p + gr (now - t) tol) now
theorem growR_bad {o d p t now tol : Int} (h : (okS o d p t && timeB now && tolB tol) = false) : growR o d p t now tol = ⟨0, 0, 0, 0, 3⟩ := by unfold growR; rw [if_pos h]
theorem growR_order {o d p t now tol : Int} (h : (okS o d p t && timeB now && tolB tol) = true) (h2 : now < t) : growR o d p t now tol = ⟨0, 0, 0, 0, 12⟩ := by
  unfold growR; rw [if_neg (by rw [h]; decide), if_pos h2]
theorem growR_fin {o d p t now tol : Int} (h : (okS o d p t && timeB now && tolB tol) = true) (h2 : ¬ now < t) : growR o d p t now tol = fin5 o d (p + gr (now - t) tol) now := by
  unfold growR; rw [if_neg (by rw [h]; decide), if_neg h2]
end Go.Proofs.Ytdaedhgbkamjpaa.Sx
