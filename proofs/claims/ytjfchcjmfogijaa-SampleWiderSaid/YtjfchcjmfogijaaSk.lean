/- Plain laws of layer 21: exchanges within bounds. -/
import Derived.Test.YtjfchcjmfogijaaSx
set_option linter.unusedVariables false
set_option linter.unusedSimpArgs false
namespace Go.Proofs.Ytjfchcjmfogijaa.Sx
theorem gr_small (d t : Int) (h0 : 0 ≤ d) (h1 : d ≤ 35184372088832) (t0 : 0 ≤ t) (t1 : t ≤ 500000) : 0 ≤ gr d t ∧ gr d t ≤ 35184372088832 ∧ d * t ≤ gr d t * 1000000000 ∧ gr d t * 1000000000 < d * t + 1000000000 := by
  obtain ⟨_, g2, _, g4, g5⟩ := gr_facts d t h0 (by omega) t0 t1
  have p1 : d * t ≤ d * 500000 := Int.mul_le_mul_of_nonneg_left t1 h0
  exact ⟨g2, by omega, g4, g5⟩
theorem ofR_ok {a b c d prec tol : Int} (a1 : -17592186044416 ≤ a) (a2 : a ≤ 17592186044416) (b1 : -17592186044416 ≤ b) (b2 : b ≤ 17592186044416) (c1 : -17592186044416 ≤ c) (c2 : c ≤ 17592186044416) (d1 : -17592186044416 ≤ d) (d2 : d ≤ 17592186044416)
    (p1 : 1 ≤ prec) (p2 : prec ≤ 65536) (t1 : 0 ≤ tol) (t2 : tol ≤ 500000) (h1 : a ≤ d) (h2 : b ≤ c) :
    ∃ o, ofR a b c d prec tol = ⟨o, max prec ((d - a) - (c - b)), prec + gr (d - a) tol, d, 0⟩ ∧ okS o (max prec ((d - a) - (c - b))) (prec + gr (d - a) tol) d = true ∧ 2 * o ≤ (b - a) + (c - d) ∧ (b - a) + (c - d) ≤ 2 * o + 1 := by
  have hin : inB a b c d prec tol = true := by unfold inB timeB tolB; simp; omega
  obtain ⟨_, f1, f2, f3, f4⟩ := half_facts ((b - a) + (c - d)) (by omega) (by omega)
  obtain ⟨g1, g2, _, _⟩ := gr_small (d - a) tol (by omega) (by omega) t1 t2
  have ok : okS (Fx.fl ((b - a) + (c - d)) 2) (max prec ((d - a) - (c - b))) (prec + gr (d - a) tol) d = true := okS_iff.2 (by omega)
  exact ⟨_, by rw [ofR_fin hin (by omega), fin5_ok ok], ok, f3, f4⟩
theorem growR_ok {o d p t now tol : Int} (h : okS o d p t = true) (t1 : 0 ≤ tol) (t2 : tol ≤ 500000) (n1 : t ≤ now) (n2 : now - t ≤ 35184372088832) (n3 : now ≤ 4503599627370496) (hp : p ≤ 70368744177664) :
    growR o d p t now tol = ⟨o, d, p + gr (now - t) tol, now, 0⟩ ∧ okS o d (p + gr (now - t) tol) now = true := by
  have b := okS_iff.1 h
  have h1 : timeB now = true := timeB_iff.2 (by omega)
  have h2 : tolB tol = true := tolB_iff.2 ⟨t1, t2⟩
  obtain ⟨g1, g2, _, _⟩ := gr_small (now - t) tol (by omega) (by omega) t1 t2
  have ok : okS o d (p + gr (now - t) tol) now = true := okS_iff.2 (by omega)
  exact ⟨by rw [growR_fin (by rw [h, h1, h2]; rfl) (by omega), fin5_ok ok], ok⟩
theorem tdiv_facts (x : Int) (h1 : -36893488147419103232 ≤ x) : 0 ≤ x → x.tdiv 1000000000 * 1000000000 ≤ x := by
  intro h
  rw [Int.tdiv_eq_ediv_of_nonneg h]; omega
theorem tdiv_neg {x : Int} (h : x < 0) : x.tdiv 1000000000 ≤ 0 := by
  have e : x.tdiv 1000000000 = -((-x).tdiv 1000000000) := by rw [Int.neg_tdiv]; omega
  have := Int.tdiv_nonneg (a := -x) (b := 1000000000) (by omega) (by omega)
  omega
/-- what the tolerance allows the client's clock to count more -/
def Allowed (all more t : Int) : Prop := (0 < more → more * 1000000000 ≤ (all + more) * t) ∧ (more < 0 → -more * 1000000000 ≤ (all + more) * t)
theorem allowed_of {all more t : Int} (h1 : ¬ (0 < more ∧ ((all + more) * t).tdiv 1000000000 < more)) (h2 : ¬ (more < 0 ∧ ((all + more) * t).tdiv 1000000000 < -more)) : Allowed all more t := by
  have key : ∀ x k : Int, 0 < k → k ≤ x.tdiv 1000000000 → k * 1000000000 ≤ x := by
    intro x k hk hx
    by_cases hx0 : x < 0
    · have := tdiv_neg hx0; omega
    · rw [Int.tdiv_eq_ediv_of_nonneg (by omega)] at hx; omega
  exact ⟨fun h => key _ _ h (by omega), fun h => key _ _ (by omega) (by omega)⟩
theorem allowed_span {all more t : Int} (ha : 0 ≤ all) (t0 : 0 ≤ t) (h : Allowed all more t) : 0 ≤ all + more := by
  by_cases hm : more < 0
  · have := h.2 hm
    by_cases hs : 0 ≤ all + more
    · exact hs
    · exfalso
      have : (all + more) * t ≤ 0 := Int.mul_nonpos_of_nonpos_of_nonneg (by omega) t0
      omega
  · omega
/-- the layer's theorem, in numbers -/
theorem truth {th ho ba cl of more prec t o a b c : Int} (h1 : 0 ≤ th) (h3 : 0 ≤ ho) (h5 : 0 ≤ ba) (t0 : 0 ≤ t) (t1 : t ≤ 500000) (p1 : 1 ≤ prec) (m2 : th + ho + ba + more ≤ 35184372088832)
    (al : Allowed (th + ho + ba) more t) (ha : a = cl - (th + ho + ba) - more) (hb : b = cl + of - ba - ho) (hc : c = cl + of - ba)
    (o1 : 2 * o ≤ (b - a) + (c - cl)) (o2 : (b - a) + (c - cl) ≤ 2 * o + 1) (ok : okS o (max prec ((cl - a) - (c - b))) (prec + gr (cl - a) t) cl = true) :
    bLo o (max prec ((cl - a) - (c - b))) (prec + gr (cl - a) t) cl ≤ of ∧ of ≤ bHi o (max prec ((cl - a) - (c - b))) (prec + gr (cl - a) t) cl := by
  rw [bLo_ok ok, bHi_ok ok, dist_ok ok]
  have sp := allowed_span (all := th + ho + ba) (by omega) t0 al
  obtain ⟨g1, g2, g3, g4⟩ := gr_small (cl - a) t (by omega) (by omega) t0 t1
  have e : cl - a = th + ho + ba + more := by omega
  have al1 := al.1
  have al2 := al.2
  rw [← e] at al1 al2
  generalize (cl - a) * t = X at *
  generalize gr (cl - a) t = g at *
  by_cases hm : more < 0
  · have := al2 hm
    have : -more ≤ g := by omega
    omega
  · omega
theorem gr_zero (t : Int) : gr 0 t = 0 := by
  unfold gr
  obtain ⟨q, r, hq, hr, hrb⟩ := Fx.fl_facts (-0 * t) 1000000000 (by omega)
  rw [hq]
  have : -0 * t = 0 := by simp
  omega
theorem gr_add (f s t : Int) (f0 : 0 ≤ f) (f1 : f ≤ 4294967295) (s0 : 0 ≤ s) (s1 : s ≤ 4294967295) (t0 : 0 ≤ t) (t1 : t ≤ 500000) :
    gr f t + gr s t = gr (f + s) t ∨ gr f t + gr s t = gr (f + s) t + 1 := by
  obtain ⟨_, _, a1, a2⟩ := gr_small f t f0 (by omega) t0 t1
  obtain ⟨_, _, b1, b2⟩ := gr_small s t s0 (by omega) t0 t1
  obtain ⟨_, _, c1, c2⟩ := gr_small (f + s) t (by omega) (by omega) t0 t1
  rw [Int.add_mul] at c1 c2
  generalize f * t = F at *
  generalize s * t = S at *
  omega
end Go.Proofs.Ytjfchcjmfogijaa.Sx
