/- Plain law of the oscillator: what is read, and what a raw duration proves (no program in sight). -/
import Derived.Test.YtpkbhhconiklbaaFx
set_option linter.unusedVariables false
set_option linter.unusedSimpArgs false
namespace Go.Proofs.Ytpkbhhconiklbaa.Tx
open Go.Proofs.Ytpkbhhconiklbaa
/-- where segment i ends -/
def en (n : Nat) (z : Nat → Nat → Int) (i : Nat) : Int := if i + 1 < n then z (i + 1) 0 else 1125899906842624
/-- where segment i begins, or the last one ends -/
def be (n : Nat) (z : Nat → Nat → Int) (i : Nat) : Int := if i < n then z i 0 else 1125899906842624
/-- the error of segment k -/
def seg (z : Nat → Nat → Int) (k : Nat) : Int :=
  if z k 0 < 0 ∨ 1125899906842624 < z k 0 ∨ z k 1 < -500000 ∨ 500000 < z k 1 then 3 else if k = 0 ∧ z k 0 ≠ 0 then 7 else if 0 < k ∧ z k 0 ≤ z (k - 1) 0 then 12 else 0
def scan (z : Nat → Nat → Int) : Nat → Int
  | 0 => 0
  | k + 1 => if scan z k ≠ 0 then scan z k else seg z k
def chk (p : Int) (n : Nat) (z : Nat → Nat → Int) : Int := if n = 0 then 14 else if 16 < n then 6 else if p < -1125899906842624 ∨ 1125899906842624 < p then 3 else scan z n
section
variable {p : Int} {n : Nat} {z : Nat → Nat → Int}
theorem scan_go {k : Nat} (h : scan z k = 0) (h2 : seg z k = 0) : scan z (k + 1) = 0 := by simp only [scan]; rw [if_neg (by omega), h2]
theorem scan_no {k : Nat} {r : Int} (h : scan z k = 0) (h2 : seg z k = r) (hr : r ≠ 0) (hk : k < n) : scan z n = r := by
  have : ∀ j, scan z (k + 1 + j) = r := fun j => by
    induction j with
    | zero => simp only [Nat.add_zero, scan]; rw [if_neg (by omega), h2]
    | succ j ih => rw [← Nat.add_assoc]; simp only [scan]; rw [ih, if_pos hr]
  have e := this (n - k - 1)
  rwa [show k + 1 + (n - k - 1) = n by omega] at e
theorem scan_each : ∀ {m : Nat}, scan z m = 0 → ∀ i, i < m → seg z i = 0
  | 0, _, i, hi => by omega
  | m + 1, h, i, hi => by
    simp only [scan] at h
    by_cases h0 : scan z m ≠ 0
    · rw [if_pos h0] at h; exact absurd h h0
    · rw [if_neg h0] at h
      by_cases e : i = m
      · rw [e]; exact h
      · exact scan_each (m := m) (by omega) i (by omega)
/-- an oscillator without an error -/
structure Vo (p : Int) (n : Nat) (z : Nat → Nat → Int) : Prop where
  n1 : 1 ≤ n
  n2 : n ≤ 16
  p1 : -1125899906842624 ≤ p
  p2 : p ≤ 1125899906842624
  ok : ∀ i, i < n → 0 ≤ z i 0 ∧ z i 0 ≤ 1125899906842624 ∧ -500000 ≤ z i 1 ∧ z i 1 ≤ 500000
  z0 : z 0 0 = 0
  ord : ∀ i, i + 1 < n → z i 0 < z (i + 1) 0
theorem seg_ok {k : Nat} (h : seg z k = 0) : (0 ≤ z k 0 ∧ z k 0 ≤ 1125899906842624 ∧ -500000 ≤ z k 1 ∧ z k 1 ≤ 500000) ∧ (k = 0 → z k 0 = 0) ∧ (0 < k → z (k - 1) 0 < z k 0) := by
  unfold seg at h
  split at h
  · cases h
  · split at h
    · cases h
    · split at h
      · cases h
      · refine ⟨by omega, fun e => ?_, fun e => by omega⟩
        rename_i h1 h2 h3
        by_cases e0 : z k 0 = 0
        · exact e0
        · exact absurd ⟨e, e0⟩ h2
theorem vo_of (h : chk p n z = 0) : Vo p n z := by
  unfold chk at h
  split at h
  · cases h
  · split at h
    · cases h
    · split at h
      · cases h
      · have S := fun i hi => seg_ok (scan_each h i hi)
        exact ⟨by omega, by omega, by omega, by omega, fun i hi => (S i hi).1, (S 0 (by omega)).2.1 rfl, fun i hi => by have := (S (i + 1) hi).2.2 (by omega); simpa using this⟩
/-- how long segment i lasts up to t -/
def du (n : Nat) (z : Nat → Nat → Int) (t : Int) (i : Nat) : Int := max 0 (min t (en n z i) - z i 0)
def wh (n : Nat) (z : Nat → Nat → Int) (t : Int) : Nat → Int
  | 0 => 0
  | k + 1 => wh n z t k + z k 1 * (du n z t k).tdiv 1000000000
def re (n : Nat) (z : Nat → Nat → Int) (t : Int) : Nat → Int
  | 0 => 0
  | k + 1 => re n z t k + z k 1 * (du n z t k).tmod 1000000000
def ga (n : Nat) (z : Nat → Nat → Int) (t : Int) : Nat → Int
  | 0 => 0
  | k + 1 => ga n z t k + z k 1 * du n z t k
def sd (n : Nat) (z : Nat → Nat → Int) (t : Int) : Nat → Int
  | 0 => 0
  | k + 1 => sd n z t k + du n z t k
/-- the greatest absolute frequency error -/
def bo (z : Nat → Nat → Int) : Nat → Int
  | 0 => 0
  | k + 1 => max (max (bo z k) (z k 1)) (-(z k 1))
/-- the reading at t -/
def rd (p : Int) (n : Nat) (z : Nat → Nat → Int) (t : Int) : Int := p + t + wh n z t n + Fx.fl (re n z t n) 1000000000
theorem du_nn (t : Int) (i : Nat) : 0 ≤ du n z t i := by unfold du; omega
theorem en_bd (V : Vo p n z) (i : Nat) : en n z i ≤ 1125899906842624 := by
  unfold en; split
  · rename_i h; exact (V.ok _ h).2.1
  · omega
theorem du_le (V : Vo p n z) (t : Int) {i : Nat} (hi : i < n) : du n z t i ≤ 1125899906842624 := by
  have h1 := en_bd V i; have h2 := (V.ok i hi).1
  unfold du; omega
theorem box {x y N P : Int} (h1 : -N ≤ x) (h2 : x ≤ N) (h3 : 0 ≤ y) (h4 : y ≤ P) (hN : 0 ≤ N) : -(N * P) ≤ x * y ∧ x * y ≤ N * P :=
  Fx.mul_box h1 h2 (by omega) h4
theorem tq {d : Int} (h : 0 ≤ d) : d.tdiv 1000000000 = d / 1000000000 ∧ d.tmod 1000000000 = d % 1000000000 := ⟨Int.tdiv_eq_ediv_of_nonneg h, Int.tmod_eq_emod_of_nonneg h⟩
theorem wh_step (V : Vo p n z) (t : Int) {i : Nat} (hi : i < n) : -562949500000 ≤ z i 1 * (du n z t i).tdiv 1000000000 ∧ z i 1 * (du n z t i).tdiv 1000000000 ≤ 562949500000 := by
  have h1 := du_nn (n := n) (z := z) t i; have h2 := du_le V t hi
  have h3 := V.ok i hi
  rw [(tq h1).1]
  exact box (N := 500000) (P := 1125899) h3.2.2.1 h3.2.2.2 (by omega) (by omega) (by omega)
theorem re_step (V : Vo p n z) (t : Int) {i : Nat} (hi : i < n) : -500000000000000 ≤ z i 1 * (du n z t i).tmod 1000000000 ∧ z i 1 * (du n z t i).tmod 1000000000 ≤ 500000000000000 := by
  have h1 := du_nn (n := n) (z := z) t i; have h2 := du_le V t hi
  have h3 := V.ok i hi
  rw [(tq h1).2]
  exact box (N := 500000) (P := 1000000000) h3.2.2.1 h3.2.2.2 (by omega) (by omega) (by omega)
theorem wh_bd (V : Vo p n z) (t : Int) : ∀ k, k ≤ n → -(562949500000 * (k : Int)) ≤ wh n z t k ∧ wh n z t k ≤ 562949500000 * (k : Int)
  | 0, _ => by simp [wh]
  | k + 1, h => by
    have a := wh_bd V t k (by omega); have b := wh_step V t (i := k) (by omega)
    simp only [wh]; omega
theorem re_bd (V : Vo p n z) (t : Int) : ∀ k, k ≤ n → -(500000000000000 * (k : Int)) ≤ re n z t k ∧ re n z t k ≤ 500000000000000 * (k : Int)
  | 0, _ => by simp [re]
  | k + 1, h => by
    have a := re_bd V t k (by omega); have b := re_step V t (i := k) (by omega)
    simp only [re]; omega
theorem parts (t : Int) : ∀ k, wh n z t k * 1000000000 + re n z t k = ga n z t k
  | 0 => by simp [wh, re, ga]
  | k + 1 => by
    have ih := parts t k
    have h1 := du_nn (n := n) (z := z) t k
    simp only [wh, re, ga]
    rw [(tq h1).1, (tq h1).2, ← ih]
    obtain ⟨d, hd⟩ : ∃ d, du n z t k = d := ⟨_, rfl⟩
    rw [hd]
    have e : z k 1 * d = z k 1 * (d / 1000000000) * 1000000000 + z k 1 * (d % 1000000000) := by
      have := Int.mul_ediv_add_emod d 1000000000
      rw [Int.mul_assoc, ← Int.mul_add, Int.mul_comm (d / 1000000000), this]
    rw [e, Int.add_mul]; omega
theorem rd_eq (t : Int) : rd p n z t = p + t + Fx.fl (ga n z t n) 1000000000 := by
  unfold rd
  obtain ⟨q, r, hq, he, hr⟩ := Fx.fl_facts (re n z t n) 1000000000 (by omega)
  rw [hq, ← parts t n, Fx.fl_unique (a := wh n z t n * 1000000000 + re n z t n) (b := 1000000000) (q := wh n z t n + q) (r := r) (by rw [Int.add_mul]; omega) hr]
  omega
theorem sd_eq (V : Vo p n z) {t : Int} (h0 : 0 ≤ t) : ∀ k, k ≤ n → sd n z t k = min t (be n z k)
  | 0, _ => by
    have := V.n1; have := V.z0
    simp only [sd]; unfold be; rw [if_pos (by omega)]; omega
  | k + 1, h => by
    have ih := sd_eq V h0 k (by omega)
    have e1 : be n z k = z k 0 := by unfold be; rw [if_pos (by omega)]
    have e2 : be n z (k + 1) = en n z k := by unfold be en; rfl
    have o : z k 0 ≤ en n z k := by
      unfold en; split
      · rename_i h2; have := V.ord k h2; omega
      · exact (V.ok k (by omega)).2.1
    simp only [sd]; rw [ih, e1, e2]; unfold du; omega
theorem bo_nn : ∀ k, 0 ≤ bo z k
  | 0 => by simp [bo]
  | k + 1 => by have := bo_nn k; simp only [bo]; omega
theorem bo_le (V : Vo p n z) : ∀ k, k ≤ n → bo z k ≤ 500000
  | 0, _ => by simp [bo]
  | k + 1, h => by
    have a := bo_le V k (by omega); have b := V.ok k (by omega)
    simp only [bo]; omega
theorem bo_ge : ∀ (k i : Nat), i < k → -(bo z k) ≤ z i 1 ∧ z i 1 ≤ bo z k
  | 0, i, h => by omega
  | k + 1, i, h => by
    simp only [bo]
    by_cases e : i = k
    · subst e; omega
    · have := bo_ge k i (by omega); omega
theorem ga_gap {t u m : Int} (htu : t ≤ u) (hm : ∀ i, i < n → -m ≤ z i 1 ∧ z i 1 ≤ m) : ∀ k, k ≤ n → -(m * (sd n z u k - sd n z t k)) ≤ ga n z u k - ga n z t k ∧ ga n z u k - ga n z t k ≤ m * (sd n z u k - sd n z t k)
  | 0, _ => by simp [ga, sd]
  | k + 1, h => by
    have ih := ga_gap htu hm k (by omega)
    have hz := hm k (by omega)
    have hx : 0 ≤ du n z u k - du n z t k := by unfold du; omega
    have hx2 : z k 1 * du n z u k - z k 1 * du n z t k = z k 1 * (du n z u k - du n z t k) := by rw [Int.mul_sub]
    have l1 := Int.mul_le_mul_of_nonneg_right hz.1 hx
    have l2 := Int.mul_le_mul_of_nonneg_right hz.2 hx
    have e : m * (sd n z u k + du n z u k - (sd n z t k + du n z t k)) = m * (sd n z u k - sd n z t k) + m * (du n z u k - du n z t k) := by rw [← Int.mul_add]; congr 1; omega
    simp only [ga, sd]
    rw [e]
    rw [Int.neg_mul] at l1
    omega
/-- the readings of two times: their difference -/
theorem raw_law (V : Vo p n z) {t d : Int} (ht : 0 ≤ t) (hd : 0 ≤ d) (hs : t + d ≤ 1125899906842624) :
    (rd p n z (t + d) - rd p n z t - 1) * 1000000000 < d * (1000000000 + bo z n) ∧ d * (1000000000 - bo z n) < (rd p n z (t + d) - rd p n z t + 1) * 1000000000 ∧ -1000000000 < (rd p n z (t + d) - rd p n z t) * 1000000000 := by
  have G := ga_gap (n := n) (z := z) (t := t) (u := t + d) (m := bo z n) (by omega) (fun i hi => bo_ge n i hi) n (Nat.le_refl _)
  rw [sd_eq V ht n (Nat.le_refl _), sd_eq V (show 0 ≤ t + d by omega) n (Nat.le_refl _)] at G
  have hb : be n z n = 1125899906842624 := by unfold be; rw [if_neg (by omega)]
  rw [hb, show min (t + d) 1125899906842624 - min t 1125899906842624 = d by omega] at G
  obtain ⟨q, r, hq, he, hr⟩ := Fx.fl_facts (ga n z t n) 1000000000 (by omega)
  obtain ⟨q', r', hq', he', hr'⟩ := Fx.fl_facts (ga n z (t + d) n) 1000000000 (by omega)
  rw [rd_eq, rd_eq, hq, hq']
  have b1 := bo_le V n (Nat.le_refl _); have b0 := bo_nn (z := z) n
  rw [Int.mul_add, Int.mul_sub]
  have c : d * bo z n = bo z n * d := Int.mul_comm _ _
  rw [c]
  obtain ⟨m, hm⟩ : ∃ m, bo z n * d = m := ⟨_, rfl⟩
  have hm0 : 0 ≤ m := by rw [← hm]; exact Int.mul_nonneg b0 hd
  have hm1 : m ≤ d * 500000 := by rw [← hm, Int.mul_comm]; exact Int.mul_le_mul_of_nonneg_left b1 hd
  rw [hm] at G ⊢
  omega
theorem fl_lt {x b k : Int} (hb : 0 < b) (h : x < k * b) : Fx.fl x b ≤ k - 1 := by
  obtain ⟨q, r, hq, he, hr⟩ := Fx.fl_facts x b (by omega)
  rw [hq]
  by_cases g : q ≤ k - 1
  · exact g
  · have := Int.mul_le_mul_of_nonneg_right (show k ≤ q by omega) (show 0 ≤ b by omega)
    omega
theorem fl_ge {x b k : Int} (hb : 0 < b) (h : k * b ≤ x) : k ≤ Fx.fl x b := by
  obtain ⟨q, r, hq, he, hr⟩ := Fx.fl_facts x b (by omega)
  rw [hq]
  by_cases g : k ≤ q
  · exact g
  · have := Int.mul_le_mul_of_nonneg_right (show q + 1 ≤ k by omega) (show 0 ≤ b by omega)
    rw [Int.add_mul] at this
    omega
def dn (raw tol : Int) : Int := Fx.qV (1000000000 + tol) (Fx.fl ((raw - 1) * 1000000000) (1000000000 + tol))
def up (raw tol : Int) : Int := Fx.qV (1000000000 - tol) (Fx.fl (-(raw + 1) * 1000000000) (1000000000 - tol))
theorem dn_bd {raw tol : Int} (h0 : 0 ≤ raw) (h1 : raw ≤ 2251799813685248) (t0 : 0 ≤ tol) (t1 : tol ≤ 500000) : dn raw tol = Fx.fl ((raw - 1) * 1000000000) (1000000000 + tol) ∧ -1 ≤ dn raw tol ∧ dn raw tol ≤ 2251799813685248 := by
  have l1 : -1 ≤ Fx.fl ((raw - 1) * 1000000000) (1000000000 + tol) := fl_ge (by omega) (by omega)
  have l2 : Fx.fl ((raw - 1) * 1000000000) (1000000000 + tol) ≤ 2251799813685248 - 1 := fl_lt (by omega) (by omega)
  have e : dn raw tol = Fx.fl ((raw - 1) * 1000000000) (1000000000 + tol) := (Fx.q_in (by omega) (by omega) (by omega)).1.symm
  rw [e]; exact ⟨rfl, l1, by omega⟩
theorem up_bd {raw tol : Int} (h0 : 0 ≤ raw) (h1 : raw ≤ 2251799813685248) (t0 : 0 ≤ tol) (t1 : tol ≤ 500000) : up raw tol = Fx.fl (-(raw + 1) * 1000000000) (1000000000 - tol) ∧ -4503599627370498 ≤ up raw tol ∧ up raw tol ≤ -1 := by
  have l1 : -4503599627370498 ≤ Fx.fl (-(raw + 1) * 1000000000) (1000000000 - tol) := fl_ge (by omega) (by omega)
  have l2 : Fx.fl (-(raw + 1) * 1000000000) (1000000000 - tol) ≤ 0 - 1 := fl_lt (by omega) (by omega)
  have e : up raw tol = Fx.fl (-(raw + 1) * 1000000000) (1000000000 - tol) := (Fx.q_in (by omega) (by omega) (by omega)).1.symm
  rw [e]; exact ⟨rfl, l1, by omega⟩
/-- the law: true durations lie within the bounds -/
theorem drift_law (V : Vo p n z) {t d : Int} (ht : 0 ≤ t) (hd : 0 ≤ d) (hs : t + d ≤ 1125899906842624) :
    ∃ raw, rd p n z (t + d) - rd p n z t = raw ∧ 0 ≤ raw ∧ raw ≤ 2251799813685248 ∧ max 0 (dn raw (bo z n) + 1) ≤ d ∧ d ≤ -(up raw (bo z n)) - 1 := by
  have L := raw_law V ht hd hs
  have b1 := bo_le V n (Nat.le_refl _); have b0 := bo_nn (z := z) n
  obtain ⟨raw, hr⟩ : ∃ raw, rd p n z (t + d) - rd p n z t = raw := ⟨_, rfl⟩
  rw [hr] at L
  have h0 : 0 ≤ raw := by omega
  have h2 : d * (1000000000 + bo z n) ≤ d * 1000500000 := Int.mul_le_mul_of_nonneg_left (by omega) hd
  have h1 : raw ≤ 2251799813685248 := by omega
  refine ⟨raw, hr, h0, h1, ?_, ?_⟩
  · have e := dn_bd h0 h1 b0 b1
    have := fl_lt (show 0 < 1000000000 + bo z n by omega) L.1
    rw [e.1]; omega
  · have e := up_bd h0 h1 b0 b1
    have h3 : -(raw + 1) * 1000000000 < (-d) * (1000000000 - bo z n) := by rw [Int.neg_mul, Int.neg_mul]; omega
    have := fl_lt (show 0 < 1000000000 - bo z n by omega) h3
    rw [e.1]; omega
theorem rd_bd (V : Vo p n z) {t : Int} (ht : 0 ≤ t) (h1 : t ≤ 1125899906842624) : -4503599627370496 ≤ rd p n z t ∧ rd p n z t ≤ 4503599627370496 ∧ -10000000 ≤ Fx.fl (re n z t n) 1000000000 ∧ Fx.fl (re n z t n) 1000000000 ≤ 10000000 := by
  have w := wh_bd V t n (Nat.le_refl _); have r := re_bd V t n (Nat.le_refl _)
  have n2 := V.n2; have p1 := V.p1; have p2 := V.p2
  have l1 : -10000000 ≤ Fx.fl (re n z t n) 1000000000 := fl_ge (by omega) (by omega)
  have l2 : Fx.fl (re n z t n) 1000000000 ≤ 10000000 - 1 := fl_lt (by omega) (by omega)
  unfold rd
  omega
end
end Go.Proofs.Ytpkbhhconiklbaa.Tx
