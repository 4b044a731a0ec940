/- Plain laws of weighted sums of candidates. -/
import Derived.Test.YtdnpidcchcefeaaCx
set_option linter.unusedVariables false
set_option linter.unusedSimpArgs false
namespace Go.Proofs.Ytdnpidcchcefeaa.Cx
/-- part i of the weighted sum of x, as MulDiv gives it -/
def pt (n : Nat) (z : Nat → Nat → Int) (x : Nat → Int) (i : Nat) : Int := Fx.qV (tot z n) (Fx.fl (wt (z i 2) * x i) (tot z n))
def ws (n : Nat) (z : Nat → Nat → Int) (x : Nat → Int) (k : Nat) : Int := sum (pt n z x) k
/-- weight i is at most their sum -/
theorem wt_tot {n : Nat} {z : Nat → Nat → Int} (h : chk n z = 0) {i : Nat} (hi : i < n) : 1 ≤ wt (z i 2) ∧ wt (z i 2) ≤ tot z n := by
  obtain ⟨h1, _, h3⟩ := chk_ok h
  have a := (tot_bd h i (by omega)).1
  have b := (tot_bd h (i + 1) (by omega)).2.1
  have e : tot z (i + 1) = tot z i + wt (z i 2) := rfl
  have := (wt_bd (h3 i hi).2.2.2.2.1).1
  omega
/-- one part: between the bounds, and its product with the sum of the weights -/
theorem pt_bd {n : Nat} {z : Nat → Nat → Int} {x : Nat → Int} {lo hi : Int} (h : chk n z = 0) {i : Nat} (hn : i < n) (l0 : lo ≤ 0) (h0 : 0 ≤ hi) (l1 : -4611686018427387904 ≤ lo) (h1 : hi ≤ 4611686018427387904) (hl : lo ≤ x i) (hh : x i ≤ hi) :
    Fx.qOk (tot z n) (Fx.fl (wt (z i 2) * x i) (tot z n)) = true ∧ lo ≤ pt n z x i ∧ pt n z x i ≤ hi ∧ pt n z x i * tot z n ≤ hi * wt (z i 2) ∧ lo * wt (z i 2) ≤ pt n z x i * tot z n + (tot z n - 1) := by
  obtain ⟨w1, w2⟩ := wt_tot h hn
  obtain ⟨T, hT⟩ : ∃ T, T = tot z n := ⟨_, rfl⟩
  obtain ⟨u, hu⟩ : ∃ u, u = wt (z i 2) := ⟨_, rfl⟩
  obtain ⟨q, r, hq, e, hr⟩ := Fx.fl_facts (u * x i) T (by omega)
  have p1 : u * x i ≤ u * hi := Int.mul_le_mul_of_nonneg_left hh (by omega)
  have p2 : u * lo ≤ u * x i := Int.mul_le_mul_of_nonneg_left hl (by omega)
  have p3 : u * hi ≤ T * hi := Int.mul_le_mul_of_nonneg_right (by omega) h0
  have p4 : T * lo ≤ u * lo := by
    have := Int.mul_le_mul_of_nonneg_right (show u ≤ T by omega) (show 0 ≤ -lo by omega)
    rw [Int.mul_neg, Int.mul_neg] at this; omega
  have hr' : 0 ≤ r ∧ r < T := by omega
  have q1 : q ≤ hi := by
    apply Int.not_lt.1; intro l
    have := Int.mul_le_mul_of_nonneg_right (show hi + 1 ≤ q by omega) (show 0 ≤ T by omega)
    rw [Int.add_mul, Int.mul_comm hi T] at this; omega
  have q2 : lo ≤ q := by
    apply Int.not_lt.1; intro l
    have := Int.mul_le_mul_of_nonneg_right (show q + 1 ≤ lo by omega) (show 0 ≤ T by omega)
    rw [Int.add_mul, Int.mul_comm lo T] at this; omega
  have hk : Fx.qOk T (Fx.fl (u * x i) T) = true := Fx.qOk_iff.2 (by rw [hq]; omega)
  have hp : pt n z x i = q := by unfold pt; rw [← hT, ← hu, Fx.qV_of hk, hq]
  rw [hp, ← hT, ← hu]
  refine ⟨hk, q2, q1, ?_, ?_⟩
  · rw [Int.mul_comm hi u]; omega
  · rw [Int.mul_comm lo u]; omega
/-- the weighted sum lies between the bounds, less one for each part -/
theorem ws_prod {n : Nat} {z : Nat → Nat → Int} {x : Nat → Int} {lo hi : Int} (h : chk n z = 0) (l0 : lo ≤ 0) (h0 : 0 ≤ hi) (l1 : -4611686018427387904 ≤ lo) (h1 : hi ≤ 4611686018427387904) (hx : ∀ i, i < n → lo ≤ x i ∧ x i ≤ hi) :
    ∀ k, k ≤ n → ws n z x k * tot z n ≤ hi * tot z k ∧ lo * tot z k ≤ ws n z x k * tot z n + k * (tot z n - 1)
  | 0, _ => by simp [ws, tot, sum]
  | k + 1, hk => by
    obtain ⟨i1, i2⟩ := ws_prod h l0 h0 l1 h1 hx k (by omega)
    obtain ⟨_, _, _, p1, p2⟩ := pt_bd (x := x) h (show k < n by omega) l0 h0 l1 h1 (hx k (by omega)).1 (hx k (by omega)).2
    have e1 : ws n z x (k + 1) = ws n z x k + pt n z x k := rfl
    have e2 : tot z (k + 1) = tot z k + wt (z k 2) := rfl
    rw [e1, e2, Int.add_mul, Int.mul_add, Int.mul_add, show ((k + 1 : Nat) : Int) * (tot z n - 1) = k * (tot z n - 1) + (tot z n - 1) by rw [Int.natCast_add]; simp [Int.add_mul]]
    omega
theorem ws_bd {n : Nat} {z : Nat → Nat → Int} {x : Nat → Int} {lo hi : Int} (h : chk n z = 0) (hn : 0 < n) (l0 : lo ≤ 0) (h0 : 0 ≤ hi) (l1 : -4611686018427387904 ≤ lo) (h1 : hi ≤ 4611686018427387904) (hx : ∀ i, i < n → lo ≤ x i ∧ x i ≤ hi) (k : Nat) (hk : k ≤ n) :
    lo - k ≤ ws n z x k ∧ ws n z x k ≤ hi := by
  obtain ⟨p1, p2⟩ := ws_prod h l0 h0 l1 h1 hx k hk
  obtain ⟨t0, t1, _⟩ := tot_bd h k hk
  have tp := tot_pos h hn
  obtain ⟨T, hT⟩ : ∃ T, T = tot z n := ⟨_, rfl⟩
  obtain ⟨S, hS⟩ : ∃ S, S = ws n z x k := ⟨_, rfl⟩
  obtain ⟨U, hU⟩ : ∃ U, U = tot z k := ⟨_, rfl⟩
  rw [← hT, ← hS, ← hU] at p1 p2
  rw [← hT, ← hU] at t1
  rw [← hU] at t0
  rw [← hT] at tp
  rw [← hS]
  have a1 : hi * U ≤ hi * T := Int.mul_le_mul_of_nonneg_left t1 h0
  have a2 : lo * T ≤ lo * U := by
    have := Int.mul_le_mul_of_nonneg_left t1 (show 0 ≤ -lo by omega)
    rw [Int.neg_mul, Int.neg_mul] at this; omega
  have kT : (k : Int) * (T - 1) = k * T - k := by rw [Int.mul_sub]; omega
  constructor
  · apply Int.not_lt.1; intro l
    have := Int.mul_le_mul_of_nonneg_right (show S + 1 ≤ lo - k by omega) (show 0 ≤ T by omega)
    rw [Int.add_mul, Int.sub_mul] at this
    omega
  · apply Int.not_lt.1; intro l
    have := Int.mul_le_mul_of_nonneg_right (show hi + 1 ≤ S by omega) (show 0 ≤ T by omega)
    rw [Int.add_mul] at this
    omega
/-- the mean -/
def dif (z : Nat → Nat → Int) (i : Nat) : Int := z i 1 - z 0 1
def mean (n : Nat) (z : Nat → Nat → Int) : Int := if chk n z = 0 ∧ 0 < n then z 0 1 + ws n z (dif z) n else 0
def meanE (n : Nat) (z : Nat → Nat → Int) : Int := if chk n z = 0 then (if 0 < n then 0 else 14) else chk n z
theorem dif_bd {n : Nat} {z : Nat → Nat → Int} (h : chk n z = 0) {i : Nat} (hi : i < n) : -9007199254740992 ≤ dif z i ∧ dif z i ≤ 9007199254740992 := by
  obtain ⟨_, _, h3⟩ := chk_ok h
  have := h3 i hi; have := h3 0 (by omega)
  unfold dif; omega
theorem mean_bd {n : Nat} {z : Nat → Nat → Int} (h : chk n z = 0) (hn : 0 < n) : -18014398509481984 ≤ mean n z ∧ mean n z ≤ 18014398509481984 := by
  obtain ⟨h1, _, h3⟩ := chk_ok h
  have := ws_bd (x := dif z) h hn (lo := -9007199254740992) (hi := 9007199254740992) (by omega) (by omega) (by omega) (by omega) (fun i hi => dif_bd h hi) n (Nat.le_refl _)
  have := h3 0 hn
  unfold mean; rw [if_pos ⟨h, hn⟩]; omega
/-- the jitter -/
def far (a m : Int) : Int := Fx.iabs (a - m)
def near (a m : Int) : Int := min (far a m) 1073741824
def sq (n : Nat) (z : Nat → Nat → Int) (i : Nat) : Int := near (z i 1) (mean n z) * near (z i 1) (mean n z)
theorem near_bd (a m : Int) : 0 ≤ near a m ∧ near a m ≤ 1073741824 := by
  have := Fx.iabs_nonneg (a - m)
  unfold near far; omega
theorem sq_bd (n : Nat) (z : Nat → Nat → Int) (i : Nat) : 0 ≤ sq n z i ∧ sq n z i ≤ 1152921504606846976 := by
  have := near_bd (z i 1) (mean n z)
  refine ⟨Int.mul_nonneg this.1 this.1, ?_⟩
  have := Int.mul_le_mul this.2 this.2 this.1 (by omega)
  unfold sq; omega
theorem sq_pt {n : Nat} {z : Nat → Nat → Int} (h : chk n z = 0) {i : Nat} (hi : i < n) : 0 ≤ pt n z (sq n z) i :=
  (pt_bd (x := sq n z) h hi (lo := 0) (hi := 1152921504606846976) (by omega) (by omega) (by omega) (by omega) (sq_bd n z i).1 (sq_bd n z i).2).2.1
theorem sqs_bd {n : Nat} {z : Nat → Nat → Int} (h : chk n z = 0) (hn : 0 < n) (k : Nat) (hk : k ≤ n) : 0 ≤ ws n z (sq n z) k ∧ ws n z (sq n z) k ≤ 1152921504606846976 := by
  refine ⟨?_, (ws_bd (x := sq n z) h hn (lo := 0) (hi := 1152921504606846976) (by omega) (by omega) (by omega) (by omega) (fun i _ => sq_bd n z i) k hk).2⟩
  exact (sum_mono k (fun i hi => sq_pt h (by omega)) k (Nat.le_refl _)).1
def jit (n : Nat) (z : Nat → Nat → Int) : Int := if chk n z = 0 ∧ 0 < n then Fx.isq (ws n z (sq n z) n) else 0
/-- the least distance, over the first k -/
def leastN (z : Nat → Nat → Int) (m : Int) : Nat → Int
  | 0 => z 0 2 + far (z 0 1) m
  | k + 1 => min (leastN z m k) (z k 2 + far (z k 1) m)
def dist (n : Nat) (z : Nat → Nat → Int) : Int := if chk n z = 0 ∧ 0 < n then leastN z (mean n z) n else 0
theorem far_bd {n : Nat} {z : Nat → Nat → Int} (h : chk n z = 0) {i : Nat} (hi : i < n) : 0 ≤ far (z i 1) (mean n z) ∧ far (z i 1) (mean n z) ≤ 36028797018963968 := by
  obtain ⟨_, _, h3⟩ := chk_ok h
  have := h3 i hi; have := mean_bd h (show 0 < n by omega)
  unfold far Fx.iabs; split <;> omega
theorem leastN_bd {n : Nat} {z : Nat → Nat → Int} (h : chk n z = 0) (hn : 0 < n) : ∀ k, k ≤ n → 0 ≤ leastN z (mean n z) k ∧ leastN z (mean n z) k ≤ 72057594037927936
  | 0, _ => by
    obtain ⟨_, _, h3⟩ := chk_ok h
    have := h3 0 hn; have := far_bd h hn
    unfold leastN; omega
  | k + 1, hk => by
    obtain ⟨_, _, h3⟩ := chk_ok h
    have := h3 k (by omega); have := far_bd h (show k < n by omega)
    have := leastN_bd h hn k (by omega)
    unfold leastN; omega
end Go.Proofs.Ytdnpidcchcefeaa.Cx
