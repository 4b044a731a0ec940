/- rank, same, few, awake of layer 25. -/
import Derived.Test.YtbbdeagllhmdiaaKr
set_option linter.unusedVariables false
set_option linter.unusedSimpArgs false
namespace Go.Proofs.Ytbbdeagllhmdiaa.CxW
open Go.RowKit
open Go.Proofs.Ytbbdeagllhmdiaa.Kx
theorem few_any (a : Option Addr) (n c : Nat) (w : World) : Calls Try.prog 9 #[.slice a n c] w fun e w' => e = .returned (.bool (decide (n ≤ 30))) ∧ w = w' := by
  go_enter Try.func9, Try.ntmps9
  go_wp2_with (fail)
  go_ret
  exact ⟨by rw [show decide (n ≤ 30) = decide ((n : Int) ≤ 30) from by rw [Bool.eq_iff_iff]; simp; omega] <;> rfl, rfl⟩
theorem few_at {a : Option Addr} {n c : Nat} {r : Bool} (h : Hid (decide (n ≤ 30) = r)) (w : World) : Calls Try.prog 9 #[.slice a n c] w fun e w' => e = .returned (.bool r) ∧ w = w' := by
  rw [← h.out]; exact few_any a n c w
set_option maxHeartbeats 2000000 in
theorem rank_one (x y : Cd) (h : bef x y) (w : World) : Calls Try.prog 21 #[.agg #[.int .i64 x.a, .int .i64 x.b, .int .i64 x.c, .int .i64 x.d, .int .i64 x.e], .agg #[.int .i64 y.a, .int .i64 y.b, .int .i64 y.c, .int .i64 y.d, .int .i64 y.e]] w fun e w' => e = .returned (.int .i64 1) ∧ Below w.heap.size w w' := by
  obtain ⟨xa, xb, xc, xd, xe⟩ := x
  obtain ⟨ya, yb, yc, yd, ye⟩ := y
  unfold bef at h
  simp only at h ⊢
  rcases h with h | ⟨h, h1 | ⟨h1, h2⟩⟩
  · have q : (xe != ye) = true := by simp; omega
    go_enter Try.func21, Try.ntmps21
    go_wp2_with (fail)
    go_ret
    exact ⟨rfl, by (repeat (first | exact Below.refl _ _ | refine Below.drew ?_ | refine Hp.drewN ?_ _ | refine Below.setCell ?_ (by first | (simp; done) | (simp; omega) | omega) _ | refine Below.alloc ?_ (by first | (simp; done) | (simp; omega) | omega) _ | (refine Hp.step ?_ (by assumption))))⟩
  · subst h
    have q : (xc != yc) = true := by simp; omega
    go_enter Try.func21, Try.ntmps21
    go_wp2_with (fail)
    go_ret
    exact ⟨rfl, by (repeat (first | exact Below.refl _ _ | refine Below.drew ?_ | refine Hp.drewN ?_ _ | refine Below.setCell ?_ (by first | (simp; done) | (simp; omega) | omega) _ | refine Below.alloc ?_ (by first | (simp; done) | (simp; omega) | omega) _ | (refine Hp.step ?_ (by assumption))))⟩
  · subst h; subst h1
    go_enter Try.func21, Try.ntmps21
    go_wp2_with (fail)
    go_ret
    exact ⟨rfl, by (repeat (first | exact Below.refl _ _ | refine Below.drew ?_ | refine Hp.drewN ?_ _ | refine Below.setCell ?_ (by first | (simp; done) | (simp; omega) | omega) _ | refine Below.alloc ?_ (by first | (simp; done) | (simp; omega) | omega) _ | (refine Hp.step ?_ (by assumption))))⟩
set_option maxHeartbeats 4000000 in
theorem same_list (l : List Cd) (a b : Option Addr) (c d : Nat) (hl : l.length ≤ 12) (w : World) (S : Cs w a l.length (zof l)) (T : Cs w b l.length (zof l)) :
    Calls Try.prog 13 #[.slice a l.length c, .slice b l.length d] w fun e w' => e = .returned (.bool true) ∧ Below w.heap.size w w' := by
  have hS := Lib.hid (fun k (h : k < l.length) => cell_of S h); have hT := Lib.hid (fun k (h : k < l.length) => cell_of T h)
  obtain ⟨n, hn⟩ : ∃ n, l.length = n := ⟨_, rfl⟩
  rw [hn] at hl hS hT ⊢
  clear S T hn
  go_enter Try.func13, Try.ntmps13
  go_wp2_with (fail)
  go_loopw [5] (fun c wr => ∃ k : Nat, k ≤ n ∧ c = .int .i64 k ∧ ∃ q, wr = w.drewN q) (fun c _ => n - (intOf c).toNat)
  case atStart => exact ⟨0, by omega, rfl, 0, rfl⟩
  case round =>
    obtain ⟨k, hk, rfl, q, rfl⟩ := hrel
    by_cases hlt : k < n
    · obtain ⟨b1, o1, rfl, g1, x0, x1, x2, x3, x4⟩ := hS.out k hlt
      obtain ⟨b2, o2, rfl, g2, y0, y1, y2, y3, y4⟩ := hT.out k hlt
      obtain ⟨x, ex⟩ : ∃ x, nth l k = x := ⟨_, rfl⟩
      rw [ex] at x0 x1 x2 x3 x4 y0 y1 y2 y3 y4
      obtain ⟨xa, xb, xc, xd, xe⟩ := x
      simp only at x0 x1 x2 x3 x4 y0 y1 y2 y3 y4
      clear ex
      go_wp2_with (fail)
      go_quiet (fail)
      go_wp2_with (fail)
      go_roundw
      case rel => exact ⟨k + 1, by omega, by go_num, _, by first | rfl | exact World.drewN_drewN _ _ _⟩
      case measure => (simp [intOf] <;> omega)
    · obtain rfl : n = k := by omega
      go_wp2_with (fail)
      go_ret
      exact ⟨rfl, Hp.drewN (Below.refl _ _) q⟩
theorem same_nil (w : World) : Calls Try.prog 13 #[.slice none 0 0, .slice none 0 0] w fun e w' => e = .returned (.bool true) ∧ Below w.heap.size w w' :=
  same_list [] none none 0 0 (by decide) w ⟨.inl rfl⟩ ⟨.inl rfl⟩
theorem cs_at {w : World} {g n : Nat} {z : Nat → Nat → Int} (S : Cs w (some ⟨g, 0, none⟩) n z) (i j : Nat) (hi : i < n) (hj : j < 5) : w.cell? ⟨g, i * 5 + j, none⟩ = some (.int .i64 (z i j)) := by
  rcases S.cells with h | ⟨b, o, ha, hb, hc⟩
  · omega
  · injection ha with ha; injection ha with e1 e2
    subst e1; subst e2
    have := hc i j hi hj
    rwa [Nat.zero_add] at this
def e0 : List Cd := [⟨7, 0, 10, 5, 2⟩, ⟨3, 6, 10, 5, 2⟩, ⟨9, 100, 5, 5, 3⟩]
def e1 : List Cd := [⟨3, 6, 10, 5, 2⟩, ⟨7, 0, 10, 5, 2⟩, ⟨9, 100, 5, 5, 3⟩]
def p1 : List Cd := [⟨3, 6, 10, 5, 2⟩]
def p2 : List Cd := [⟨3, 6, 10, 5, 2⟩, ⟨7, 0, 10, 5, 2⟩]
theorem e_val : Val e0 := (val_iff e0).1 (by decide +kernel)
theorem e_ord : ord e0 = e1 := rfl
theorem e_sys : sysV e0 = 3 ∧ sysB e0 = true := ⟨by decide +kernel, by decide +kernel⟩
theorem spr_val {l : List Cd} {x : Cd} {v r : Int} (h : sqN l x l.length / ((l.length : Int) - 1) = v) (h0 : 0 ≤ r) (h1 : r * r ≤ v) (h2 : v < (r + 1) * (r + 1)) : spr l x = r := by
  unfold spr; rw [h]; exact Fx.isq_unique h0 h1 h2
theorem s0 : spr e1 (nth e1 0) = 66 := spr_val (v := 4436) (by decide +kernel) (by decide) (by decide) (by decide)
theorem s1 : spr e1 (nth e1 1) = 70 := spr_val (v := 5018) (by decide +kernel) (by decide) (by decide) (by decide)
theorem s2 : spr e1 (nth e1 2) = 97 := spr_val (v := 9418) (by decide +kernel) (by decide) (by decide) (by decide)
theorem t0 : spr p2 (nth p2 0) = 6 := spr_val (v := 36) (by decide +kernel) (by decide) (by decide) (by decide)
theorem t1 : spr p2 (nth p2 1) = 6 := spr_val (v := 36) (by decide +kernel) (by decide) (by decide) (by decide)
theorem e1_val : Val e1 := by rw [← e_ord]; exact e_val.ord
theorem e_s0 : sprd e1 0 = 66 := (sprd_val e1_val (i := 0) (by decide) (by decide)).trans s0
theorem e_s1 : sprd e1 1 = 70 := (sprd_val e1_val (i := 1) (by decide) (by decide)).trans s1
theorem e_s2 : sprd e1 2 = 97 := (sprd_val e1_val (i := 2) (by decide) (by decide)).trans s2
theorem e_s3 : sprd e1 3 = 0 := sprd_out (.inr (.inl (by decide)))
theorem f3 : far e1 3 = (2, 97) := by simp [far, s0, s1, s2]
theorem f2 : far p2 2 = (1, 6) := by simp [far, t0, t1]
theorem q1 (keep : Int) (h : keep < 3) (m : Nat) : prn keep (m + 1) e1 = prn keep m p2 := by
  have c : keep < ((e1.length : Nat) : Int) ∧ jt e1 e1.length < (far e1 e1.length).2 := ⟨by rw [show e1.length = 3 from rfl]; exact h, by rw [show e1.length = 3 from rfl, f3]; decide⟩
  simp only [prn]
  rw [if_pos c, show e1.length = 3 from rfl, f3]
  rfl
theorem q2 (m : Nat) : prn 1 (m + 1) p2 = prn 1 m p1 := by
  have c : (1 : Int) < ((p2.length : Nat) : Int) ∧ jt p2 p2.length < (far p2 p2.length).2 := ⟨by decide, by rw [show p2.length = 2 from rfl, f2]; decide⟩
  simp only [prn]
  rw [if_pos c, show p2.length = 2 from rfl, f2]
  rfl
theorem e_p1 : prune 1 e0 = p1 := by
  show prn 1 3 (ord e0) = p1
  rw [e_ord, q1 1 (by decide), q2]
  exact prn_stay (fun h => absurd h.1 (by decide))
theorem e_p2 : prune 2 e0 = p2 := by
  show prn 2 3 (ord e0) = p2
  rw [e_ord, q1 2 (by decide)]
  exact prn_stay (fun h => absurd h.1 (by decide))
end Go.Proofs.Ytbbdeagllhmdiaa.CxW
