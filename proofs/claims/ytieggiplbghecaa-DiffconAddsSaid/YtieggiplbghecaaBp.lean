/- Contracts of layer 51: awake. -/
import Derived.Test.YtieggiplbghecaaBo
import Derived.Test.YtieggiplbghecaaBn
import Derived.Test.YtieggiplbghecaaBh
import Derived.Deep.RegionHeld3
set_option linter.unusedVariables false
set_option linter.unusedSimpArgs false
namespace Go.Proofs.Ytieggiplbghecaa.BxW
open Go.RowKit Ls Orw Rv Rw
def lst (l : List Int) (i : Nat) : Int := l.getD i 0
def con (l : List (List Int)) (i j : Nat) : Int := (l.getD i []).getD j 0
def ex1 : Nat → Nat → Int := con [[0, 1, 5], [1, 2, -2]]
def ex2 : Nat → Nat → Int := con [[0, 1, 1], [1, 0, -2]]
def exw : Nat → Nat → Int := con [[0, 5, 3], [4611686018427387904, 0, -2], [4611686018427387904, 4611686018427387904, 0]]
theorem two {i : Nat} (h : i < 2) : i = 0 ∨ i = 1 := by omega
theorem v1 : Bx.Vs 3 2 ex1 := ⟨by decide, by decide, by decide, by decide +kernel⟩
theorem v2 : Bx.Vs 2 2 ex2 := ⟨by decide, by decide, by decide, by decide +kernel⟩
theorem st1 : Bx.St 3 ex1 2 2 := by unfold Bx.St; decide +kernel
theorem st2 : ¬ Bx.St 2 ex2 2 1 := by unfold Bx.St; decide +kernel
theorem f1 : ∀ i, i < 3 → ∀ j, j < 3 → Bx.F ex1 2 3 i j = exw i j := by decide +kernel
theorem bf1 : ∀ i, i < 3 → Bx.bf ex1 2 2 i = lst [0, 0, -2] i := by decide +kernel
theorem tx1 : ∀ i, i < 3 → Bx.tx ex1 2 (Bx.F ex1 2 3 1) (Bx.bf ex1 2 2) i = lst [0, 0, -2] i := by decide +kernel
theorem h1 : holds ex1 (lst [0, 0, -2]) 3 2 = true := by decide +kernel
theorem h2 : holds ex1 (lst []) 0 2 = false := by decide +kernel
theorem fz0 : ∀ i, i < 2 → ∀ j, j < 3 → -9223372036854775808 ≤ ex1 i j ∧ ex1 i j ≤ 9223372036854775807 := by decide +kernel
theorem fz1 : FitZ 2 ex1 := fun i j hi hj => fz0 i hi j hj
theorem fx1 : Fit 3 (lst [0, 0, -2]) := by unfold Fit; decide +kernel
theorem fx0 : Fit 0 (lst []) := fun i hi => by omega
theorem neg2 {s : List Int} (h : Bx.Neg 2 2 ex2 s) : s.length = 2 ∧ s.getD 0 0 + s.getD 1 0 = 1 ∧ 0 ≤ s.getD 0 0 ∧ s.getD 0 0 ≤ 1 ∧ 0 ≤ s.getD 1 0 ∧ s.getD 1 0 ≤ 1 := by
  have hp := h.pos; have hl := h.len
  have o0 := h.c.ok 0 hp
  obtain ⟨a, ha⟩ := Int.eq_ofNat_of_zero_le o0.1
  have fa : Bx.fl ex2 s 0 = Bx.fr ex2 a := by unfold Bx.fl; rw [ha]; rfl
  have ta : Bx.tl ex2 s 0 = Bx.to ex2 a := by unfold Bx.tl; rw [ha]; rfl
  have a2 : a = 0 ∨ a = 1 := by omega
  by_cases e : s.length = 1
  · exfalso
    have hb := h.back
    rw [e, show 1 - 1 = 0 from rfl, fa, ta] at hb
    rcases a2 with rfl | rfl
    · revert hb; decide +kernel
    · revert hb; decide +kernel
  · have o1 := h.c.ok 1 (by omega)
    obtain ⟨b, hb⟩ := Int.eq_ofNat_of_zero_le o1.1
    have fb : Bx.fl ex2 s 1 = Bx.fr ex2 b := by unfold Bx.fl; rw [hb]; rfl
    have ap := h.c.apart 0 1 (by omega) (by omega)
    rw [fa, fb] at ap
    have b2 : b = 0 ∨ b = 1 := by omega
    refine ⟨by omega, ?_, by omega, by omega, by omega, by omega⟩
    rw [ha, hb]
    rcases a2 with rfl | rfl <;> rcases b2 with rfl | rfl
    · exact absurd rfl ap
    · rfl
    · rfl
    · exact absurd rfl ap
theorem ss_new {w : World} {g : Nat} {l : List (List Int)} {cs : Array Value} (hg : w.heap[g]? = some (.cells cs 40 (0, 0))) (hc : ∀ i, i < l.length → ∀ j, j < 3 → cs[i * 3 + j]? = some (.int .i64 (con l i j))) : Ss 3 w (some ⟨g, 0, none⟩) l.length (con l) :=
  ⟨.inr ⟨g, 0, rfl, Hp.blk_lt hg, fun i j hi hj => by rw [Nat.zero_add]; exact Hp.blk_cell hg (hc i hi j hj)⟩⟩
def R1 : Obj := .cells #[.int .i64 0, .int .i64 1, .int .i64 5, .int .i64 1, .int .i64 2, .int .i64 (-2)] 40
def R2 : Obj := .cells #[.int .i64 0, .int .i64 1, .int .i64 1, .int .i64 1, .int .i64 0, .int .i64 (-2)] 40
theorem ss1 (w : World) : Ss 3 (w.alloc R1) (some ⟨w.heap.size, 0, none⟩) 2 ex1 := by
  refine ss_new (l := [[0, 1, 5], [1, 2, -2]]) (Hp.blk_new _ _) fun i hi j hj => ?_
  have hi' : i < 2 := hi
  have hj' : j = 0 ∨ j = 1 ∨ j = 2 := by omega
  rcases two hi' with rfl | rfl <;> rcases hj' with rfl | rfl | rfl <;> rfl
theorem ss2 (w : World) : Ss 3 (w.alloc R2) (some ⟨w.heap.size, 0, none⟩) 2 ex2 := by
  refine ss_new (l := [[0, 1, 1], [1, 0, -2]]) (Hp.blk_new _ _) fun i hi j hj => ?_
  have hi' : i < 2 := hi
  have hj' : j = 0 ∨ j = 1 ∨ j = 2 := by omega
  rcases two hi' with rfl | rfl <;> rcases hj' with rfl | rfl | rfl <;> rfl
theorem is_new (w : World) (l : List Int) {g : Nat} (hg : g = w.heap.size) : Is (w.alloc (.cells (l.map (Value.int .i64)).toArray 3)) (some ⟨g, 0, none⟩) l.length (lst l) := by
  subst hg
  refine Is.of_block (Hp.blk_new _ _) fun i hi => ?_
  simp [lst, List.getD_eq_getElem?_getD, hi]
def ra : Obj := .cells #[.int .i64 0, .int .i64 5, .int .i64 3] 3
def rb : Obj := .cells #[.int .i64 4611686018427387904, .int .i64 0, .int .i64 (-2)] 3
def rc : Obj := .cells #[.int .i64 4611686018427387904, .int .i64 4611686018427387904, .int .i64 0] 3
def ro (s : Nat) : Obj := .cells #[.slice (some ⟨s, 0, none⟩) 3 3, .slice (some ⟨s + 1, 0, none⟩) 3 3, .slice (some ⟨s + 1 + 1, 0, none⟩) 3 3] 32
theorem want_mr (w : World) : Mr ((((w.alloc ra).alloc rb).alloc rc).alloc (ro w.heap.size)) (some ⟨w.heap.size + 1 + 1 + 1, 0, none⟩) 3 exw := by
  have ho : ((((w.alloc ra).alloc rb).alloc rc).alloc (ro w.heap.size)).heap[w.heap.size + 1 + 1 + 1]? = some (ro w.heap.size) := by
    have := Hp.blk_new (((w.alloc ra).alloc rb).alloc rc) (ro w.heap.size); simpa using this
  have h0 : ((((w.alloc ra).alloc rb).alloc rc).alloc (ro w.heap.size)).heap[w.heap.size]? = some ra := Hp.blk_old (Hp.blk_old (Hp.blk_old (Hp.blk_new _ _)))
  have h1 : ((((w.alloc ra).alloc rb).alloc rc).alloc (ro w.heap.size)).heap[w.heap.size + 1]? = some rb := by
    have := Hp.blk_old (y := ro w.heap.size) (Hp.blk_old (y := rc) (Hp.blk_new (w.alloc ra) rb)); simpa using this
  have h2 : ((((w.alloc ra).alloc rb).alloc rc).alloc (ro w.heap.size)).heap[w.heap.size + 1 + 1]? = some rc := by
    have := Hp.blk_old (y := ro w.heap.size) (Hp.blk_new ((w.alloc ra).alloc rb) rc); simpa using this
  refine ⟨.inr ⟨w.heap.size + 1 + 1 + 1, 0, fun i => some ⟨w.heap.size + i, 0, none⟩, fun _ => 3, rfl, Hp.blk_lt ho, fun i hi => ?_⟩⟩
  have hi' : i = 0 ∨ i = 1 ∨ i = 2 := by omega
  rcases hi' with rfl | rfl | rfl
  · refine ⟨Hp.blk_cell ho rfl, Is.of_block h0 fun j hj => ?_⟩
    have hj' : j = 0 ∨ j = 1 ∨ j = 2 := by omega
    rcases hj' with rfl | rfl | rfl <;> rfl
  · refine ⟨Hp.blk_cell ho rfl, Is.of_block h1 fun j hj => ?_⟩
    have hj' : j = 0 ∨ j = 1 ∨ j = 2 := by omega
    rcases hj' with rfl | rfl | rfl <;> rfl
  · refine ⟨Hp.blk_cell ho rfl, Is.of_block h2 fun j hj => ?_⟩
    have hj' : j = 0 ∨ j = 1 ∨ j = 2 := by omega
    rcases hj' with rfl | rfl | rfl <;> rfl
set_option maxHeartbeats 16000000 in
set_option maxRecDepth 4000 in
theorem awake51_any (w : World) :
    Calls Try.prog 12 #[] w fun e w' => e = .returned (.bool true) ∧ Below w.heap.size w w' := by
  have S0 := Lib.hid (ss1 w)
  have B0 := Lib.hid ((Below.refl w.heap.size w).alloc (Nat.le_refl _) R1)
  have F1 := Lib.hid f1
  unfold R1 at S0 B0
  go_enter Try.func12, Try.ntmps12
  go_wp2_with (fail)
  refine (bounds_ok 3 _ 2 2 ex1 v1 st1 _ S0.out).mono ?_
  rintro e w1 ⟨g1, rfl, M1, hg1, B1⟩
  have HB1 := Lib.hid (B0.out.trans (B1.mono B0.out.size)); have S1 := Lib.hid (S0.out.later B1)
  have MR1 := Lib.hid ((M1.congr fun i j hi hj => f1 i hi j hj).mr)
  clear M1 B1
  go_wp2_with (fail)
  refine (solve_ok 3 _ 2 2 ex1 v1 st1 _ S1.out).mono ?_
  rintro e w2 ⟨g2, rfl, O2, hg2, B2⟩
  have HB2 := Lib.hid (bl_next HB1.out B2); have S2 := Lib.hid (S1.out.later B2); have MR2 := Lib.hid (MR1.out.later B2)
  have I2 := Lib.hid ((O2.congr bf1).is)
  clear O2 B2
  go_wp2_with (fail)
  refine (tight_ok 3 _ 2 2 ex1 v1 st1 1 2 (by decide) (by decide) (by rw [F1.out 1 (by decide) 2 (by decide)]; decide +kernel) _ S2.out).mono ?_
  rintro e w3 ⟨g3, rfl, O3, hg3, B3⟩
  have HB3 := Lib.hid (bl_next HB2.out B3); have S3 := Lib.hid (S2.out.later B3); have MR3 := Lib.hid (MR2.out.later B3); have I3 := Lib.hid (I2.out.later B3)
  have J3 := Lib.hid ((O3.congr tx1).is)
  clear O3 B3
  have S3' := Lib.hid (ss2 w3)
  have B3' := Lib.hid ((Below.refl w3.heap.size w3).alloc (Nat.le_refl _) R2)
  unfold R2 at S3' B3'
  go_wp2_with (fail)
  refine (cycle_yes 2 _ 2 2 ex2 v2 st2 _ S3'.out).mono ?_
  rintro e w4 ⟨v, s, rfl, RW, NG, B4⟩
  obtain ⟨n1, n2, n3, n4, n5, n6⟩ := neg2 NG
  obtain ⟨g4, c4, rfl, hc4, hg4⟩ := row_at0 RW n1 (by omega)
  have p0 := row_cell RW (j := 0) (by omega)
  have p1 := row_cell RW (j := 1) (by omega)
  obtain ⟨A, hA⟩ : ∃ A, s.getD 0 0 = A := ⟨_, rfl⟩
  obtain ⟨B, hB⟩ : ∃ A, s.getD 1 0 = A := ⟨_, rfl⟩
  rw [hA] at p0 n2 n3 n4; rw [hB] at p1 n2 n5 n6
  have B34 := B3'.out.trans (B4.mono B3'.out.size)
  have K6 := (((Below.refl w4.heap.size w4).alloc (Nat.le_refl _) ra).alloc (by simp) rb).alloc (by simp; omega) rc |>.alloc (by simp; omega) (ro w4.heap.size)
  have MX := want_mr w4
  have hz6 : ((((w4.alloc ra).alloc rb).alloc rc).alloc (ro w4.heap.size)).heap.size = w4.heap.size + 1 + 1 + 1 + 1 := by simp
  obtain ⟨W6, hW⟩ : ∃ W6, (((w4.alloc ra).alloc rb).alloc rc).alloc (ro w4.heap.size) = W6 := ⟨_, rfl⟩
  rw [hW] at K6 MX hz6
  have HB6 := Lib.hid (bl_next (bl_next HB3.out B34) K6)
  have K36 := B34.trans (K6.mono B34.size)
  have S6 := Lib.hid (S3.out.later K36); have MR6 := Lib.hid (MR3.out.later K36); have I6 := Lib.hid (I3.out.later K36); have J6 := Lib.hid (J3.out.later K36); have MX6 := Lib.hid MX
  have P0 := (K6.cell (p := ⟨g4, 0, none⟩) hg4).trans p0
  have P1 := (K6.cell (p := ⟨g4, 1, none⟩) hg4).trans p1
  have g46 : g4 < W6.heap.size := by omega
  have HZ := Lib.hid hz6
  unfold ra rb rc ro at hW
  clear RW NG B4 B34 K6 K36 MX p0 p1 hA hB n1 hz6 S0 B0 F1
  go_wp2_with (fail)
  have B66 : Below W6.heap.size W6 W6 := Below.refl _ _
  clear hW hc4 hg4 n3 n4 n5 n6 hg1 hg2 hg3 S1 MR1 S2 MR2 I2 S3 MR3 I3 J3 S3' B3' HB1 HB2 HB3
  have hAB : A + B = 1 := n2
  have SO := Lib.hid (fun w' (h : Below W6.heap.size W6 w') => show w'.cell? ⟨g4, 0, none⟩ = some (.int .i64 A) ∧ w'.cell? ⟨g4, 1, none⟩ = some (.int .i64 B) from ⟨(h.cell (p := ⟨g4, 0, none⟩) g46).trans P0, (h.cell (p := ⟨g4, 1, none⟩) g46).trans P1⟩)
  go_region_held3 (fun w' => w'.cell? ⟨g4, 0, none⟩ = some (.int .i64 A) ∧ w'.cell? ⟨g4, 1, none⟩ = some (.int .i64 B)) (first | go_keep | exact SO.out _ (by (repeat (first | exact Below.refl _ _ | refine Below.drew ?_ | refine Hp.drewN ?_ _ | refine Below.setCell ?_ (by first | (simp; done) | (simp; omega) | omega) _ | refine Below.alloc ?_ (by first | (simp; done) | (simp; omega) | omega) _ | (refine Hp.step ?_ (by assumption)))))) (first
    | (go_at_call 17; with_reducible refine (same_eq (f := exw) _ ?_ ?_ (by omega)).mono ?_; (exact MR6.out.later (by (repeat (first | exact Below.refl _ _ | refine Below.drew ?_ | refine Hp.drewN ?_ _ | refine Below.setCell ?_ (by first | (simp; done) | (simp; omega) | omega) _ | refine Below.alloc ?_ (by first | (simp; done) | (simp; omega) | omega) _ | (refine Hp.step ?_ (by assumption)))))); (exact MX6.out.later (by (repeat (first | exact Below.refl _ _ | refine Below.drew ?_ | refine Hp.drewN ?_ _ | refine Below.setCell ?_ (by first | (simp; done) | (simp; omega) | omega) _ | refine Below.alloc ?_ (by first | (simp; done) | (simp; omega) | omega) _ | (refine Hp.step ?_ (by assumption)))))); rintro en w' ⟨rfl, qa, rfl⟩)
    | (go_at_call 22; refine (equal_same (x := lst [0, 0, -2]) _ ?_ ?_ (by omega)).mono ?_; (first | exact I6.out.later (by (repeat (first | exact Below.refl _ _ | refine Below.drew ?_ | refine Hp.drewN ?_ _ | refine Below.setCell ?_ (by first | (simp; done) | (simp; omega) | omega) _ | refine Below.alloc ?_ (by first | (simp; done) | (simp; omega) | omega) _ | (refine Hp.step ?_ (by assumption))))) | exact J6.out.later (by (repeat (first | exact Below.refl _ _ | refine Below.drew ?_ | refine Hp.drewN ?_ _ | refine Below.setCell ?_ (by first | (simp; done) | (simp; omega) | omega) _ | refine Below.alloc ?_ (by first | (simp; done) | (simp; omega) | omega) _ | (refine Hp.step ?_ (by assumption)))))); (exact is_new _ [0, 0, -2] (by simp)); rintro en w' ⟨rfl, qa, rfl⟩)
    | (go_at_call 23; with_reducible refine (holds_any _ 2 2 ex1 (some _) 3 3 (lst [0, 0, -2]) _ ?_ ?_ fz1 fx1 (by omega) (by omega)).mono ?_; (exact S6.out.later (by (repeat (first | exact Below.refl _ _ | refine Below.drew ?_ | refine Hp.drewN ?_ _ | refine Below.setCell ?_ (by first | (simp; done) | (simp; omega) | omega) _ | refine Below.alloc ?_ (by first | (simp; done) | (simp; omega) | omega) _ | (refine Hp.step ?_ (by assumption)))))); (exact I6.out.later (by (repeat (first | exact Below.refl _ _ | refine Below.drew ?_ | refine Hp.drewN ?_ _ | refine Below.setCell ?_ (by first | (simp; done) | (simp; omega) | omega) _ | refine Below.alloc ?_ (by first | (simp; done) | (simp; omega) | omega) _ | (refine Hp.step ?_ (by assumption)))))); rw [h1]; rintro en w' ⟨rfl, hbA⟩)
    | (go_at_call 23; with_reducible refine (holds_any _ 2 2 ex1 none 0 0 (lst []) _ ?_ ⟨.inl rfl⟩ fz1 fx0 (by omega) (by omega)).mono ?_; (exact S6.out.later (by (repeat (first | exact Below.refl _ _ | refine Below.drew ?_ | refine Hp.drewN ?_ _ | refine Below.setCell ?_ (by first | (simp; done) | (simp; omega) | omega) _ | refine Below.alloc ?_ (by first | (simp; done) | (simp; omega) | omega) _ | (refine Hp.step ?_ (by assumption)))))); rw [h2]; rintro en w' ⟨rfl, hbB⟩))
  all_goals
    go_wp2_with (fail)
    go_ret
    refine ⟨rfl, bl_next HB6.out ?_⟩
    (repeat (first | exact Below.refl _ _ | refine Below.drew ?_ | refine Hp.drewN ?_ _ | refine Below.setCell ?_ (by first | (simp; done) | (simp; omega) | omega) _ | refine Below.alloc ?_ (by first | (simp; done) | (simp; omega) | omega) _ | (refine Hp.step ?_ (by assumption))))
end Go.Proofs.Ytieggiplbghecaa.BxW
