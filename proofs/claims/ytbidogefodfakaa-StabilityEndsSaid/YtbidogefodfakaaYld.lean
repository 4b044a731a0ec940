/- The law StabilityBlind of layer 48. -/
import Derived.Test.YtbidogefodfakaaYlc
set_option linter.unusedVariables false
set_option linter.unusedSimpArgs false
namespace Go.Proofs.Ytbidogefodfakaa.YxW
open Go.RowKit Ls Orw Rw
/-- a rational number in a block of its own -/
structure RB (w : World) (g : Nat) (r d : Int) : Prop where
  h : w.heap[g]? = some (.cells #[.int .i64 r, .int .i64 d] 31 (0, 0))
theorem RB.later {w w' : World} {g : Nat} {r d : Int} (o : RB w g r d) (k : Below w.heap.size w w') : RB w' g r d := ⟨(k.block g (Hp.blk_lt o.h)).trans o.h⟩
theorem RB.alloc {w : World} {g : Nat} {r d : Int} (o : RB w g r d) (x : Obj) : RB (w.alloc x) g r d := ⟨Hp.blk_old o.h⟩
theorem RB.new (w : World) (r d : Int) : RB (w.alloc (.cells #[.int .i64 r, .int .i64 d] 31)) w.heap.size r d := ⟨Hp.blk_new _ _⟩
theorem RB.c0 {w : World} {g : Nat} {r d : Int} (o : RB w g r d) : w.cell? ⟨g, 0, none⟩ = some (.int .i64 r) := Hp.blk_cell o.h rfl
theorem RB.c1 {w : World} {g : Nat} {r d : Int} (o : RB w g r d) : w.cell? ⟨g, 1, none⟩ = some (.int .i64 d) := Hp.blk_cell o.h rfl
abbrev RO (r d : Int) : Obj := .cells #[.int .i64 r, .int .i64 d] 31
theorem bl_alloc {w w1 w2 : World} {x : Obj} (h : Below w.heap.size w w1) (k : Below (w1.alloc x).heap.size (w1.alloc x) w2) : Below w.heap.size w w2 :=
  (h.alloc h.size x).trans (k.mono (by have := h.size; simp; omega))
theorem bl_next {w w1 w2 : World} (h : Below w.heap.size w w1) (k : Below w1.heap.size w1 w2) : Below w.heap.size w w2 := h.trans (k.mono h.size)
theorem is_alloc {w : World} {a : Option Addr} {n : Nat} {x : Nat → Int} (h : Is w a n x) (o : Obj) : Is (w.alloc o) a n x := h.later ((Below.refl _ _).alloc (Nat.le_refl _) _)
theorem dtE_lin {K : Nat} {x y : Nat → Int} (h1 : Yx.chk K x = 0) (h2 : Yx.chk K y = 0) : Yx.dtE K x = Yx.dtE K y ∧ dtN K x = dtN K y := by
  unfold Yx.dtE dtN; rw [h1, h2]; exact ⟨rfl, rfl⟩
set_option maxHeartbeats 8000000 in
theorem law_StabilityBlind (a : Option Addr) (n cap : Nat) (zs : List Int) (m A B : Int) (a1 : -2147483648 ≤ A) (a2 : A ≤ 2147483647) (b1 : -32768 ≤ B) (b2 : B ≤ 32767) (w : World) (S : In.IsInts .i32 w a n cap zs) :
    Calls Try.prog 6 #[.slice a n cap, .int .i64 m, .int .i32 A, .int .i16 B] w fun e w' => e = .returned (.bool true) ∧ Below w.heap.size w w' := by
  obtain ⟨l1, l2⟩ := S.lens
  have h0 : a = none → n = 0 ∧ cap = 0 := fun h => by
    rcases S with ⟨_, p, q, _⟩ | ⟨x, hx, _⟩
    · exact ⟨p, q⟩
    · rw [h] at hx; cases hx
  have hx := xs_bd S
  have HI := Lib.hid (I32.of S); have H0 := Lib.hid h0; have HX := Lib.hid hx
  obtain ⟨K, hK⟩ : ∃ K, min n 1000 = K := ⟨_, rfl⟩
  have hKm : K ≤ 1000 := by omega
  have hx2 : ∀ i, i < K → -2147483648 ≤ xs zs i ∧ xs zs i ≤ 2147483647 := fun i hi => hx i (by omega)
  have ch1 := Yx.lin_chk (a := 0) (b := 0) hKm hx2 (by omega) (by omega) (by omega) (by omega)
  have ch2 := Yx.lin_chk (a := A) (b := B) hKm hx2 a1 a2 b1 b2
  have hsd : ∀ n, Yx.sd (Yx.lin (xs zs) A B) n = Yx.sd (Yx.lin (xs zs) 0 0) n := fun n => by rw [Yx.sd_lin, Yx.sd_lin]
  have EA := Lib.hid (Yx.al_congr (len := K) (ch2.trans ch1.symm) hsd m)
  have EM := Lib.hid (Yx.mo_congr (len := K) (ch2.trans ch1.symm) hsd m)
  have ED := Lib.hid (dtE_lin ch2 ch1)
  have hdt : ∀ i, i < dtN K (Yx.lin (xs zs) 0 0) → Yx.dt K (Yx.lin (xs zs) A B) i = Yx.dt K (Yx.lin (xs zs) 0 0) i := fun i hi => by
    have h2 : 2 ≤ K := by
      by_cases g : 2 ≤ K
      · exact g
      · unfold dtN at hi; rw [if_neg (fun c => g c.2)] at hi; omega
    rw [Yx.dt_lin _ _ _ h2, Yx.dt_lin _ _ _ h2]
  have HDT := Lib.hid hdt
  have kd : dtN K (Yx.lin (xs zs) 0 0) ≤ 1000 := Nat.le_trans dtN_le hKm
  have HK := Lib.hid hK
  obtain ⟨r, hr⟩ : ∃ r, Yx.alN K (Yx.lin (xs zs) 0 0) m = r := ⟨_, rfl⟩
  obtain ⟨d, hd⟩ : ∃ r, Yx.alD K (Yx.lin (xs zs) 0 0) m = r := ⟨_, rfl⟩
  obtain ⟨e, he⟩ : ∃ r, Yx.alE K (Yx.lin (xs zs) 0 0) m = r := ⟨_, rfl⟩
  obtain ⟨r', hr'⟩ : ∃ r, Yx.moN K (Yx.lin (xs zs) 0 0) m = r := ⟨_, rfl⟩
  obtain ⟨d', hd'⟩ : ∃ r, Yx.moD K (Yx.lin (xs zs) 0 0) m = r := ⟨_, rfl⟩
  obtain ⟨e', he'⟩ : ∃ r, Yx.moE K (Yx.lin (xs zs) 0 0) m = r := ⟨_, rfl⟩
  obtain ⟨t, ht⟩ : ∃ r, Yx.dtE K (Yx.lin (xs zs) 0 0) = r := ⟨_, rfl⟩
  obtain ⟨k, hk⟩ : ∃ r, dtN K (Yx.lin (xs zs) 0 0) = r := ⟨_, rfl⟩
  have R1 := Lib.hid hr; have D1 := Lib.hid hd; have E1 := Lib.hid he; have R2 := Lib.hid hr'; have D2 := Lib.hid hd'; have E2 := Lib.hid he'; have T := Lib.hid ht; have KK := Lib.hid hk
  rw [hk] at kd
  clear S h0 hx hx2 ch1 ch2 hsd hdt hK hr hd he hr' hd' he' ht hk
  go_enter Try.func6, Try.ntmps6
  go_wp2_with (fail)
  refine (line_any a n cap (xs zs) 0 0 _ HI.out l1 l2 H0.out HX.out (by omega) (by omega) (by omega) (by omega)).mono ?_
  rw [HK.out]
  rintro en w1 ⟨v1, c1, rfl, _, I1, _, B1⟩
  have HB1 := Lib.hid B1; have HL1 := Lib.hid I1; have HI1 := Lib.hid (HI.out.later B1)
  clear I1 B1
  go_wp2_with (fail)
  refine (line_any a n cap (xs zs) A B _ HI1.out l1 l2 H0.out HX.out a1 a2 b1 b2).mono ?_
  rw [HK.out]
  rintro en w2 ⟨v2, c2, rfl, _, I2, _, B2⟩
  have HB2 := Lib.hid (bl_next HB1.out B2); have HL2 := Lib.hid (HL1.out.later B2); have HM2 := Lib.hid I2
  clear I2 B2 HB1 HL1 HI1
  go_wp2_with (fail)
  refine (allan_any v1 K c1 _ m _ HL2.out (by omega)).mono ?_
  rw [R1.out, D1.out, E1.out]
  rintro en w3 ⟨rfl, B3⟩
  have HB3 := Lib.hid (bl_next HB2.out B3); have HL3 := Lib.hid (is_alloc (HL2.out.later B3) (RO r d)); have HM3 := Lib.hid (is_alloc (HM2.out.later B3) (RO r d)); have G3 := Lib.hid (RB.new w3 r d)
  clear B3 HB2 HL2 HM2
  go_wp2_with (fail)
  refine (allan_any v2 K c2 _ m _ HM3.out (by omega)).mono ?_
  rw [EA.out.1, EA.out.2.1, EA.out.2.2, R1.out, D1.out, E1.out]
  rintro en w4 ⟨rfl, B4⟩
  have HB4 := Lib.hid (bl_alloc HB3.out B4); have HL4 := Lib.hid (is_alloc (HL3.out.later B4) (RO r d)); have HM4 := Lib.hid (is_alloc (HM3.out.later B4) (RO r d)); have G3b := Lib.hid ((G3.out.later B4).alloc (RO r d)); have G4 := Lib.hid (RB.new w4 r d)
  clear B4 HB3 HL3 HM3 G3
  go_wp2_with (fail)
  refine (modified_any v1 K c1 _ m _ HL4.out (by omega)).mono ?_
  rw [R2.out, D2.out, E2.out]
  rintro en w5 ⟨rfl, B5⟩
  have HB5 := Lib.hid (bl_alloc HB4.out B5); have HL5 := Lib.hid (is_alloc (HL4.out.later B5) (RO r' d')); have HM5 := Lib.hid (is_alloc (HM4.out.later B5) (RO r' d')); have G3c := Lib.hid ((G3b.out.later B5).alloc (RO r' d')); have G4b := Lib.hid ((G4.out.later B5).alloc (RO r' d')); have G5 := Lib.hid (RB.new w5 r' d')
  clear B5 HB4 HL4 HM4 G3b G4
  go_wp2_with (fail)
  refine (modified_any v2 K c2 _ m _ HM5.out (by omega)).mono ?_
  rw [EM.out.1, EM.out.2.1, EM.out.2.2, R2.out, D2.out, E2.out]
  rintro en w6 ⟨rfl, B6⟩
  have HB6 := Lib.hid (bl_alloc HB5.out B6); have HL6 := Lib.hid (is_alloc (HL5.out.later B6) (RO r' d')); have HM6 := Lib.hid (is_alloc (HM5.out.later B6) (RO r' d')); have G3d := Lib.hid ((G3c.out.later B6).alloc (RO r' d')); have G4c := Lib.hid ((G4b.out.later B6).alloc (RO r' d')); have G5b := Lib.hid ((G5.out.later B6).alloc (RO r' d')); have G6 := Lib.hid (RB.new w6 r' d')
  clear B6 HB5 HL5 HM5 G3c G4b G5
  go_wp2_with (fail)
  refine (detrend_any v1 K c1 _ _ HL6.out).mono ?_
  rw [T.out, KK.out]
  rintro en w7 ⟨a7, c7, rfl, I7, B7⟩
  have HB7 := Lib.hid (bl_alloc HB6.out B7); have HM7 := Lib.hid (HM6.out.later B7); have G3e := Lib.hid (G3d.out.later B7); have G4d := Lib.hid (G4c.out.later B7); have G5c := Lib.hid (G5b.out.later B7); have G6b := Lib.hid (G6.out.later B7); have HI7 := Lib.hid I7
  clear B7 I7 HB6 HL6 HM6 G3d G4c G5b G6
  go_wp2_with (fail)
  refine (detrend_any v2 K c2 _ _ HM7.out).mono ?_
  rw [ED.out.1, ED.out.2, T.out, KK.out]
  rintro en w8 ⟨a8, c8, rfl, I8, B8⟩
  have HB8 := Lib.hid (bl_next HB7.out B8); have HI7b := Lib.hid (HI7.out.later B8); have HI8 := Lib.hid (I8.congr fun i hi => HDT.out i (by rw [KK.out]; exact hi))
  have g3 := G3e.out.later B8; have g4 := G4d.out.later B8; have g5 := G5c.out.later B8; have g6 := G6b.out.later B8
  have p0 := g3.c0; have p1 := g3.c1; have p2 := g4.c0; have p3 := g4.c1; have p4 := g5.c0; have p5 := g5.c1; have p6 := g6.c0; have p7 := g6.c1
  clear B8 I8 HB7 HI7 HM7 G3e G4d G5c G6b g3 g4 g5 g6
  go_wp2_with (fail)
  refine (equal_same _ HI7b.out HI8.out (by omega)).mono ?_
  rintro en w' ⟨rfl, q, rfl⟩
  clear p0 p1 p2 p3 p4 p5 p6 p7
  have HB9 := Lib.hid (Hp.drewN HB8.out q)
  go_wp2_with (fail)
  refine (awake48_any _).mono ?_
  rintro en w10 ⟨rfl, B10⟩
  have HB10 := Lib.hid (bl_next HB9.out B10)
  clear B10
  go_wp2_with (fail)
  go_ret
  exact ⟨rfl, HB10.out⟩
end Go.Proofs.Ytbidogefodfakaa.YxW
