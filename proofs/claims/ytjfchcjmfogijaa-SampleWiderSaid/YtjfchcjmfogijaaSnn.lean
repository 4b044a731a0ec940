/- The law SampleWider of layer 21. -/
import Derived.Test.YtjfchcjmfogijaaSl
import Derived.Deep.RegionWith
import Derived.Deep.RegionHeld3
set_option linter.unusedVariables false
set_option linter.unusedSimpArgs false
namespace Go.Proofs.Ytjfchcjmfogijaa.FxW
open Go.RowKit

theorem sbounds_at {o d p t lo hi : Int} (h1 : Hid (Sx.bLo o d p t = lo)) (h2 : Hid (Sx.bHi o d p t = hi)) (w : World) :
    Calls Try.prog 17 #[.agg #[.int .i64 o, .int .i64 d, .int .i64 p, .int .i64 t]] w fun e w' => e = .returned (.agg #[.int .i64 lo, .int .i64 hi]) ∧ Below w.heap.size w w' := by
  have := sbounds_any o d p t w; rw [h1.out, h2.out] at this; exact this
/-- behind the two calls: where the intervals lie -/
def AfterB (W : World) (px py : Value) (xl xh yl yh : Int) (wx : World) : Prop := ∃ gx gy, px = .pointer (some ⟨gx, 0, none⟩) ∧ py = .pointer (some ⟨gy, 0, none⟩) ∧ wx.cell? ⟨gx, 0, none⟩ = some (.int .i64 xl) ∧ wx.cell? ⟨gx, 1, none⟩ = some (.int .i64 xh) ∧ wx.cell? ⟨gy, 0, none⟩ = some (.int .i64 yl) ∧ wx.cell? ⟨gy, 1, none⟩ = some (.int .i64 yh) ∧ Below W.heap.size W wx
abbrev Iv (x y : Int) : Obj := .cells #[.int .i64 x, .int .i64 y] 34
theorem iv_alloc {w : World} {x y : Int} : (w.alloc (Iv x y)).cell? ⟨w.heap.size, 0, none⟩ = some (.int .i64 x) ∧ (w.alloc (Iv x y)).cell? ⟨w.heap.size, 1, none⟩ = some (.int .i64 y) :=
  ⟨Hp.blk_cell (Hp.blk_new _ _) rfl, Hp.blk_cell (Hp.blk_new _ _) rfl⟩
theorem iv_old {w : World} {g o : Nat} {v : Value} {X : Obj} (h : w.cell? ⟨g, o, none⟩ = some v) (hg : g < w.heap.size) : (w.alloc X).cell? ⟨g, o, none⟩ = some v := by rw [World.cell?_alloc_lt _ _ _ hg]; exact h
theorem iv_set {w : World} {g : Nat} {a b x y : Int} (h : w.heap[g]? = some (Iv a b)) : ((w.setCell ⟨g, 0, none⟩ (.int .i64 x)).setCell ⟨g, 1, none⟩ (.int .i64 y)).heap[g]? = some (Iv x y) := Hp.blk_set (Hp.blk_set h)
theorem iv_keep {w : World} {g h : Nat} {x y : Int} {o : Obj} (e : w.heap[g]? = some o) (hn : g ≠ h) : ((w.setCell ⟨h, 0, none⟩ (.int .i64 x)).setCell ⟨h, 1, none⟩ (.int .i64 y)).heap[g]? = some o := Hp.blk_set_ne (Hp.blk_set_ne e hn) hn
theorem iv_cells {w : World} {g : Nat} {x y : Int} (h : w.heap[g]? = some (Iv x y)) : w.cell? ⟨g, 0, none⟩ = some (.int .i64 x) ∧ w.cell? ⟨g, 1, none⟩ = some (.int .i64 y) := ⟨Hp.blk_cell h rfl, Hp.blk_cell h rfl⟩
theorem af1 {W w : World} {xl xh yl yh : Int} (B : Below W.heap.size W w) : AfterB W (.pointer (some ⟨w.heap.size, 0, none⟩)) (.pointer (some ⟨w.heap.size + 1, 0, none⟩)) xl xh yl yh ((w.alloc (Iv xl xh)).alloc (Iv yl yh)) := by
  have e := @iv_alloc (w.alloc (Iv xl xh)) yl yh
  have z : (w.alloc (Iv xl xh)).heap.size = w.heap.size + 1 := by simp
  rw [z] at e
  have hs := B.size
  exact ⟨_, _, rfl, rfl, iv_old iv_alloc.1 (by rw [z]; omega), iv_old iv_alloc.2 (by rw [z]; omega), e.1, e.2, (B.alloc hs _).alloc (by rw [z]; omega) _⟩
theorem af2 {W w : World} {xl xh yl yh : Int} (B : Below W.heap.size W w) : AfterB W (.pointer (some ⟨w.heap.size + 1, 0, none⟩)) (.pointer (some ⟨w.heap.size, 0, none⟩)) xl xh yl yh ((w.alloc (Iv yl yh)).alloc (Iv xl xh)) := by
  have e := @iv_alloc (w.alloc (Iv yl yh)) xl xh
  have z : (w.alloc (Iv yl yh)).heap.size = w.heap.size + 1 := by simp
  rw [z] at e
  have hs := B.size
  exact ⟨_, _, rfl, rfl, e.1, e.2, iv_old iv_alloc.1 (by rw [z]; omega), iv_old iv_alloc.2 (by rw [z]; omega), (B.alloc hs _).alloc (by rw [z]; omega) _⟩
theorem af3 {W w : World} {g : Nat} {a b xl xh yl yh : Int} (B : Below W.heap.size W w) (h : w.heap[g]? = some (Iv a b)) (hg : W.heap.size ≤ g) : AfterB W (.pointer (some ⟨g, 0, none⟩)) (.pointer (some ⟨w.heap.size, 0, none⟩)) xl xh yl yh (((w.setCell ⟨g, 0, none⟩ (.int .i64 xl)).setCell ⟨g, 1, none⟩ (.int .i64 xh)).alloc (Iv yl yh)) := by
  have z : ((w.setCell ⟨g, 0, none⟩ (.int .i64 xl)).setCell ⟨g, 1, none⟩ (.int .i64 xh)).heap.size = w.heap.size := by simp
  have e := @iv_alloc ((w.setCell ⟨g, 0, none⟩ (.int .i64 xl)).setCell ⟨g, 1, none⟩ (.int .i64 xh)) yl yh
  rw [z] at e
  have c := iv_cells (iv_set (x := xl) (y := xh) h)
  have hs := B.size
  have lg := Hp.blk_lt h
  exact ⟨_, _, rfl, rfl, iv_old c.1 (by rw [z]; omega), iv_old c.2 (by rw [z]; omega), e.1, e.2, ((B.setCell (by omega) _).setCell (by omega) _).alloc (by rw [z]; omega) _⟩
theorem af4 {W w : World} {g : Nat} {a b xl xh yl yh : Int} (B : Below W.heap.size W w) (h : w.heap[g]? = some (Iv a b)) (hg : W.heap.size ≤ g) : AfterB W (.pointer (some ⟨w.heap.size, 0, none⟩)) (.pointer (some ⟨g, 0, none⟩)) xl xh yl yh (((w.setCell ⟨g, 0, none⟩ (.int .i64 yl)).setCell ⟨g, 1, none⟩ (.int .i64 yh)).alloc (Iv xl xh)) := by
  have z : ((w.setCell ⟨g, 0, none⟩ (.int .i64 yl)).setCell ⟨g, 1, none⟩ (.int .i64 yh)).heap.size = w.heap.size := by simp
  have e := @iv_alloc ((w.setCell ⟨g, 0, none⟩ (.int .i64 yl)).setCell ⟨g, 1, none⟩ (.int .i64 yh)) xl xh
  rw [z] at e
  have c := iv_cells (iv_set (x := yl) (y := yh) h)
  have hs := B.size
  have lg := Hp.blk_lt h
  exact ⟨_, _, rfl, rfl, e.1, e.2, iv_old c.1 (by rw [z]; omega), iv_old c.2 (by rw [z]; omega), ((B.setCell (by omega) _).setCell (by omega) _).alloc (by rw [z]; omega) _⟩
theorem af5 {W w : World} {g h : Nat} {a b c d xl xh yl yh : Int} (B : Below W.heap.size W w) (e1 : w.heap[g]? = some (Iv a b)) (e2 : w.heap[h]? = some (Iv c d)) (hg : W.heap.size ≤ g) (hh : W.heap.size ≤ h) (hn : g ≠ h) :
    AfterB W (.pointer (some ⟨g, 0, none⟩)) (.pointer (some ⟨h, 0, none⟩)) xl xh yl yh ((((w.setCell ⟨g, 0, none⟩ (.int .i64 xl)).setCell ⟨g, 1, none⟩ (.int .i64 xh)).setCell ⟨h, 0, none⟩ (.int .i64 yl)).setCell ⟨h, 1, none⟩ (.int .i64 yh)) := by
  have c1 := iv_cells (iv_keep (x := yl) (y := yh) (iv_set (x := xl) (y := xh) e1) hn)
  have c2 := iv_cells (iv_set (x := yl) (y := yh) (iv_keep (x := xl) (y := xh) e2 (Ne.symm hn)))
  exact ⟨_, _, rfl, rfl, c1.1, c1.2, c2.1, c2.2, (((B.setCell (by omega) _).setCell (by omega) _).setCell (by omega) _).setCell (by omega) _⟩
section
variable {W w7 w8 : World} {X Y Z : Obj} {g : Nat}
theorem fA (h : Below (w7.alloc Z).heap.size (w7.alloc Z) w8) : w8.heap[w7.heap.size]? = some Z := (h.block _ (by simp)).trans (Hp.blk_new _ _)
theorem fB1 (h : Below ((w7.alloc Z).alloc Y).heap.size ((w7.alloc Z).alloc Y) w8) : w8.heap[w7.heap.size]? = some Z := (h.block _ (by simp; omega)).trans (Hp.blk_old (Hp.blk_new _ _))
theorem fB2 (h : Below ((w7.alloc Y).alloc Z).heap.size ((w7.alloc Y).alloc Z) w8) : w8.heap[w7.heap.size + 1]? = some Z := (h.block _ (by simp)).trans (by have := Hp.blk_new (w7.alloc Y) Z; simpa using this)
theorem fAd (h : Below (w7.alloc Z).drew.heap.size (w7.alloc Z).drew w8) : w8.heap[w7.heap.size]? = some Z := (h.block _ (by simp)).trans (Hp.blk_new w7 _)
theorem fB1d (h : Below ((w7.alloc Z).alloc Y).drew.heap.size ((w7.alloc Z).alloc Y).drew w8) : w8.heap[w7.heap.size]? = some Z := (h.block _ (by simp; omega)).trans (Hp.blk_old (w := w7.alloc Z) (Hp.blk_new w7 _))
theorem fB2d (h : Below ((w7.alloc Y).alloc Z).drew.heap.size ((w7.alloc Y).alloc Z).drew w8) : w8.heap[w7.heap.size + 1]? = some Z := (h.block _ (by simp)).trans (show ((w7.alloc Y).alloc Z).heap[w7.heap.size + 1]? = some Z from by have := Hp.blk_new (w7.alloc Y) Z; simpa using this)
theorem gC (e : w7.heap[g]? = some Z) (h : Below w7.heap.size w7 w8) : w8.heap[g]? = some Z := (h.block _ (Hp.blk_lt e)).trans e
theorem gD (e : w7.heap[g]? = some Z) (h : Below (w7.alloc Y).heap.size (w7.alloc Y) w8) : w8.heap[g]? = some Z := (h.block _ (by have := Hp.blk_lt e; simp; omega)).trans (Hp.blk_old e)
end
set_option maxHeartbeats 16000000 in
set_option maxRecDepth 100000 in
theorem wider_walk (th ho ba mo cl of fi se tol a b c o D p p1 p2 p3 xl xh yl yh : Int) (h1 : 0 ≤ th) (h2 : th ≤ 4294967295) (h3 : 0 ≤ ho) (h4 : ho ≤ 4294967295) (h5 : 0 ≤ ba) (h6 : ba ≤ 4294967295) (h7 : -2147483648 ≤ cl) (h8 : cl ≤ 2147483647) (h9 : -2147483648 ≤ of) (h10 : of ≤ 2147483647)
    (f1 : 0 ≤ fi) (f2 : fi ≤ 4294967295) (s1 : 0 ≤ se) (s2 : se ≤ 4294967295) (t1 : 0 ≤ tol) (t2 : tol ≤ 4294967295)
    (HA : Hid (a = cl - (th + ho + ba) - 0)) (HB : Hid (b = cl + of - ba - ho)) (HC : Hid (c = cl + of - ba))
    (E0 : Hid (Sx.ofR a b c cl 1 (tol % 500001) = ⟨o, D, p, cl, 0⟩)) (G1 : Hid (Sx.growR o D p cl (cl + fi) (tol % 500001) = ⟨o, D, p1, cl + fi, 0⟩))
    (G2 : Hid (Sx.growR o D p1 (cl + fi) (cl + fi + se) (tol % 500001) = ⟨o, D, p2, cl + fi + se, 0⟩)) (G3 : Hid (Sx.growR o D p cl (cl + fi + se) (tol % 500001) = ⟨o, D, p3, cl + fi + se, 0⟩))
    (G4 : Hid (Sx.growR o D p cl cl (tol % 500001) = ⟨o, D, p, cl, 0⟩)) (X1 : Hid (Sx.bLo o D p cl = xl)) (X2 : Hid (Sx.bHi o D p cl = xh)) (Y1 : Hid (Sx.bLo o D p2 (cl + fi + se) = yl)) (Y2 : Hid (Sx.bHi o D p2 (cl + fi + se) = yh))
    (l1 : ¬ xl < yl) (l2 : ¬ yh < xh) (p3a : 0 ≤ p3) (p3b : p3 ≤ 1000000000000000) (fin : (p2 == p3) = true ∨ ((p2 == p3) = false ∧ (p2 == p3 + 1) = true)) (w : World) :
    Calls Try.prog 9 #[.agg #[.int .u32 th, .int .u32 ho, .int .u32 ba, .int .i32 mo, .int .i32 cl, .int .i32 of], .int .u32 fi, .int .u32 se, .int .u32 tol] w fun e w' => e = .returned (.bool true) ∧ Below w.heap.size w w' := by
  go_enter Try.func9, Try.ntmps9
  go_upto_region 9 with (first | (go_at_call 19; refine (quad_at (by omega) (by omega) (by omega) (by omega) (by omega) (by omega) (by omega) (by omega) (by omega) (by omega) (by omega) (by omega) HA HB HC _).mono ?_; rintro e w1 ⟨rfl, hb1⟩; obtain ⟨hc1, hf1⟩ := Hp.bcell hb1; have hs1 := hb1.size; (try simp at hs1); have lt_w_w1 : w.heap.size < w1.heap.size := (by omega); have le_w_w1 : w.heap.size < w1.heap.size + 1 := (by omega)) | ((with_reducible refine (sof_at E0 _).mono ?_); rintro e w2 ⟨rfl, hb2⟩; obtain ⟨hc2, hf2⟩ := Hp.bcell hb2; have hs2 := hb2.size; (try simp at hs2); have lt_w_w2 : w.heap.size < w2.heap.size := (by omega); have le_w_w2 : w.heap.size < w2.heap.size + 1 := (by omega)) | ((with_reducible refine (sgrow_at G1 _).mono ?_); rintro e w3 ⟨rfl, hb3⟩; obtain ⟨hc3, hf3⟩ := Hp.bcell hb3; have hs3 := hb3.size; (try simp at hs3); have lt_w_w3 : w.heap.size < w3.heap.size := (by omega); have le_w_w3 : w.heap.size < w3.heap.size + 1 := (by omega); have lt_w2_w3 : w2.heap.size < w3.heap.size := (by omega); have le_w2_w3 : w2.heap.size < w3.heap.size + 1 := (by omega)) | ((with_reducible refine (sgrow_at G2 _).mono ?_); rintro e w4 ⟨rfl, hb4⟩; obtain ⟨hc4, hf4⟩ := Hp.bcell hb4; have hs4 := hb4.size; (try simp at hs4); have lt_w_w4 : w.heap.size < w4.heap.size := (by omega); have le_w_w4 : w.heap.size < w4.heap.size + 1 := (by omega); have lt_w2_w4 : w2.heap.size < w4.heap.size := (by omega); have le_w2_w4 : w2.heap.size < w4.heap.size + 1 := (by omega); have lt_w3_w4 : w3.heap.size < w4.heap.size := (by omega); have le_w3_w4 : w3.heap.size < w4.heap.size + 1 := (by omega)) | ((with_reducible refine (sgrow_at G3 _).mono ?_); rintro e w5 ⟨rfl, hb5⟩; obtain ⟨hc5, hf5⟩ := Hp.bcell hb5; have hs5 := hb5.size; (try simp at hs5); have lt_w_w5 : w.heap.size < w5.heap.size := (by omega); have le_w_w5 : w.heap.size < w5.heap.size + 1 := (by omega); have lt_w2_w5 : w2.heap.size < w5.heap.size := (by omega); have le_w2_w5 : w2.heap.size < w5.heap.size + 1 := (by omega); have lt_w3_w5 : w3.heap.size < w5.heap.size := (by omega); have le_w3_w5 : w3.heap.size < w5.heap.size + 1 := (by omega); have lt_w4_w5 : w4.heap.size < w5.heap.size := (by omega); have le_w4_w5 : w4.heap.size < w5.heap.size + 1 := (by omega)) | ((with_reducible refine (sgrow_at G4 _).mono ?_); rintro e w6 ⟨rfl, hb6⟩; obtain ⟨hc6, hf6⟩ := Hp.bcell hb6; have hs6 := hb6.size; (try simp at hs6); have lt_w_w6 : w.heap.size < w6.heap.size := (by omega); have le_w_w6 : w.heap.size < w6.heap.size + 1 := (by omega); have lt_w2_w6 : w2.heap.size < w6.heap.size := (by omega); have le_w2_w6 : w2.heap.size < w6.heap.size + 1 := (by omega); have lt_w3_w6 : w3.heap.size < w6.heap.size := (by omega); have le_w3_w6 : w3.heap.size < w6.heap.size + 1 := (by omega); have lt_w4_w6 : w4.heap.size < w6.heap.size := (by omega); have le_w4_w6 : w4.heap.size < w6.heap.size + 1 := (by omega); have lt_w5_w6 : w5.heap.size < w6.heap.size := (by omega); have le_w5_w6 : w5.heap.size < w6.heap.size + 1 := (by omega)))
  have k3 := (hb3.block w2.heap.size (by simp)).trans (Hp.blk_new w2 _)
  have k4 := (hb4.block w2.heap.size (by simp; omega)).trans (Hp.blk_old k3)
  have k5 := (hb5.block w2.heap.size (by simp; omega)).trans (Hp.blk_old k4)
  have k6 := (hb6.block w2.heap.size (by simp; omega)).trans (Hp.blk_old k5)
  have m5 := (hb5.block w4.heap.size (by simp)).trans (Hp.blk_new w4 _)
  have m6 := (hb6.block w4.heap.size (by simp; omega)).trans (Hp.blk_old m5)
  have n6 := (hb6.block w5.heap.size (by simp)).trans (Hp.blk_new w5 _)
  have kW := Hp.blk_old (y := .cells #[.int .i64 o, .int .i64 D, .int .i64 p, .int .i64 cl] 25) k6
  have mW := Hp.blk_old (y := .cells #[.int .i64 o, .int .i64 D, .int .i64 p, .int .i64 cl] 25) m6
  have nW := Hp.blk_old (y := .cells #[.int .i64 o, .int .i64 D, .int .i64 p, .int .i64 cl] 25) n6
  have HBW : Hid (Below w.heap.size w (w6.alloc (.cells #[.int .i64 o, .int .i64 D, .int .i64 p, .int .i64 cl] 25))) := Lib.hid (by (repeat (first | exact Below.refl _ _ | refine Below.drew ?_ | refine Hp.drewN ?_ _ | refine Below.setCell ?_ (by first | (simp; done) | (simp; omega) | omega) _ | refine Below.alloc ?_ (by first | (simp; done) | (simp; omega) | omega) _ | (refine Hp.step ?_ (by assumption)))))
  obtain ⟨W, hW⟩ : ∃ W, w6.alloc (.cells #[.int .i64 o, .int .i64 D, .int .i64 p, .int .i64 cl] 25) = W := ⟨_, rfl⟩
  rw [hW] at kW mW nW HBW
  rw [hW]
  have a0 := Hp.blk_cell (o := 0) kW rfl; have a1 := Hp.blk_cell (o := 1) kW rfl; have a2 := Hp.blk_cell (o := 2) kW rfl; have a3 := Hp.blk_cell (o := 3) kW rfl
  have b0 := Hp.blk_cell (o := 0) mW rfl; have b1 := Hp.blk_cell (o := 1) mW rfl; have b2 := Hp.blk_cell (o := 2) mW rfl; have b3 := Hp.blk_cell (o := 3) mW rfl
  have KW := Lib.hid kW; have MW := Lib.hid mW; have NW := Lib.hid nW
  have lA := Hp.blk_lt kW; have lB := Hp.blk_lt mW; have lC := Hp.blk_lt nW
  clear kW mW nW k3 k4 k5 k6 m5 m6 n6 hW hb1 hb2 hb3 hb4 hb5 hb6 hc1 hc2 hc3 hc4 hc5 hc6 hf1 hf2 hf3 hf4 hf5 hf6 hs1 hs2 hs3 hs4 hs5 hs6
  have SO := Lib.hid (fun w' (h : Below W.heap.size W w') => show w'.cell? ⟨w2.heap.size, 0, none⟩ = some (.int .i64 o) ∧ w'.cell? ⟨w2.heap.size, 1, none⟩ = some (.int .i64 D) ∧ w'.cell? ⟨w2.heap.size, 2, none⟩ = some (.int .i64 p) ∧ w'.cell? ⟨w2.heap.size, 3, none⟩ = some (.int .i64 cl) ∧ w'.cell? ⟨w4.heap.size, 0, none⟩ = some (.int .i64 o) ∧ w'.cell? ⟨w4.heap.size, 1, none⟩ = some (.int .i64 D) ∧ w'.cell? ⟨w4.heap.size, 2, none⟩ = some (.int .i64 p2) ∧ w'.cell? ⟨w4.heap.size, 3, none⟩ = some (.int .i64 (cl + fi + se)) from
    ⟨(h.cell (p := ⟨w2.heap.size, 0, none⟩) lA).trans a0, (h.cell (p := ⟨w2.heap.size, 1, none⟩) lA).trans a1, (h.cell (p := ⟨w2.heap.size, 2, none⟩) lA).trans a2, (h.cell (p := ⟨w2.heap.size, 3, none⟩) lA).trans a3, (h.cell (p := ⟨w4.heap.size, 0, none⟩) lB).trans b0, (h.cell (p := ⟨w4.heap.size, 1, none⟩) lB).trans b1, (h.cell (p := ⟨w4.heap.size, 2, none⟩) lB).trans b2, (h.cell (p := ⟨w4.heap.size, 3, none⟩) lB).trans b3⟩)
  have BWW : Below W.heap.size W W := Below.refl _ _
  go_cut [20, 21] (fun px py wx => AfterB W px py xl xh yl yh wx)
  case first =>
    go_region_held3 (fun w' => w'.cell? ⟨w2.heap.size, 0, none⟩ = some (.int .i64 o) ∧ w'.cell? ⟨w2.heap.size, 1, none⟩ = some (.int .i64 D) ∧ w'.cell? ⟨w2.heap.size, 2, none⟩ = some (.int .i64 p) ∧ w'.cell? ⟨w2.heap.size, 3, none⟩ = some (.int .i64 cl) ∧ w'.cell? ⟨w4.heap.size, 0, none⟩ = some (.int .i64 o) ∧ w'.cell? ⟨w4.heap.size, 1, none⟩ = some (.int .i64 D) ∧ w'.cell? ⟨w4.heap.size, 2, none⟩ = some (.int .i64 p2) ∧ w'.cell? ⟨w4.heap.size, 3, none⟩ = some (.int .i64 (cl + fi + se))) (exact SO.out _ (by (repeat (first | exact Below.refl _ _ | refine Below.drew ?_ | refine Hp.drewN ?_ _ | refine Below.setCell ?_ (by first | (simp; done) | (simp; omega) | omega) _ | refine Below.alloc ?_ (by first | (simp; done) | (simp; omega) | omega) _ | (refine Hp.step ?_ (by assumption)))))) (first
      | (go_at_call 17; with_reducible refine (sbounds_at X1 X2 _).mono ?_; rintro en w7 ⟨rfl, hb7⟩; obtain ⟨hc7, hf7⟩ := Hp.bcell hb7; have hs7 := hb7.size; (try simp at hs7); have z7 : W.heap.size < w7.heap.size + 1 := (by omega); (try have z71 : W.heap.size < w7.heap.size := (by omega)); (try have z72 : W.heap.size + 1 < w7.heap.size := (by omega)))
      | (go_at_call 17; with_reducible refine (sbounds_at Y1 Y2 _).mono ?_; rintro en w8 ⟨rfl, hb8⟩; obtain ⟨hc8, hf8⟩ := Hp.bcell hb8; have hs8 := hb8.size; (try simp at hs8); have z8 : W.heap.size < w8.heap.size + 1 := (by omega); (try have z81 : W.heap.size < w8.heap.size := (by omega)); (try have z82 : W.heap.size + 1 < w8.heap.size := (by omega)); (try have z83 : w7.heap.size < w8.heap.size := (by omega)); (try have z84 : w7.heap.size + 1 < w8.heap.size := (by omega))))
    all_goals
      go_wp2_with (fail)
      go_meet
      case rel =>
        have B8 : Below W.heap.size W w8 := (by (repeat (first | exact Below.refl _ _ | refine Below.drew ?_ | refine Hp.drewN ?_ _ | refine Below.setCell ?_ (by first | (simp; done) | (simp; omega) | omega) _ | refine Below.alloc ?_ (by first | (simp; done) | (simp; omega) | omega) _ | (refine Hp.step ?_ (by assumption)))))
        clear SO
        first
          | (with_reducible exact af1 B8)
          | (with_reducible exact af2 B8)
          | (with_reducible refine af3 (a := 0) (b := 0) B8 ?_ ?_)
          | (with_reducible refine af4 (a := 0) (b := 0) B8 ?_ ?_)
          | (with_reducible refine af5 (a := 0) (b := 0) (c := 0) (d := 0) B8 ?_ ?_ ?_ ?_ ?_)
        all_goals first
          | omega
          | (with_reducible exact fA hb8)
          | (with_reducible exact fB1 hb8)
          | (with_reducible exact fB2 hb8)
          | (with_reducible exact gC (fAd hb7) hb8)
          | (with_reducible exact gD (fAd hb7) hb8)
          | (with_reducible exact gC (fB1d hb7) hb8)
          | (with_reducible exact gC (fB2d hb7) hb8)
  case rest =>
    obtain ⟨gx, gy, rfl, rfl, x0, x1, y0, y1, BB⟩ := hcut
    have HBx := Lib.hid (HBW.out.trans (BB.mono HBW.out.size))
    have k1 := (BB.block _ lA).trans KW.out; have k2 := (BB.block _ lB).trans MW.out; have k3 := (BB.block _ lC).trans NW.out
    have s0 := Hp.blk_cell (o := 0) k1 rfl; have s1 := Hp.blk_cell (o := 1) k1 rfl
    have b0' := Hp.blk_cell (o := 0) k2 rfl; have b1' := Hp.blk_cell (o := 1) k2 rfl; have b2' := Hp.blk_cell (o := 2) k2 rfl; have b3' := Hp.blk_cell (o := 3) k2 rfl
    have n2 := Hp.blk_cell (o := 2) k3 rfl; have n3 := Hp.blk_cell (o := 3) k3 rfl
    clear a0 a1 a2 a3 b0 b1 b2 b3 BB k1 k2 k3 SO BWW
    rcases fin with fin | ⟨fin, fin2⟩
    all_goals
      go_wp2_with (fail)
      refine (awake21_any _).mono ?_
      rintro en w9 ⟨rfl, B9⟩
      have HB9 := Lib.hid (HBx.out.trans (B9.mono HBx.out.size))
      clear B9
      go_wp2_with (fail)
      go_ret
      exact ⟨rfl, HB9.out⟩
end Go.Proofs.Ytjfchcjmfogijaa.FxW
