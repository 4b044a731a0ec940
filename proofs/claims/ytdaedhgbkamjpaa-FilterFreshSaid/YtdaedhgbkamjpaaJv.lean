/- The law FilterFresh of layer 22. -/
import Derived.Test.YtdaedhgbkamjpaaJy
set_option linter.unusedVariables false
set_option linter.unusedSimpArgs false
namespace Go.Proofs.Ytdaedhgbkamjpaa.Jx
/-- the At of the last one of the first k stages with this delay -/
def lsB (m : List Sm) (D : Int) : Nat → Bool
  | 0 => false
  | k + 1 => if (nth m k).d = D then true else lsB m D k
def lsT (m : List Sm) (D : Int) : Nat → Int
  | 0 => 0
  | k + 1 => if (nth m k).d = D then (nth m k).t else lsT m D k
theorem ls_lt {m : List Sm} (V : Val m) (D : Int) : ∀ k, k < m.length → lsB m D k = true → lsT m D k < (nth m k).t
  | 0, _, h => by simp [lsB] at h
  | k + 1, hk, h => by
    simp only [lsB, lsT] at *
    split
    · exact V.lt (by omega) hk
    · rename_i g
      rw [if_neg g] at h
      have a := ls_lt V D k (by omega) h
      have b := V.lt (show k < k + 1 by omega) hk
      omega
theorem ls_first {m : List Sm} (V : Val m) (h : 0 < m.length) : lsB m (first m).d m.length = true ∧ lsT m (first m).d m.length = (first m).t := by
  obtain ⟨j, hj, e⟩ := mem_nth (first_mem h)
  have key : ∀ k, j < k → k ≤ m.length → lsB m (first m).d k = true ∧ lsT m (first m).d k = (first m).t := by
    intro k
    induction k with
    | zero => intro h1; omega
    | succ k ih =>
      intro h1 h2
      simp only [lsB, lsT]
      by_cases g : j = k
      · subst g; rw [e]; simp
      · have a := ih (by omega) (by omega)
        have b := V.lt (show j < k by omega) (by omega)
        have c := first_le V (nth_mem (show k < m.length by omega))
        rw [e] at b
        have ne : ¬ (nth m k).d = (first m).d := by
          intro h3; unfold nb bef at c; omega
        rw [if_neg ne, if_neg ne]; exact a
  exact key _ hj (Nat.le_refl _)
theorem again_no {m : List Sm} {any : Bool} {fr now tol : Int} : freshB m (anyN m any fr now tol) (frN m any fr now tol) now tol = false := by
  by_cases h : (bestR m now tol).e = 0
  · rw [fresh_ok h]
    have f := fresh_ok (any := any) (fr := fr) h
    unfold anyN frN
    rw [f]
    by_cases g : fr < (first m).t
    · cases any <;> simp [g]
    · cases any <;> simp [g] <;> omega
  · exact (fresh_no h).1
theorem last_add {l : List Sm} {x : Sm} (h : addE l x = 0) : 0 < (addL l x).length ∧ lastT (addL l x) = x.t := by
  rw [addL_yes h]
  unfold push lastT
  refine ⟨by simp, ?_⟩
  rw [List.length_append, show [x].length = 1 from rfl, Nat.add_sub_cancel, nth_last]
theorem grow_d {x : Sm} {now tol : Int} (h : (grow x now tol).e = 0) : (grow x now tol).d = x.d := by
  unfold grow Sx.growR at *
  split at h
  · simp at h
  · rename_i h1
    split at h
    · simp at h
    · rename_i h2
      rw [if_neg h1, if_neg h2]
      unfold Sx.fin5 at *
      split at h
      · rename_i h3; rw [if_pos h3]
      · simp at h
end Go.Proofs.Ytdaedhgbkamjpaa.Jx
namespace Go.Proofs.Ytdaedhgbkamjpaa.JxW
open Go.RowKit FxW
open Go.Proofs.Ytdaedhgbkamjpaa.Jx
theorem cell_but2 {w w' : World} {g : Nat} {p : Addr} {v : Value} (h : w.cell? p = some v) (k : But g w w') (lt : p.block < w.heap.size) (ne : p.block ≠ g) : w'.cell? p = some v := by
  rw [← h]; simp [World.cell?, k.block _ lt ne]
set_option maxHeartbeats 4000000 in
theorem lfresh_tol (tol : Int) (l : List Sm) (a : Option Addr) (c : Nat) (h : tol < 0 ∨ (0 ≤ tol ∧ 500000 < tol)) (w : World) :
    Calls Try.prog 7 #[.int .i64 tol, .slice a l.length c] w fun e w' => e = .returned (.bool true) ∧ Below w.heap.size w w' := by
  go_enter Try.func7, Try.ntmps7
  go_wp2_with (fail)
  refine (new_no tol h _).mono ?_
  rintro en w1 ⟨rfl, rfl⟩
  have HB1 := Lib.hid (Below.refl w.heap.size w)
  go_wp2_with (fail)
  refine (awake22_any _).mono ?_
  rintro en wz ⟨rfl, Bz⟩
  have HBz := Lib.hid (HB1.out.trans (Bz.mono HB1.out.size))
  clear Bz
  go_wp2_with (fail)
  go_ret
  exact ⟨rfl, HBz.out⟩
set_option maxHeartbeats 4000000 in
theorem lfresh_long (tol : Int) (l : List Sm) (a : Option Addr) (c : Nat) (h0 : 0 ≤ tol) (h1 : tol ≤ 500000) (h : 40 < l.length) (w : World) :
    Calls Try.prog 7 #[.int .i64 tol, .slice a l.length c] w fun e w' => e = .returned (.bool true) ∧ Below w.heap.size w w' := by
  obtain ⟨n, hn⟩ : ∃ n, l.length = n := ⟨_, rfl⟩
  rw [hn] at h ⊢
  have h' : (40 : Int) < (n : Int) := by omega
  clear hn h
  go_enter Try.func7, Try.ntmps7
  go_wp2_with (fail)
  refine (new_ok tol h0 h1 _).mono ?_
  rintro en w1 ⟨g, hg, rfl, f1, B1⟩
  have HB1 := Lib.hid B1
  clear hg f1 B1
  go_wp2_with (fail)
  refine (awake22_any _).mono ?_
  rintro en wz ⟨rfl, Bz⟩
  have HBz := Lib.hid (HB1.out.trans (Bz.mono HB1.out.size))
  clear Bz
  go_wp2_with (fail)
  go_ret
  exact ⟨rfl, HBz.out⟩
set_option maxHeartbeats 32000000 in
set_option maxRecDepth 4000 in
theorem lfresh_main (tol : Int) (l : List Sm) (a : Option Addr) (c : Nat) (h0 : 0 ≤ tol) (h1 : tol ≤ 500000) (h : l.length ≤ 40) (w : World) (S : Cs w a l.length (zof l)) :
    Calls Try.prog 7 #[.int .i64 tol, .slice a l.length c] w fun e w' => e = .returned (.bool true) ∧ Below w.heap.size w w' := by
  obtain ⟨n, hn⟩ : ∃ n, l.length = n := ⟨_, rfl⟩
  rw [hn] at h S ⊢
  have h' : ¬ (40 : Int) < (n : Int) := by omega
  have hS := Lib.hid S
  clear hn S
  go_enter Try.func7, Try.ntmps7
  go_wp2_with (fail)
  refine (new_ok tol h0 h1 _).mono ?_
  rintro en w1 ⟨g, hg, rfl, f1, B1⟩
  have HG := Lib.hid hg; have F1 := Lib.hid f1; have HB1 := Lib.hid B1
  clear hg f1 B1
  go_wp2_with (fail)
  go_loopw [8, 6, 7] (fun vi va vl wr => ∃ (i : Nat) (any : Bool) (fr : Int), i ≤ n ∧ vi = .int .i64 i ∧ va = .bool any ∧ vl = .int .i64 fr ∧ Fi wr g tol (run l i) any fr ∧ Below w.heap.size w wr) (fun vi _ _ _ => n - (intOf vi).toNat)
  case atStart => exact ⟨0, false, 0, by omega, rfl, rfl, rfl, F1.out, HB1.out⟩
  case round =>
    rename World => wr
    obtain ⟨i, any, fr, hi, rfl, rfl, rfl, f, hb⟩ := hrel
    have FR := Lib.hid f; have HR := Lib.hid hb
    by_cases hlt : i < n
    · have Sr := Lib.hid (hS.out.later hb)
      obtain ⟨b, o, rfl, lb, x0, x1, x2, x3⟩ := Sr.out.elem (i := i) hlt
      change wr.cell? _ = some (.int .i64 (nth l i).o) at x0
      change wr.cell? _ = some (.int .i64 (nth l i).d) at x1
      change wr.cell? _ = some (.int .i64 (nth l i).p) at x2
      change wr.cell? _ = some (.int .i64 (nth l i).t) at x3
      have RN := Lib.hid (show run l (i + 1) = addL (run l i) (nth l i) from rfl)
      have V := Lib.hid (run_val l i); have V2 := Lib.hid (run_val l (i + 1))
      have BG := Lib.hid (show b ≠ g from by
        rcases hS.out.cells with e | ⟨b2, o2, e2, lb2, _⟩
        · omega
        · injection e2 with e2; injection e2 with e3 _; subst e3; have := HG.out; omega)
      have LA := Lib.hid (fun h => @last_add (run l i) (nth l i) h)
      obtain ⟨x, ex⟩ : ∃ x, nth l i = x := ⟨_, rfl⟩
      rw [ex] at x0 x1 x2 x3 RN LA
      obtain ⟨xo, xd, xp, xt⟩ := x
      simp only at x0 x1 x2 x3
      obtain ⟨m, hm⟩ : ∃ m, run l i = m := ⟨_, rfl⟩
      rw [hm] at FR RN V LA
      obtain ⟨m2, hm2⟩ : ∃ m2, run l (i + 1) = m2 := ⟨_, rfl⟩
      rw [hm2] at RN V2
      have HM2 := Lib.hid hm2
      obtain ⟨r, hr⟩ : ∃ r, addE m ⟨xo, xd, xp, xt⟩ = r := ⟨_, rfl⟩
      have AR := Lib.hid hr
      have X3 := Lib.hid x3; have LB := Lib.hid lb
      have rc : r = 0 ∨ r ≠ 0 := by omega
      clear f hb ex hm hm2 hr
      rcases rc with rc | rc
      · subst rc
        have L2 := Lib.hid (LA.out AR.out)
        have hp := L2.out.1; have hl := L2.out.2
        rw [← RN.out] at hp hl
        simp only at hl
        have HP := Lib.hid hp; have HL := Lib.hid hl
        have GE := Lib.hid (best_grow_eq (m := m2) (now := xt) (tol := tol) hp (by rw [hl]; omega))
        obtain ⟨G, hG⟩ : ∃ G, grow (first m2) xt tol = G := ⟨_, rfl⟩
        rw [hG] at GE
        have GD := Lib.hid (show G.e = 0 → G.d = (first m2).d by rw [← hG]; exact grow_d)
        obtain ⟨ft, hft⟩ : ∃ ft, (first m2).t = ft := ⟨_, rfl⟩
        obtain ⟨go, gd, gp, gt, ge⟩ := G
        have FT := Lib.hid hft
        have cs : ge ≠ 0 ∨ (ge = 0 ∧ any = false) ∨ (ge = 0 ∧ any = true ∧ fr < ft) ∨ (ge = 0 ∧ any = true ∧ ¬ fr < ft) := by cases any <;> simp <;> omega
        clear hp hl hG hft
        rcases cs with hge | ⟨rfl, rfl⟩ | ⟨rfl, rfl, hf⟩ | ⟨rfl, rfl, hf⟩
        · have NO := Lib.hid (fresh_no (l := m2) (any := any) (fr := fr) (now := xt) (tol := tol) (by rw [GE.out]; exact hge))
          have P1 := Lib.hid NO.out.1; have P2 := Lib.hid NO.out.2.1; have P3 := Lib.hid NO.out.2.2
          have Q1 := P1; have Q2 := P2; have Q3 := P3
          have hgq : (ge != 0) = true := by simpa using hge
          clear hge
          go_wp2_with (fail)
          refine (addf_at V.out AR.out rfl _ FR.out).mono ?_
          rintro en w2 ⟨rfl, ad⟩
          have HB2 := Lib.hid (ad.but.toBelow HG.out HR.out HR.out.size); have F2 := Lib.hid (show Fi w2 g tol m2 any fr by rw [RN.out]; exact ad.fi)
          have y3 : w2.cell? ⟨b, o + i * 4 + 3, none⟩ = some (.int .i64 xt) := cell_but2 X3.out ad.but LB.out BG.out
          have LB2 := Lib.hid (Nat.lt_of_lt_of_le LB.out ad.but.size); have Y3 := Lib.hid y3
          clear ad x0 x1 x2 x3
          go_wp2_with (fail)
          refine (best_at V2.out GE.out P1.out P2.out P3.out _ F2.out).mono ?_
          rintro en w3 ⟨rfl, ad⟩
          have HB3 := Lib.hid (ad.but.toBelow HG.out HB2.out HB2.out.size); have F3 := Lib.hid ad.fi
          have z3 : w3.cell? ⟨b, o + i * 4 + 3, none⟩ = some (.int .i64 xt) := cell_but2 Y3.out ad.but LB2.out BG.out
          have lb3 : b < w3.heap.size := Nat.lt_of_lt_of_le LB2.out ad.but.size
          have zL := World.new_ne w3 _ z3
          have BA : Hid (Below w3.heap.size w3 (w3.alloc (.cells #[.int .i64 go, .int .i64 gd, .int .i64 gp, .int .i64 gt] 29))) := Lib.hid ((Below.refl _ _).alloc (Nat.le_refl _) _)
          have bk : Hid ((w3.alloc (.cells #[.int .i64 go, .int .i64 gd, .int .i64 gp, .int .i64 gt] 29)).heap[w3.heap.size]? = some (.cells #[.int .i64 go, .int .i64 gd, .int .i64 gp, .int .i64 gt] 29 (0, 0))) := Lib.hid (Hp.blk_new w3 _)
          have F4 := Lib.hid (F3.out.later BA.out); have HB4 := Lib.hid (HB3.out.trans (BA.out.mono HB3.out.size))
          have LG3 := Lib.hid F3.out.lt
          clear ad y3
          go_wp2_with (fail)
          refine (best_at V2.out GE.out Q1.out Q2.out Q3.out _ F4.out).mono ?_
          rintro en w5 ⟨rfl, ad⟩
          have HB5 := Lib.hid (ad.but.toBelow HG.out HB4.out HB4.out.size); have F5 := Lib.hid ad.fi
          have bk5 := Lib.hid ((ad.but.block w3.heap.size (Hp.blk_lt bk.out) (by have := LG3.out; omega)).trans bk.out)
          clear ad z3 zL lb3
          have HB6 : Hid (Below w.heap.size w (w5.alloc (.cells #[.int .i64 go, .int .i64 gd, .int .i64 gp, .int .i64 gt] 29))) := Lib.hid (HB5.out.alloc HB5.out.size _); have F6 := Lib.hid (F5.out.later ((Below.refl _ _).alloc (Nat.le_refl _) (.cells #[.int .i64 go, .int .i64 gd, .int .i64 gp, .int .i64 gt] 29)))
          go_wp2_with (fail)
          go_roundw
          case rel => exact ⟨i + 1, any, fr, by omega, by go_num, rfl, rfl, by rw [HM2.out]; exact F6.out, HB6.out⟩
          case measure => (simp [intOf] <;> omega)
        · have GDD := Lib.hid (GD.out rfl)
          have FK := Lib.hid (fresh_ok (l := m2) (any := false) (fr := fr) (now := xt) (tol := tol) (by rw [GE.out]))
          have P1 : Hid (freshB m2 false fr xt tol = true) := Lib.hid (by rw [FK.out, FT.out]; simp)
          have P2 : Hid (anyN m2 false fr xt tol = true) := Lib.hid (by unfold anyN; rw [P1.out]; rfl)
          have P3 : Hid (frN m2 false fr xt tol = ft) := Lib.hid (by unfold frN; rw [P1.out]; exact FT.out)
          have Q1 : Hid (freshB m2 true ft xt tol = false) := Lib.hid (by have := @again_no m2 false fr xt tol; rw [P2.out, P3.out] at this; exact this)
          have Q2 : Hid (anyN m2 true ft xt tol = true) := Lib.hid (by unfold anyN; rfl)
          have Q3 : Hid (frN m2 true ft xt tol = ft) := Lib.hid (by unfold frN; rw [Q1.out]; rfl)
          go_wp2_with (fail)
          refine (addf_at V.out AR.out rfl _ FR.out).mono ?_
          rintro en w2 ⟨rfl, ad⟩
          have HB2 := Lib.hid (ad.but.toBelow HG.out HR.out HR.out.size); have F2 := Lib.hid (show Fi w2 g tol m2 false fr by rw [RN.out]; exact ad.fi)
          have y3 : w2.cell? ⟨b, o + i * 4 + 3, none⟩ = some (.int .i64 xt) := cell_but2 X3.out ad.but LB.out BG.out
          have LB2 := Lib.hid (Nat.lt_of_lt_of_le LB.out ad.but.size); have Y3 := Lib.hid y3
          clear ad x0 x1 x2 x3
          go_wp2_with (fail)
          refine (best_at V2.out GE.out P1.out P2.out P3.out _ F2.out).mono ?_
          rintro en w3 ⟨rfl, ad⟩
          have HB3 := Lib.hid (ad.but.toBelow HG.out HB2.out HB2.out.size); have F3 := Lib.hid ad.fi
          have z3 : w3.cell? ⟨b, o + i * 4 + 3, none⟩ = some (.int .i64 xt) := cell_but2 Y3.out ad.but LB2.out BG.out
          have lb3 : b < w3.heap.size := Nat.lt_of_lt_of_le LB2.out ad.but.size
          have zL := World.new_ne w3 _ z3
          have BA : Hid (Below w3.heap.size w3 (w3.alloc (.cells #[.int .i64 go, .int .i64 gd, .int .i64 gp, .int .i64 gt] 29))) := Lib.hid ((Below.refl _ _).alloc (Nat.le_refl _) _)
          have bk : Hid ((w3.alloc (.cells #[.int .i64 go, .int .i64 gd, .int .i64 gp, .int .i64 gt] 29)).heap[w3.heap.size]? = some (.cells #[.int .i64 go, .int .i64 gd, .int .i64 gp, .int .i64 gt] 29 (0, 0))) := Lib.hid (Hp.blk_new w3 _)
          have F4 := Lib.hid (F3.out.later BA.out); have HB4 := Lib.hid (HB3.out.trans (BA.out.mono HB3.out.size))
          have LG3 := Lib.hid F3.out.lt
          clear ad y3
          go_wp2_with (fail)
          refine (best_at V2.out GE.out Q1.out Q2.out Q3.out _ F4.out).mono ?_
          rintro en w5 ⟨rfl, ad⟩
          have HB5 := Lib.hid (ad.but.toBelow HG.out HB4.out HB4.out.size); have F5 := Lib.hid ad.fi
          have bk5 := Lib.hid ((ad.but.block w3.heap.size (Hp.blk_lt bk.out) (by have := LG3.out; omega)).trans bk.out)
          clear ad z3 zL lb3
          have HB6 : Hid (Below w.heap.size w (w5.alloc (.cells #[.int .i64 go, .int .i64 gd, .int .i64 gp, .int .i64 gt] 29))) := Lib.hid (HB5.out.alloc HB5.out.size _); have F6 := Lib.hid (F5.out.later ((Below.refl _ _).alloc (Nat.le_refl _) (.cells #[.int .i64 go, .int .i64 gd, .int .i64 gp, .int .i64 gt] 29)))
          have bk6 := Lib.hid (Hp.blk_old (y := .cells #[.int .i64 go, .int .i64 gd, .int .i64 gp, .int .i64 gt] 29) bk5.out)
          go_wp2_with (fail)
          refine (samples_any V2.out _ F6.out).mono ?_
          rintro en w7 ⟨v7, rfl, o7, B7⟩
          obtain ⟨a7, c7, rfl, s7⟩ := o7.rd
          have HB7 := Lib.hid (HB6.out.trans (B7.mono HB6.out.size)); have F7 := Lib.hid (F6.out.later B7); have S7 := Lib.hid s7
          have bk7 := Lib.hid ((B7.block w3.heap.size (Hp.blk_lt bk6.out)).trans bk6.out)
          have LF := Lib.hid (show lsB m2 gd m2.length = true ∧ lsT m2 gd m2.length = (first m2).t from by rw [show gd = (first m2).d from GDD.out]; exact ls_first V2.out HP.out)
          have LL := Lib.hid (ls_lt V2.out gd)
          have k8 := V2.out.len
          have g1 : w7.cell? ⟨w3.heap.size, 1, none⟩ = some (.int .i64 gd) := Hp.blk_cell bk7.out rfl
          have G1 := Lib.hid g1
          obtain ⟨gx, hgx⟩ : ∃ gx, w3.heap.size = gx := ⟨_, rfl⟩
          rw [hgx] at G1
          rw [hgx]
          obtain ⟨k, hk⟩ : ∃ k, m2.length = k := ⟨_, rfl⟩
          rw [hk] at S7 k8 LF LL ⊢
          clear o7 B7 s7 g1 hgx hk
          go_wp2_with (fail)
          go_loopw [18, 16, 17] (fun vi vt vs wx => ∃ j : Nat, j ≤ k ∧ vi = .int .i64 j ∧ vt = .int .i64 (lsT m2 gd j) ∧ vs = .bool (lsB m2 gd j) ∧ ∃ q, wx = w7.drewN q) (fun vi _ _ _ => k - (intOf vi).toNat)
          case atStart => exact ⟨0, by omega, rfl, rfl, rfl, 0, rfl⟩
          case round =>
            obtain ⟨j, hj, rfl, rfl, rfl, q, rfl⟩ := hrel
            by_cases hlt2 : j < k
            · have TS := Lib.hid (show lsT m2 gd (j + 1) = if (nth m2 j).d = gd then (nth m2 j).t else lsT m2 gd j from rfl)
              have BS := Lib.hid (show lsB m2 gd (j + 1) = if (nth m2 j).d = gd then true else lsB m2 gd j from rfl)
              have LT := Lib.hid (LL.out j hlt2)
              obtain ⟨b2, o2, rfl, lb2, _, u1, _, u3⟩ := S7.out.elem (i := j) hlt2
              change w7.cell? _ = some (.int .i64 (nth m2 j).d) at u1
              change w7.cell? _ = some (.int .i64 (nth m2 j).t) at u3
              obtain ⟨X, eX⟩ : ∃ X, (nth m2 j).d = X := ⟨_, rfl⟩
              obtain ⟨T, eT⟩ : ∃ T, (nth m2 j).t = T := ⟨_, rfl⟩
              rw [eX] at u1 TS BS
              rw [eT] at u3 TS LT
              obtain ⟨at_, hat⟩ : ∃ x, lsT m2 gd j = x := ⟨_, rfl⟩
              obtain ⟨sn, hsn⟩ : ∃ x, lsB m2 gd j = x := ⟨_, rfl⟩
              rw [hat] at TS LT
              rw [hsn] at BS LT
              rw [hat, hsn]
              have g1 := G1.out
              clear eX eT hat hsn
              by_cases hx : X = gd
              · have T2 := Lib.hid (TS.out.trans (if_pos hx)); have B2 := Lib.hid (BS.out.trans (if_pos hx))
                subst hx
                clear TS BS
                cases sn with
                | false =>
                  go_wp2_with (fail)
                  go_quiet (fail)
                  go_wp2_with (fail)
                  go_roundw
                  case rel => exact ⟨j + 1, by omega, by go_num, by rw [T2.out], by rw [B2.out] <;> rfl, _, by first | rfl | exact World.drewN_drewN _ _ _⟩
                  case measure => (simp [intOf] <;> omega)
                | true =>
                  have lt1 : at_ < T := LT.out rfl
                  go_wp2_with (fail)
                  go_quiet (fail)
                  go_wp2_with (fail)
                  go_roundw
                  case rel => exact ⟨j + 1, by omega, by go_num, by rw [T2.out], by rw [B2.out] <;> rfl, _, by first | rfl | exact World.drewN_drewN _ _ _⟩
                  case measure => (simp [intOf] <;> omega)
              · have T2 := Lib.hid (TS.out.trans (if_neg hx)); have B2 := Lib.hid (BS.out.trans (if_neg hx))
                have hq : (X == gd) = false := by simpa using hx
                clear TS BS hx
                go_wp2_with (fail)
                go_quiet (fail)
                go_wp2_with (fail)
                go_roundw
                case rel => exact ⟨j + 1, by omega, by go_num, by rw [T2.out], by rw [B2.out], _, by first | rfl | exact World.drewN_drewN _ _ _⟩
                case measure => (simp [intOf] <;> omega)
            · obtain rfl : k = j := by omega
              have l1 := LF.out.1; have l2 := LF.out.2
              rw [FT.out] at l2
              rw [l1, l2]
              have F8 := Lib.hid (F7.out.drewN (n := q)); have HB8 := Lib.hid (Hp.drewN HB7.out q)
              clear l1 l2
              go_wp2_with (fail)
              go_roundw
              case rel => exact ⟨i + 1, true, ft, by omega, by go_num, rfl, rfl, by rw [HM2.out]; exact F8.out, HB8.out⟩
              case measure => (simp [intOf] <;> omega)
        · have GDD := Lib.hid (GD.out rfl)
          have FK := Lib.hid (fresh_ok (l := m2) (any := true) (fr := fr) (now := xt) (tol := tol) (by rw [GE.out]))
          have P1 : Hid (freshB m2 true fr xt tol = true) := Lib.hid (by rw [FK.out, FT.out]; simp; exact hf)
          have P2 : Hid (anyN m2 true fr xt tol = true) := Lib.hid (by unfold anyN; rw [P1.out]; rfl)
          have P3 : Hid (frN m2 true fr xt tol = ft) := Lib.hid (by unfold frN; rw [P1.out]; exact FT.out)
          have Q1 : Hid (freshB m2 true ft xt tol = false) := Lib.hid (by have := @again_no m2 true fr xt tol; rw [P2.out, P3.out] at this; exact this)
          have Q2 : Hid (anyN m2 true ft xt tol = true) := Lib.hid (by unfold anyN; rfl)
          have Q3 : Hid (frN m2 true ft xt tol = ft) := Lib.hid (by unfold frN; rw [Q1.out]; rfl)
          go_wp2_with (fail)
          refine (addf_at V.out AR.out rfl _ FR.out).mono ?_
          rintro en w2 ⟨rfl, ad⟩
          have HB2 := Lib.hid (ad.but.toBelow HG.out HR.out HR.out.size); have F2 := Lib.hid (show Fi w2 g tol m2 true fr by rw [RN.out]; exact ad.fi)
          have y3 : w2.cell? ⟨b, o + i * 4 + 3, none⟩ = some (.int .i64 xt) := cell_but2 X3.out ad.but LB.out BG.out
          have LB2 := Lib.hid (Nat.lt_of_lt_of_le LB.out ad.but.size); have Y3 := Lib.hid y3
          clear ad x0 x1 x2 x3
          go_wp2_with (fail)
          refine (best_at V2.out GE.out P1.out P2.out P3.out _ F2.out).mono ?_
          rintro en w3 ⟨rfl, ad⟩
          have HB3 := Lib.hid (ad.but.toBelow HG.out HB2.out HB2.out.size); have F3 := Lib.hid ad.fi
          have z3 : w3.cell? ⟨b, o + i * 4 + 3, none⟩ = some (.int .i64 xt) := cell_but2 Y3.out ad.but LB2.out BG.out
          have lb3 : b < w3.heap.size := Nat.lt_of_lt_of_le LB2.out ad.but.size
          have zL := World.new_ne w3 _ z3
          have BA : Hid (Below w3.heap.size w3 (w3.alloc (.cells #[.int .i64 go, .int .i64 gd, .int .i64 gp, .int .i64 gt] 29))) := Lib.hid ((Below.refl _ _).alloc (Nat.le_refl _) _)
          have bk : Hid ((w3.alloc (.cells #[.int .i64 go, .int .i64 gd, .int .i64 gp, .int .i64 gt] 29)).heap[w3.heap.size]? = some (.cells #[.int .i64 go, .int .i64 gd, .int .i64 gp, .int .i64 gt] 29 (0, 0))) := Lib.hid (Hp.blk_new w3 _)
          have F4 := Lib.hid (F3.out.later BA.out); have HB4 := Lib.hid (HB3.out.trans (BA.out.mono HB3.out.size))
          have LG3 := Lib.hid F3.out.lt
          clear ad y3
          go_wp2_with (fail)
          refine (best_at V2.out GE.out Q1.out Q2.out Q3.out _ F4.out).mono ?_
          rintro en w5 ⟨rfl, ad⟩
          have HB5 := Lib.hid (ad.but.toBelow HG.out HB4.out HB4.out.size); have F5 := Lib.hid ad.fi
          have bk5 := Lib.hid ((ad.but.block w3.heap.size (Hp.blk_lt bk.out) (by have := LG3.out; omega)).trans bk.out)
          clear ad z3 zL lb3
          have HB6 : Hid (Below w.heap.size w (w5.alloc (.cells #[.int .i64 go, .int .i64 gd, .int .i64 gp, .int .i64 gt] 29))) := Lib.hid (HB5.out.alloc HB5.out.size _); have F6 := Lib.hid (F5.out.later ((Below.refl _ _).alloc (Nat.le_refl _) (.cells #[.int .i64 go, .int .i64 gd, .int .i64 gp, .int .i64 gt] 29)))
          have bk6 := Lib.hid (Hp.blk_old (y := .cells #[.int .i64 go, .int .i64 gd, .int .i64 gp, .int .i64 gt] 29) bk5.out)
          go_wp2_with (fail)
          refine (samples_any V2.out _ F6.out).mono ?_
          rintro en w7 ⟨v7, rfl, o7, B7⟩
          obtain ⟨a7, c7, rfl, s7⟩ := o7.rd
          have HB7 := Lib.hid (HB6.out.trans (B7.mono HB6.out.size)); have F7 := Lib.hid (F6.out.later B7); have S7 := Lib.hid s7
          have bk7 := Lib.hid ((B7.block w3.heap.size (Hp.blk_lt bk6.out)).trans bk6.out)
          have LF := Lib.hid (show lsB m2 gd m2.length = true ∧ lsT m2 gd m2.length = (first m2).t from by rw [show gd = (first m2).d from GDD.out]; exact ls_first V2.out HP.out)
          have LL := Lib.hid (ls_lt V2.out gd)
          have k8 := V2.out.len
          have g1 : w7.cell? ⟨w3.heap.size, 1, none⟩ = some (.int .i64 gd) := Hp.blk_cell bk7.out rfl
          have G1 := Lib.hid g1
          obtain ⟨gx, hgx⟩ : ∃ gx, w3.heap.size = gx := ⟨_, rfl⟩
          rw [hgx] at G1
          rw [hgx]
          obtain ⟨k, hk⟩ : ∃ k, m2.length = k := ⟨_, rfl⟩
          rw [hk] at S7 k8 LF LL ⊢
          clear o7 B7 s7 g1 hgx hk
          go_wp2_with (fail)
          go_loopw [18, 16, 17] (fun vi vt vs wx => ∃ j : Nat, j ≤ k ∧ vi = .int .i64 j ∧ vt = .int .i64 (lsT m2 gd j) ∧ vs = .bool (lsB m2 gd j) ∧ ∃ q, wx = w7.drewN q) (fun vi _ _ _ => k - (intOf vi).toNat)
          case atStart => exact ⟨0, by omega, rfl, rfl, rfl, 0, rfl⟩
          case round =>
            obtain ⟨j, hj, rfl, rfl, rfl, q, rfl⟩ := hrel
            by_cases hlt2 : j < k
            · have TS := Lib.hid (show lsT m2 gd (j + 1) = if (nth m2 j).d = gd then (nth m2 j).t else lsT m2 gd j from rfl)
              have BS := Lib.hid (show lsB m2 gd (j + 1) = if (nth m2 j).d = gd then true else lsB m2 gd j from rfl)
              have LT := Lib.hid (LL.out j hlt2)
              obtain ⟨b2, o2, rfl, lb2, _, u1, _, u3⟩ := S7.out.elem (i := j) hlt2
              change w7.cell? _ = some (.int .i64 (nth m2 j).d) at u1
              change w7.cell? _ = some (.int .i64 (nth m2 j).t) at u3
              obtain ⟨X, eX⟩ : ∃ X, (nth m2 j).d = X := ⟨_, rfl⟩
              obtain ⟨T, eT⟩ : ∃ T, (nth m2 j).t = T := ⟨_, rfl⟩
              rw [eX] at u1 TS BS
              rw [eT] at u3 TS LT
              obtain ⟨at_, hat⟩ : ∃ x, lsT m2 gd j = x := ⟨_, rfl⟩
              obtain ⟨sn, hsn⟩ : ∃ x, lsB m2 gd j = x := ⟨_, rfl⟩
              rw [hat] at TS LT
              rw [hsn] at BS LT
              rw [hat, hsn]
              have g1 := G1.out
              clear eX eT hat hsn
              by_cases hx : X = gd
              · have T2 := Lib.hid (TS.out.trans (if_pos hx)); have B2 := Lib.hid (BS.out.trans (if_pos hx))
                subst hx
                clear TS BS
                cases sn with
                | false =>
                  go_wp2_with (fail)
                  go_quiet (fail)
                  go_wp2_with (fail)
                  go_roundw
                  case rel => exact ⟨j + 1, by omega, by go_num, by rw [T2.out], by rw [B2.out] <;> rfl, _, by first | rfl | exact World.drewN_drewN _ _ _⟩
                  case measure => (simp [intOf] <;> omega)
                | true =>
                  have lt1 : at_ < T := LT.out rfl
                  go_wp2_with (fail)
                  go_quiet (fail)
                  go_wp2_with (fail)
                  go_roundw
                  case rel => exact ⟨j + 1, by omega, by go_num, by rw [T2.out], by rw [B2.out] <;> rfl, _, by first | rfl | exact World.drewN_drewN _ _ _⟩
                  case measure => (simp [intOf] <;> omega)
              · have T2 := Lib.hid (TS.out.trans (if_neg hx)); have B2 := Lib.hid (BS.out.trans (if_neg hx))
                have hq : (X == gd) = false := by simpa using hx
                clear TS BS hx
                go_wp2_with (fail)
                go_quiet (fail)
                go_wp2_with (fail)
                go_roundw
                case rel => exact ⟨j + 1, by omega, by go_num, by rw [T2.out], by rw [B2.out], _, by first | rfl | exact World.drewN_drewN _ _ _⟩
                case measure => (simp [intOf] <;> omega)
            · obtain rfl : k = j := by omega
              have l1 := LF.out.1; have l2 := LF.out.2
              rw [FT.out] at l2
              rw [l1, l2]
              have F8 := Lib.hid (F7.out.drewN (n := q)); have HB8 := Lib.hid (Hp.drewN HB7.out q)
              clear l1 l2
              go_wp2_with (fail)
              go_roundw
              case rel => exact ⟨i + 1, true, ft, by omega, by go_num, rfl, rfl, by rw [HM2.out]; exact F8.out, HB8.out⟩
              case measure => (simp [intOf] <;> omega)
        · have GDD := Lib.hid (GD.out rfl)
          have FK := Lib.hid (fresh_ok (l := m2) (any := true) (fr := fr) (now := xt) (tol := tol) (by rw [GE.out]))
          have P1 : Hid (freshB m2 true fr xt tol = false) := Lib.hid (by rw [FK.out, FT.out]; simp; omega)
          have P2 : Hid (anyN m2 true fr xt tol = true) := Lib.hid (by unfold anyN; rw [P1.out]; rfl)
          have P3 : Hid (frN m2 true fr xt tol = fr) := Lib.hid (by unfold frN; rw [P1.out]; rfl)
          have Q1 : Hid (freshB m2 true fr xt tol = false) := Lib.hid (by have := @again_no m2 true fr xt tol; rw [P2.out, P3.out] at this; exact this)
          have Q2 : Hid (anyN m2 true fr xt tol = true) := Lib.hid (by unfold anyN; rfl)
          have Q3 : Hid (frN m2 true fr xt tol = fr) := Lib.hid (by unfold frN; rw [Q1.out]; rfl)
          go_wp2_with (fail)
          refine (addf_at V.out AR.out rfl _ FR.out).mono ?_
          rintro en w2 ⟨rfl, ad⟩
          have HB2 := Lib.hid (ad.but.toBelow HG.out HR.out HR.out.size); have F2 := Lib.hid (show Fi w2 g tol m2 true fr by rw [RN.out]; exact ad.fi)
          have y3 : w2.cell? ⟨b, o + i * 4 + 3, none⟩ = some (.int .i64 xt) := cell_but2 X3.out ad.but LB.out BG.out
          have LB2 := Lib.hid (Nat.lt_of_lt_of_le LB.out ad.but.size); have Y3 := Lib.hid y3
          clear ad x0 x1 x2 x3
          go_wp2_with (fail)
          refine (best_at V2.out GE.out P1.out P2.out P3.out _ F2.out).mono ?_
          rintro en w3 ⟨rfl, ad⟩
          have HB3 := Lib.hid (ad.but.toBelow HG.out HB2.out HB2.out.size); have F3 := Lib.hid ad.fi
          have z3 : w3.cell? ⟨b, o + i * 4 + 3, none⟩ = some (.int .i64 xt) := cell_but2 Y3.out ad.but LB2.out BG.out
          have lb3 : b < w3.heap.size := Nat.lt_of_lt_of_le LB2.out ad.but.size
          have zL := World.new_ne w3 _ z3
          have BA : Hid (Below w3.heap.size w3 (w3.alloc (.cells #[.int .i64 go, .int .i64 gd, .int .i64 gp, .int .i64 gt] 29))) := Lib.hid ((Below.refl _ _).alloc (Nat.le_refl _) _)
          have bk : Hid ((w3.alloc (.cells #[.int .i64 go, .int .i64 gd, .int .i64 gp, .int .i64 gt] 29)).heap[w3.heap.size]? = some (.cells #[.int .i64 go, .int .i64 gd, .int .i64 gp, .int .i64 gt] 29 (0, 0))) := Lib.hid (Hp.blk_new w3 _)
          have F4 := Lib.hid (F3.out.later BA.out); have HB4 := Lib.hid (HB3.out.trans (BA.out.mono HB3.out.size))
          have LG3 := Lib.hid F3.out.lt
          clear ad y3
          go_wp2_with (fail)
          refine (best_at V2.out GE.out Q1.out Q2.out Q3.out _ F4.out).mono ?_
          rintro en w5 ⟨rfl, ad⟩
          have HB5 := Lib.hid (ad.but.toBelow HG.out HB4.out HB4.out.size); have F5 := Lib.hid ad.fi
          have bk5 := Lib.hid ((ad.but.block w3.heap.size (Hp.blk_lt bk.out) (by have := LG3.out; omega)).trans bk.out)
          clear ad z3 zL lb3
          have HB6 : Hid (Below w.heap.size w (w5.alloc (.cells #[.int .i64 go, .int .i64 gd, .int .i64 gp, .int .i64 gt] 29))) := Lib.hid (HB5.out.alloc HB5.out.size _); have F6 := Lib.hid (F5.out.later ((Below.refl _ _).alloc (Nat.le_refl _) (.cells #[.int .i64 go, .int .i64 gd, .int .i64 gp, .int .i64 gt] 29)))
          have bk6 := Lib.hid (Hp.blk_old (y := .cells #[.int .i64 go, .int .i64 gd, .int .i64 gp, .int .i64 gt] 29) bk5.out)
          go_wp2_with (fail)
          refine (samples_any V2.out _ F6.out).mono ?_
          rintro en w7 ⟨v7, rfl, o7, B7⟩
          obtain ⟨a7, c7, rfl, s7⟩ := o7.rd
          have HB7 := Lib.hid (HB6.out.trans (B7.mono HB6.out.size)); have F7 := Lib.hid (F6.out.later B7); have S7 := Lib.hid s7
          have bk7 := Lib.hid ((B7.block w3.heap.size (Hp.blk_lt bk6.out)).trans bk6.out)
          have LF := Lib.hid (show lsB m2 gd m2.length = true ∧ lsT m2 gd m2.length = (first m2).t from by rw [show gd = (first m2).d from GDD.out]; exact ls_first V2.out HP.out)
          have LL := Lib.hid (ls_lt V2.out gd)
          have k8 := V2.out.len
          have g1 : w7.cell? ⟨w3.heap.size, 1, none⟩ = some (.int .i64 gd) := Hp.blk_cell bk7.out rfl
          have G1 := Lib.hid g1
          obtain ⟨gx, hgx⟩ : ∃ gx, w3.heap.size = gx := ⟨_, rfl⟩
          rw [hgx] at G1
          rw [hgx]
          obtain ⟨k, hk⟩ : ∃ k, m2.length = k := ⟨_, rfl⟩
          rw [hk] at S7 k8 LF LL ⊢
          clear o7 B7 s7 g1 hgx hk
          go_wp2_with (fail)
          go_loopw [18, 16, 17] (fun vi vt vs wx => ∃ j : Nat, j ≤ k ∧ vi = .int .i64 j ∧ vt = .int .i64 (lsT m2 gd j) ∧ vs = .bool (lsB m2 gd j) ∧ ∃ q, wx = w7.drewN q) (fun vi _ _ _ => k - (intOf vi).toNat)
          case atStart => exact ⟨0, by omega, rfl, rfl, rfl, 0, rfl⟩
          case round =>
            obtain ⟨j, hj, rfl, rfl, rfl, q, rfl⟩ := hrel
            by_cases hlt2 : j < k
            · have TS := Lib.hid (show lsT m2 gd (j + 1) = if (nth m2 j).d = gd then (nth m2 j).t else lsT m2 gd j from rfl)
              have BS := Lib.hid (show lsB m2 gd (j + 1) = if (nth m2 j).d = gd then true else lsB m2 gd j from rfl)
              have LT := Lib.hid (LL.out j hlt2)
              obtain ⟨b2, o2, rfl, lb2, _, u1, _, u3⟩ := S7.out.elem (i := j) hlt2
              change w7.cell? _ = some (.int .i64 (nth m2 j).d) at u1
              change w7.cell? _ = some (.int .i64 (nth m2 j).t) at u3
              obtain ⟨X, eX⟩ : ∃ X, (nth m2 j).d = X := ⟨_, rfl⟩
              obtain ⟨T, eT⟩ : ∃ T, (nth m2 j).t = T := ⟨_, rfl⟩
              rw [eX] at u1 TS BS
              rw [eT] at u3 TS LT
              obtain ⟨at_, hat⟩ : ∃ x, lsT m2 gd j = x := ⟨_, rfl⟩
              obtain ⟨sn, hsn⟩ : ∃ x, lsB m2 gd j = x := ⟨_, rfl⟩
              rw [hat] at TS LT
              rw [hsn] at BS LT
              rw [hat, hsn]
              have g1 := G1.out
              clear eX eT hat hsn
              by_cases hx : X = gd
              · have T2 := Lib.hid (TS.out.trans (if_pos hx)); have B2 := Lib.hid (BS.out.trans (if_pos hx))
                subst hx
                clear TS BS
                cases sn with
                | false =>
                  go_wp2_with (fail)
                  go_quiet (fail)
                  go_wp2_with (fail)
                  go_roundw
                  case rel => exact ⟨j + 1, by omega, by go_num, by rw [T2.out], by rw [B2.out] <;> rfl, _, by first | rfl | exact World.drewN_drewN _ _ _⟩
                  case measure => (simp [intOf] <;> omega)
                | true =>
                  have lt1 : at_ < T := LT.out rfl
                  go_wp2_with (fail)
                  go_quiet (fail)
                  go_wp2_with (fail)
                  go_roundw
                  case rel => exact ⟨j + 1, by omega, by go_num, by rw [T2.out], by rw [B2.out] <;> rfl, _, by first | rfl | exact World.drewN_drewN _ _ _⟩
                  case measure => (simp [intOf] <;> omega)
              · have T2 := Lib.hid (TS.out.trans (if_neg hx)); have B2 := Lib.hid (BS.out.trans (if_neg hx))
                have hq : (X == gd) = false := by simpa using hx
                clear TS BS hx
                go_wp2_with (fail)
                go_quiet (fail)
                go_wp2_with (fail)
                go_roundw
                case rel => exact ⟨j + 1, by omega, by go_num, by rw [T2.out], by rw [B2.out], _, by first | rfl | exact World.drewN_drewN _ _ _⟩
                case measure => (simp [intOf] <;> omega)
            · obtain rfl : k = j := by omega
              have l1 := LF.out.1; have l2 := LF.out.2
              rw [FT.out] at l2
              rw [l1, l2]
              have F8 := Lib.hid (F7.out.drewN (n := q)); have HB8 := Lib.hid (Hp.drewN HB7.out q)
              clear l1 l2
              go_wp2_with (fail)
              go_roundw
              case rel => exact ⟨i + 1, true, fr, by omega, by go_num, rfl, rfl, by rw [HM2.out]; exact F8.out, HB8.out⟩
              case measure => (simp [intOf] <;> omega)
      · have rq : (r != 0) = true := by simpa using rc
        have RN2 := Lib.hid (addL_no (l := m) (x := ⟨xo, xd, xp, xt⟩) (by rw [AR.out]; exact rc))
        clear rc
        go_wp2_with (fail)
        refine (addf_at V.out AR.out rfl _ FR.out).mono ?_
        rintro en w2 ⟨rfl, ad⟩
        have HB2 := Lib.hid (ad.but.toBelow HG.out HR.out HR.out.size); have F2 := Lib.hid (show Fi w2 g tol m2 any fr by rw [RN.out]; exact ad.fi)
        have y3 : w2.cell? ⟨b, o + i * 4 + 3, none⟩ = some (.int .i64 xt) := cell_but2 X3.out ad.but LB.out BG.out
        have LB2 := Lib.hid (Nat.lt_of_lt_of_le LB.out ad.but.size); have Y3 := Lib.hid y3
        clear ad x0 x1 x2 x3
        clear y3
        go_wp2_with (fail)
        go_roundw
        case rel => exact ⟨i + 1, any, fr, by omega, by go_num, rfl, rfl, by rw [HM2.out]; exact F2.out, HB2.out⟩
        case measure => (simp [intOf] <;> omega)
    · obtain rfl : n = i := by omega
      clear f hb
      go_wp2_with (fail)
      refine (awake22_any _).mono ?_
      rintro en wz ⟨rfl, Bz⟩
      have HBz := Lib.hid (HR.out.trans (Bz.mono HR.out.size))
      clear Bz
      go_wp2_with (fail)
      go_ret
      exact ⟨rfl, HBz.out⟩
theorem law_FilterFresh (tol : Int) (a : Option Addr) (n c : Nat) (z : Nat → Nat → Int) (w : World) (S : In.IsStructs [.i64, .i64, .i64, .i64] w a n c z) :
    Calls Try.prog 7 #[.int .i64 tol, .slice a n c] w fun e w' => e = .returned (.bool true) ∧ Below w.heap.size w w' := by
  obtain ⟨l, hl, s⟩ := in_smp S
  subst hl
  by_cases h : 0 ≤ tol ∧ tol ≤ 500000
  · by_cases h2 : 40 < l.length
    · exact lfresh_long tol l a c h.1 h.2 h2 w
    · exact lfresh_main tol l a c h.1 h.2 (by omega) w s
  · exact lfresh_tol tol l a c (by omega) w
end Go.Proofs.Ytdaedhgbkamjpaa.JxW
