/- The law FilterJitters of layer 22. -/
import Derived.Test.YtdaedhgbkamjpaaJy
set_option linter.unusedVariables false
set_option linter.unusedSimpArgs false
namespace Go.Proofs.Ytdaedhgbkamjpaa.Jx
/-- offsets shifted -/
def shf (s : Int) (x : Sm) : Sm := ⟨x.o + s, x.d, x.p, x.t⟩
theorem nth_map {m : List Sm} {s : Int} {i : Nat} (h : i < m.length) : nth (m.map (shf s)) i = shf s (nth m i) := by
  unfold nth; simp [List.getD_eq_getElem?_getD, h]
theorem last_shf {m : List Sm} (s : Int) (h : 0 < m.length) : lastT (m.map (shf s)) = lastT m := by
  unfold lastT; rw [List.length_map, nth_map (by omega)]; rfl
theorem map_nil {m : List Sm} (s : Int) : m.map (shf s) = [] ↔ m = [] := by simp
theorem addE_shf {m : List Sm} {x : Sm} {s : Int} (h : okb x = true) (h2 : okb (shf s x) = true) : addE (m.map (shf s)) (shf s x) = addE m x := by
  unfold addE
  rw [if_pos h, if_pos h2]
  by_cases e : m = []
  · subst e; rfl
  · rw [last_shf s (List.length_pos_iff.2 e)]
    have : (m.map (shf s) ≠ [] ∧ (shf s x).t ≤ lastT m) ↔ (m ≠ [] ∧ x.t ≤ lastT m) := by
      constructor
      · rintro ⟨_, g⟩; exact ⟨e, g⟩
      · rintro ⟨_, g⟩; exact ⟨fun e2 => e ((map_nil s).1 e2), g⟩
    simp only [this]
theorem addL_shf {m : List Sm} {x : Sm} {s : Int} (h : okb x = true) (h2 : okb (shf s x) = true) : addL (m.map (shf s)) (shf s x) = (addL m x).map (shf s) := by
  unfold addL
  rw [addE_shf h h2]
  split
  · unfold push; rw [List.length_map]; split <;> simp [List.map_drop]
  · rfl
theorem shf_val {m : List Sm} (V : Val m) (s : Int) (h : ∀ x, x ∈ m → okb (shf s x) = true) : Val (m.map (shf s)) :=
  ⟨by rw [List.length_map]; exact V.len, fun x hx => by obtain ⟨y, hy, rfl⟩ := List.mem_map.1 hx; exact h y hy, List.pairwise_map.2 V.inc⟩
theorem ord_shf {m : List Sm} (V : Val m) {s : Int} (h : ∀ x, x ∈ m → okb (shf s x) = true) : ord (m.map (shf s)) = (ord m).map (shf s) :=
  (ord_uniq (shf_val V s h) ((ord_perm m).map _) (List.pairwise_map.2 (ord_sorted V))).symm
theorem dq_shf (s : Int) (x y : Sm) : dq (shf s x) (shf s y) = dq x y := by unfold dq shf; simp only; rw [show x.o + s - (y.o + s) = x.o - y.o by omega]
theorem sqN_shf (m : List Sm) (s : Int) : ∀ k, k ≤ m.length → sqN (m.map (shf s)) k = sqN m k
  | 0, _ => rfl
  | k + 1, h => by simp only [sqN]; rw [sqN_shf m s k (by omega), nth_map (by omega), nth_map (by omega), dq_shf]
theorem jit_shf {m : List Sm} (V : Val m) {s : Int} (h : ∀ x, x ∈ m → okb (shf s x) = true) : jit (m.map (shf s)) = jit m := by
  unfold jit
  rw [List.length_map, ord_shf V h, sqN_shf _ _ _ (by rw [ord_len]; exact Nat.le_refl _)]
theorem sqN_flat {m : List Sm} : ∀ k, (∀ i, i < k → (nth m i).o = (nth m 0).o) → sqN m k = 0
  | 0, _ => rfl
  | k + 1, h => by
    simp only [sqN]
    rw [sqN_flat k (fun i hi => h i (by omega))]
    have : dq (nth m k) (nth m 0) = 0 := by unfold dq; rw [h k (by omega)]; unfold Fx.iabs; split <;> omega
    rw [this]; rfl
theorem isq_zero : Fx.isq 0 = 0 := Fx.isq_unique (by omega) (by omega) (by omega)
theorem jit_flat {m : List Sm} {c : Int} (h : ∀ i, i < m.length → (nth m i).o = c) : jit m = 0 := by
  unfold jit; split
  · rfl
  · have al : ∀ i, i < m.length → (nth (ord m) i).o = c := fun i hi => by
      obtain ⟨j, hj, e⟩ := mem_nth (ord_mem.1 (nth_mem (l := ord m) (i := i) (by rw [ord_len]; exact hi)))
      rw [← e]; exact h j hj
    rw [sqN_flat m.length (fun i hi => by rw [al i hi, al 0 (by omega)])]
    rw [Int.zero_ediv]; exact isq_zero
/-- are the first k offsets equal -/
def eqb (m : List Sm) : Nat → Bool
  | 0 => true
  | k + 1 => eqb m k && decide ((nth m k).o = (nth m 0).o)
theorem eqb_one (m : List Sm) : eqb m 1 = true := by simp [eqb]
theorem eqb_all {m : List Sm} : ∀ {k}, eqb m k = true → ∀ i, i < k → (nth m i).o = (nth m 0).o
  | 0, _, i, h => by omega
  | k + 1, e, i, h => by
    simp only [eqb, Bool.and_eq_true, decide_eq_true_eq] at e
    by_cases g : i = k
    · rw [g]; exact e.2
    · exact eqb_all e.1 i (by omega)
theorem jit_eqb {m : List Sm} (h : eqb m m.length = true) : jit m = 0 := jit_flat (fun i hi => eqb_all h i hi)
/-- good for both -/
def both (s : Int) (x : Sm) : Prop := okb x = true ∧ okb (shf s x) = true
theorem run_both {l : List Sm} {s : Int} : ∀ {k}, (∀ i, i < k → both s (nth l i)) → ∀ x, x ∈ run l k → okb (shf s x) = true
  | 0, _, x, hx => by simp [run] at hx
  | k + 1, h, x, hx => by
    have ih := run_both (k := k) (fun i hi => h i (by omega))
    simp only [run] at hx
    unfold addL at hx
    split at hx
    · unfold push at hx
      rcases List.mem_append.1 hx with g | g
      · split at g
        · exact ih x (List.mem_of_mem_drop g)
        · exact ih x g
      · rw [List.mem_singleton.1 g]; exact (h k (by omega)).2
    · exact ih x hx
theorem both_of {x : Sm} {s : Int} (h : okb x = true) (h1 : -1125899906842624 ≤ x.o) (h2 : x.o ≤ 1125899906842624) (s1 : -1000000000 ≤ s) (s2 : s ≤ 1000000000) : both s x := by
  have := Sx.okS_iff.1 h
  exact ⟨h, Sx.okS_iff.2 (by unfold shf; simp only; omega)⟩
end Go.Proofs.Ytdaedhgbkamjpaa.Jx
namespace Go.Proofs.Ytdaedhgbkamjpaa.JxW
open Go.RowKit FxW
open Go.Proofs.Ytdaedhgbkamjpaa.Jx
theorem cell_but {w w' : World} {g : Nat} {p : Addr} {v : Value} (h : w.cell? p = some v) (k : But g w w') (lt : p.block < w.heap.size) (ne : p.block ≠ g) : w'.cell? p = some v := by
  rw [← h]; simp [World.cell?, k.block _ lt ne]
set_option maxHeartbeats 4000000 in
theorem ljitters_no (l : List Sm) (a : Option Addr) (c : Nat) (s : Int) (h : 8 < l.length ∨ (l.length ≤ 8 ∧ s < -1000000000) ∨ (l.length ≤ 8 ∧ -1000000000 ≤ s ∧ 1000000000 < s)) (w : World) :
    Calls Try.prog 8 #[.slice a l.length c, .int .i64 s] w fun e w' => e = .returned (.bool true) ∧ Below w.heap.size w w' := by
  have HB1 := Lib.hid (Below.refl w.heap.size w)
  obtain ⟨n, hn⟩ : ∃ n, l.length = n := ⟨_, rfl⟩
  rw [hn] at h ⊢
  clear hn
  rcases h with h | ⟨h, h1⟩ | ⟨h, h1, h2⟩
  · have h' : (8 : Int) < (n : Int) := by omega
    go_enter Try.func8, Try.ntmps8
    go_wp2_with (fail)
    refine (awake22_any _).mono ?_
    rintro en wz ⟨rfl, Bz⟩
    have HBz := Lib.hid (HB1.out.trans (Bz.mono HB1.out.size))
    clear Bz
    go_wp2_with (fail)
    go_ret
    exact ⟨rfl, HBz.out⟩
  · have h' : ¬ (8 : Int) < (n : Int) := by omega
    go_enter Try.func8, Try.ntmps8
    go_wp2_with (fail)
    refine (awake22_any _).mono ?_
    rintro en wz ⟨rfl, Bz⟩
    have HBz := Lib.hid (HB1.out.trans (Bz.mono HB1.out.size))
    clear Bz
    go_wp2_with (fail)
    go_ret
    exact ⟨rfl, HBz.out⟩
  · have h' : ¬ (8 : Int) < (n : Int) := by omega
    go_enter Try.func8, Try.ntmps8
    go_wp2_with (fail)
    refine (awake22_any _).mono ?_
    rintro en wz ⟨rfl, Bz⟩
    have HBz := Lib.hid (HB1.out.trans (Bz.mono HB1.out.size))
    clear Bz
    go_wp2_with (fail)
    go_ret
    exact ⟨rfl, HBz.out⟩
set_option maxHeartbeats 32000000 in
set_option maxRecDepth 4000 in
theorem ljitters_main (l : List Sm) (a : Option Addr) (c : Nat) (s : Int) (h : l.length ≤ 8) (s1 : -1000000000 ≤ s) (s2 : s ≤ 1000000000) (w : World) (S : Cs w a l.length (zof l)) :
    Calls Try.prog 8 #[.slice a l.length c, .int .i64 s] w fun e w' => e = .returned (.bool true) ∧ Below w.heap.size w w' := by
  obtain ⟨n, hn⟩ : ∃ n, l.length = n := ⟨_, rfl⟩
  rw [hn] at h S ⊢
  have h' : ¬ (8 : Int) < (n : Int) := by omega
  have hS := Lib.hid S
  clear hn S
  go_enter Try.func8, Try.ntmps8
  go_wp2_with (fail)
  refine (new_ok 0 (by omega) (by omega) _).mono ?_
  rintro en w1 ⟨ga, hga, rfl, fa, B1⟩
  have GA := Lib.hid hga; have FA1 := Lib.hid fa; have HB1 := Lib.hid B1
  clear hga fa B1
  go_wp2_with (fail)
  refine (new_ok 0 (by omega) (by omega) _).mono ?_
  rintro en w2 ⟨gb, hgb, rfl, fb, B2⟩
  have FA2 := Lib.hid (FA1.out.later B2); have FB2 := Lib.hid fb; have HB2 := Lib.hid (HB1.out.trans (B2.mono HB1.out.size))
  have NAB := Lib.hid (show ga < gb by have := FA1.out.lt; omega)
  have GB := Lib.hid (show w.heap.size ≤ gb by have := FA1.out.lt; have := GA.out; omega)
  clear hgb fb B2
  go_wp2_with (fail)
  go_loopw [8] (fun vi wr => ∃ i : Nat, i ≤ n ∧ vi = .int .i64 i ∧ (∀ j, j < i → both s (nth l j)) ∧ Fi wr ga 0 (run l i) false 0 ∧ Fi wr gb 0 ((run l i).map (shf s)) false 0 ∧ Below w.heap.size w wr) (fun vi _ => n - (intOf vi).toNat)
  case atStart => exact ⟨0, by omega, rfl, fun j hj => by omega, FA2.out, FB2.out, HB2.out⟩
  case round =>
    rename World => wr
    obtain ⟨i, hi, rfl, bo, fa, fb, hb⟩ := hrel
    have FA := Lib.hid fa; have FB := Lib.hid fb; have HR := Lib.hid hb; have BO := Lib.hid bo
    by_cases hlt : i < n
    · have Sr := Lib.hid (hS.out.later hb)
      obtain ⟨b, o, rfl, lb, x0, x1, x2, x3⟩ := Sr.out.elem (i := i) hlt
      change wr.cell? _ = some (.int .i64 (nth l i).o) at x0
      change wr.cell? _ = some (.int .i64 (nth l i).d) at x1
      change wr.cell? _ = some (.int .i64 (nth l i).p) at x2
      change wr.cell? _ = some (.int .i64 (nth l i).t) at x3
      have RN := Lib.hid (show run l (i + 1) = addL (run l i) (nth l i) from rfl)
      have V := Lib.hid (run_val l i)
      have RB := Lib.hid (run_both bo)
      have VB := Lib.hid (shf_val V.out s RB.out)
      have NBA := Lib.hid (show b ≠ ga ∧ b ≠ gb from by
        rcases hS.out.cells with e | ⟨b2, o2, e2, lb2, _⟩
        · omega
        · injection e2 with e2; injection e2 with e3 _; subst e3; have := GA.out; have := GB.out; omega)
      obtain ⟨x, ex⟩ : ∃ x, nth l i = x := ⟨_, rfl⟩
      have EX := Lib.hid ex
      rw [ex] at x0 x1 x2 x3 RN
      obtain ⟨xo, xd, xp, xt⟩ := x
      simp only at x0 x1 x2 x3
      obtain ⟨m, hm⟩ : ∃ m, run l i = m := ⟨_, rfl⟩
      rw [hm] at FA FB RN V RB VB
      have lag := FA.out.lt; have lbg := FB.out.lt
      have X0 := Lib.hid x0; have X1 := Lib.hid x1; have X2 := Lib.hid x2; have X3 := Lib.hid x3; have LB := Lib.hid lb
      have cs : Sx.okS xo xd xp xt = false ∨ (Sx.okS xo xd xp xt = true ∧ xo < -1125899906842624) ∨ (Sx.okS xo xd xp xt = true ∧ ¬ xo < -1125899906842624 ∧ 1125899906842624 < xo) ∨ (Sx.okS xo xd xp xt = true ∧ -1125899906842624 ≤ xo ∧ xo ≤ 1125899906842624) := by
        cases Sx.okS xo xd xp xt <;> simp <;> omega
      clear bo fa fb hb ex hm
      rcases cs with hok | ⟨hok, hx⟩ | ⟨hok, hx, hx2⟩ | ⟨hok, hx, hx2⟩
      · have CK := Lib.hid (fun W => scheck_no xo xd xp xt hok W)
        clear hok
        go_wp2_with (fail)
        have B0 : Hid (Below wr.heap.size wr (wr.alloc (.cells #[.int .i64 xo, .int .i64 xd, .int .i64 xp, .int .i64 xt] 29))) := Lib.hid ((Below.refl _ _).alloc (Nat.le_refl _) _)
        have bk0 := Lib.hid (Hp.blk_new wr (.cells #[.int .i64 xo, .int .i64 xd, .int .i64 xp, .int .i64 xt] 29))
        refine (CK.out _).mono ?_
        rintro en w3 ⟨rfl, B3⟩
        have HB3 := Lib.hid (HR.out.trans ((B0.out.trans (B3.mono B0.out.size)).mono HR.out.size)); have W3 := Lib.hid (B0.out.trans (B3.mono B0.out.size))
        have bk3 := Lib.hid ((B3.block wr.heap.size (Hp.blk_lt bk0.out)).trans bk0.out)
        clear B3
        have z0 : w3.cell? ⟨wr.heap.size, 0, none⟩ = some (.int .i64 xo) := Hp.blk_cell bk3.out rfl
        go_wp2_with (fail)
        refine (awake22_any _).mono ?_
        rintro en wz ⟨rfl, Bz⟩
        have HBz := Lib.hid (HB3.out.trans (Bz.mono HB3.out.size))
        clear Bz
        go_wp2_with (fail)
        go_ret
        exact ⟨rfl, HBz.out⟩
      · have CK := Lib.hid (fun W => scheck_ok xo xd xp xt hok W)
        clear hok
        go_wp2_with (fail)
        have B0 : Hid (Below wr.heap.size wr (wr.alloc (.cells #[.int .i64 xo, .int .i64 xd, .int .i64 xp, .int .i64 xt] 29))) := Lib.hid ((Below.refl _ _).alloc (Nat.le_refl _) _)
        have bk0 := Lib.hid (Hp.blk_new wr (.cells #[.int .i64 xo, .int .i64 xd, .int .i64 xp, .int .i64 xt] 29))
        refine (CK.out _).mono ?_
        rintro en w3 ⟨rfl, B3⟩
        have HB3 := Lib.hid (HR.out.trans ((B0.out.trans (B3.mono B0.out.size)).mono HR.out.size)); have W3 := Lib.hid (B0.out.trans (B3.mono B0.out.size))
        have bk3 := Lib.hid ((B3.block wr.heap.size (Hp.blk_lt bk0.out)).trans bk0.out)
        clear B3
        have z0 : w3.cell? ⟨wr.heap.size, 0, none⟩ = some (.int .i64 xo) := Hp.blk_cell bk3.out rfl
        go_wp2_with (fail)
        refine (awake22_any _).mono ?_
        rintro en wz ⟨rfl, Bz⟩
        have HBz := Lib.hid (HB3.out.trans (Bz.mono HB3.out.size))
        clear Bz
        go_wp2_with (fail)
        go_ret
        exact ⟨rfl, HBz.out⟩
      · have CK := Lib.hid (fun W => scheck_ok xo xd xp xt hok W)
        clear hok
        go_wp2_with (fail)
        have B0 : Hid (Below wr.heap.size wr (wr.alloc (.cells #[.int .i64 xo, .int .i64 xd, .int .i64 xp, .int .i64 xt] 29))) := Lib.hid ((Below.refl _ _).alloc (Nat.le_refl _) _)
        have bk0 := Lib.hid (Hp.blk_new wr (.cells #[.int .i64 xo, .int .i64 xd, .int .i64 xp, .int .i64 xt] 29))
        refine (CK.out _).mono ?_
        rintro en w3 ⟨rfl, B3⟩
        have HB3 := Lib.hid (HR.out.trans ((B0.out.trans (B3.mono B0.out.size)).mono HR.out.size)); have W3 := Lib.hid (B0.out.trans (B3.mono B0.out.size))
        have bk3 := Lib.hid ((B3.block wr.heap.size (Hp.blk_lt bk0.out)).trans bk0.out)
        clear B3
        have z0 : w3.cell? ⟨wr.heap.size, 0, none⟩ = some (.int .i64 xo) := Hp.blk_cell bk3.out rfl
        go_wp2_with (fail)
        refine (awake22_any _).mono ?_
        rintro en wz ⟨rfl, Bz⟩
        have HBz := Lib.hid (HB3.out.trans (Bz.mono HB3.out.size))
        clear Bz
        go_wp2_with (fail)
        go_ret
        exact ⟨rfl, HBz.out⟩
      · have CK := Lib.hid (fun W => scheck_ok xo xd xp xt hok W)
        have BT := Lib.hid (both_of (x := ⟨xo, xd, xp, xt⟩) hok hx hx2 s1 s2)
        have AE := Lib.hid (addE_shf (m := m) BT.out.1 BT.out.2); have AL := Lib.hid (addL_shf (m := m) BT.out.1 BT.out.2)
        obtain ⟨r, hr⟩ : ∃ r, addE m ⟨xo, xd, xp, xt⟩ = r := ⟨_, rfl⟩
        have AR := Lib.hid hr
        have AS : Hid (addE (m.map (shf s)) ⟨xo + s, xd, xp, xt⟩ = r) := Lib.hid (AE.out.trans hr)
        have AT : Hid (addL (m.map (shf s)) ⟨xo + s, xd, xp, xt⟩ = (addL m ⟨xo, xd, xp, xt⟩).map (shf s)) := Lib.hid AL.out
        clear hok hr
        go_wp2_with (fail)
        have B0 : Hid (Below wr.heap.size wr (wr.alloc (.cells #[.int .i64 xo, .int .i64 xd, .int .i64 xp, .int .i64 xt] 29))) := Lib.hid ((Below.refl _ _).alloc (Nat.le_refl _) _)
        have bk0 := Lib.hid (Hp.blk_new wr (.cells #[.int .i64 xo, .int .i64 xd, .int .i64 xp, .int .i64 xt] 29))
        refine (CK.out _).mono ?_
        rintro en w3 ⟨rfl, B3⟩
        have HB3 := Lib.hid (HR.out.trans ((B0.out.trans (B3.mono B0.out.size)).mono HR.out.size)); have W3 := Lib.hid (B0.out.trans (B3.mono B0.out.size))
        have bk3 := Lib.hid ((B3.block wr.heap.size (Hp.blk_lt bk0.out)).trans bk0.out)
        clear B3
        have z0 : w3.cell? ⟨wr.heap.size, 0, none⟩ = some (.int .i64 xo) := Hp.blk_cell bk3.out rfl
        have z1 : w3.cell? ⟨wr.heap.size, 1, none⟩ = some (.int .i64 xd) := Hp.blk_cell bk3.out rfl
        have zf : ∀ o, w3.frozen? ⟨wr.heap.size, o, none⟩ = false := fun o => Hp.blk_free bk3.out
        clear x0 x1 x2 x3
        go_wp2_with (fail)
        obtain ⟨w4, hw4⟩ : ∃ w4, w3.setCell ⟨wr.heap.size, 0, none⟩ (.int .i64 (xo + s)) = w4 := ⟨_, rfl⟩
        have W4 : Hid (Below wr.heap.size wr w4) := Lib.hid (by rw [← hw4]; exact W3.out.setCell (Nat.le_refl _) _)
        have bk4 : Hid (w4.heap[wr.heap.size]? = some (.cells #[.int .i64 (xo + s), .int .i64 xd, .int .i64 xp, .int .i64 xt] 29 (0, 0))) := Lib.hid (by rw [← hw4]; exact Hp.blk_set bk3.out)
        have FA4 := Lib.hid (FA.out.later W4.out); have FB4 := Lib.hid (FB.out.later W4.out)
        obtain ⟨gx, hgx⟩ : ∃ gx, wr.heap.size = gx := ⟨_, rfl⟩
        rw [hgx] at bk4
        have NX := Lib.hid (show gx ≠ ga ∧ gx ≠ gb ∧ b < w4.heap.size ∧ gx < w4.heap.size from ⟨by omega, by omega, Nat.lt_of_lt_of_le LB.out W4.out.size, Hp.blk_lt bk4.out⟩)
        have C4 : Hid (w4.cell? ⟨b, o + i * 4, none⟩ = some (.int .i64 xo) ∧ w4.cell? ⟨b, o + i * 4 + 1, none⟩ = some (.int .i64 xd) ∧ w4.cell? ⟨b, o + i * 4 + 2, none⟩ = some (.int .i64 xp) ∧ w4.cell? ⟨b, o + i * 4 + 3, none⟩ = some (.int .i64 xt) ∧ w4.cell? ⟨gx, 0, none⟩ = some (.int .i64 (xo + s)) ∧ w4.cell? ⟨gx, 1, none⟩ = some (.int .i64 xd) ∧ w4.cell? ⟨gx, 2, none⟩ = some (.int .i64 xp) ∧ w4.cell? ⟨gx, 3, none⟩ = some (.int .i64 xt)) := Lib.hid ⟨(W4.out.cell (p := ⟨b, o + i * 4, none⟩) LB.out).trans X0.out, (W4.out.cell (p := ⟨b, o + i * 4 + 1, none⟩) LB.out).trans X1.out, (W4.out.cell (p := ⟨b, o + i * 4 + 2, none⟩) LB.out).trans X2.out, (W4.out.cell (p := ⟨b, o + i * 4 + 3, none⟩) LB.out).trans X3.out, Hp.blk_cell bk4.out rfl, Hp.blk_cell bk4.out rfl, Hp.blk_cell bk4.out rfl, Hp.blk_cell bk4.out rfl⟩
        have KC := Lib.hid (fun (g : Nat) (W W' : World) (k : But g W W') (h : W.cell? ⟨b, o + i * 4, none⟩ = some (.int .i64 xo) ∧ W.cell? ⟨b, o + i * 4 + 1, none⟩ = some (.int .i64 xd) ∧ W.cell? ⟨b, o + i * 4 + 2, none⟩ = some (.int .i64 xp) ∧ W.cell? ⟨b, o + i * 4 + 3, none⟩ = some (.int .i64 xt) ∧ W.cell? ⟨gx, 0, none⟩ = some (.int .i64 (xo + s)) ∧ W.cell? ⟨gx, 1, none⟩ = some (.int .i64 xd) ∧ W.cell? ⟨gx, 2, none⟩ = some (.int .i64 xp) ∧ W.cell? ⟨gx, 3, none⟩ = some (.int .i64 xt)) (lb : b < W.heap.size) (lx : gx < W.heap.size) (n1 : b ≠ g) (n2 : gx ≠ g) => show W'.cell? ⟨b, o + i * 4, none⟩ = some (.int .i64 xo) ∧ W'.cell? ⟨b, o + i * 4 + 1, none⟩ = some (.int .i64 xd) ∧ W'.cell? ⟨b, o + i * 4 + 2, none⟩ = some (.int .i64 xp) ∧ W'.cell? ⟨b, o + i * 4 + 3, none⟩ = some (.int .i64 xt) ∧ W'.cell? ⟨gx, 0, none⟩ = some (.int .i64 (xo + s)) ∧ W'.cell? ⟨gx, 1, none⟩ = some (.int .i64 xd) ∧ W'.cell? ⟨gx, 2, none⟩ = some (.int .i64 xp) ∧ W'.cell? ⟨gx, 3, none⟩ = some (.int .i64 xt) from
          ⟨cell_but h.1 k lb n1, cell_but h.2.1 k lb n1, cell_but h.2.2.1 k lb n1, cell_but h.2.2.2.1 k lb n1, cell_but h.2.2.2.2.1 k lx n2, cell_but h.2.2.2.2.2.1 k lx n2, cell_but h.2.2.2.2.2.2.1 k lx n2, cell_but h.2.2.2.2.2.2.2 k lx n2⟩)
        have FAd : Hid (Fi w4.drew ga 0 m false 0) := Lib.hid (FA4.out.drewN (n := 1)); have FBd : Hid (Fi w4.drew gb 0 (m.map (shf s)) false 0) := Lib.hid (FB4.out.drewN (n := 1))
        have Cd : Hid (w4.drew.cell? ⟨b, o + i * 4, none⟩ = some (.int .i64 xo) ∧ w4.drew.cell? ⟨b, o + i * 4 + 1, none⟩ = some (.int .i64 xd) ∧ w4.drew.cell? ⟨b, o + i * 4 + 2, none⟩ = some (.int .i64 xp) ∧ w4.drew.cell? ⟨b, o + i * 4 + 3, none⟩ = some (.int .i64 xt) ∧ w4.drew.cell? ⟨gx, 0, none⟩ = some (.int .i64 (xo + s)) ∧ w4.drew.cell? ⟨gx, 1, none⟩ = some (.int .i64 xd) ∧ w4.drew.cell? ⟨gx, 2, none⟩ = some (.int .i64 xp) ∧ w4.drew.cell? ⟨gx, 3, none⟩ = some (.int .i64 xt)) := Lib.hid C4.out
        have HBd : Hid (Below w.heap.size w w4.drew) := Lib.hid (Below.drew (HR.out.trans (W4.out.mono HR.out.size)))
        have AA := Lib.hid (fun W F => addf_at (g := ga) (tol := 0) (any := false) (fr := 0) V.out AR.out rfl W F)
        have AB := Lib.hid (fun W F => addf_at (g := gb) (tol := 0) (any := false) (fr := 0) VB.out AS.out AT.out W F)
        rw [hw4, hgx]
        obtain ⟨c0, c1, c2, c3, c4, c5, c6, c7⟩ := C4.out
        clear hw4 hgx z0 z1 zf
        go_region_held3 (fun w' => w'.cell? ⟨b, o + i * 4, none⟩ = some (.int .i64 xo) ∧ w'.cell? ⟨b, o + i * 4 + 1, none⟩ = some (.int .i64 xd) ∧ w'.cell? ⟨b, o + i * 4 + 2, none⟩ = some (.int .i64 xp) ∧ w'.cell? ⟨b, o + i * 4 + 3, none⟩ = some (.int .i64 xt) ∧ w'.cell? ⟨gx, 0, none⟩ = some (.int .i64 (xo + s)) ∧ w'.cell? ⟨gx, 1, none⟩ = some (.int .i64 xd) ∧ w'.cell? ⟨gx, 2, none⟩ = some (.int .i64 xp) ∧ w'.cell? ⟨gx, 3, none⟩ = some (.int .i64 xt)) (go_keep)
          (first
            | (go_at_call 13; (with_reducible refine (AA.out _ FAd.out).mono ?_); rintro e w5 ⟨rfl, ad⟩; have FA5 := Lib.hid ad.fi; have FB5 := Lib.hid (FBd.out.but ad.but (Nat.ne_of_gt NAB.out)); have C5 := Lib.hid (KC.out ga _ _ ad.but Cd.out NX.out.2.2.1 NX.out.2.2.2 NBA.out.1 NX.out.1); have HB5 := Lib.hid (ad.but.toBelow GA.out HBd.out HBd.out.size); have L5 := Lib.hid ad.but.size; obtain ⟨k0, k1, k2, k3, k4, k5, k6, k7⟩ := C5.out; clear ad)
            | (go_at_call 13; (with_reducible refine (AB.out _ FB5.out).mono ?_); rintro e w6 ⟨rfl, ad⟩; have FB6 := Lib.hid ad.fi; have FA6 := Lib.hid (FA5.out.but ad.but (Nat.ne_of_lt NAB.out)); have C6 := Lib.hid (KC.out gb _ _ ad.but C5.out (Nat.lt_of_lt_of_le NX.out.2.2.1 L5.out) (Nat.lt_of_lt_of_le NX.out.2.2.2 L5.out) NBA.out.2 NX.out.2.1); have HB6 := Lib.hid (ad.but.toBelow GB.out HB5.out HB5.out.size); obtain ⟨k0, k1, k2, k3, k4, k5, k6, k7⟩ := C6.out; clear ad)
            | (fail))
        go_wp2_with (fail)
        go_roundw
        case rel =>
          refine ⟨i + 1, by omega, by go_num, fun j hj => ?_, by rw [RN.out]; exact FA6.out, by rw [RN.out]; exact FB6.out, HB6.out⟩
          by_cases e : j = i
          · rw [e, EX.out]; exact BT.out
          · exact BO.out j (by omega)
        case measure => (simp [intOf] <;> omega)
    · obtain rfl : n = i := by omega
      have V := Lib.hid (run_val l n)
      have RB := Lib.hid (run_both bo)
      have VB := Lib.hid (shf_val V.out s RB.out)
      have JS := Lib.hid (jit_shf V.out RB.out)
      obtain ⟨m, hm⟩ : ∃ m, run l n = m := ⟨_, rfl⟩
      rw [hm] at FA FB V RB VB JS
      clear bo fa fb hb hm hlt
      go_wp2_with (fail)
      refine (samples_any V.out _ FA.out).mono ?_
      rintro en w4 ⟨v4, rfl, o4, B4⟩
      obtain ⟨a4, c4, rfl, s4⟩ := o4.rd
      have HB4 := Lib.hid (HR.out.trans (B4.mono HR.out.size)); have S4 := Lib.hid s4; have FA4 := Lib.hid (FA.out.later B4); have FB4 := Lib.hid (FB.out.later B4)
      have k8 := V.out.len
      obtain ⟨k, hk⟩ : ∃ k, m.length = k := ⟨_, rfl⟩
      have HK := Lib.hid hk
      rw [hk] at S4 k8 ⊢
      clear o4 B4 s4 hk
      go_wp2_with (fail)
      go_loopw [11, 7] (fun vi ve wx => ∃ i : Nat, 1 ≤ i ∧ (i ≤ k ∨ i = 1) ∧ vi = .int .i64 i ∧ ve = .bool (eqb m i) ∧ ∃ q, wx = w4.drewN q) (fun vi _ _ => k - (intOf vi).toNat)
      case atStart => exact ⟨1, by omega, .inr rfl, rfl, by rw [eqb_one], 0, rfl⟩
      case round =>
        obtain ⟨i, hi1, hi2, rfl, rfl, q, rfl⟩ := hrel
        by_cases hlt : i < k
        · have ES := Lib.hid (show eqb m (i + 1) = (eqb m i && decide ((nth m i).o = (nth m 0).o)) from rfl)
          obtain ⟨b, o, rfl, lb, x0, _, _, _⟩ := S4.out.elem (i := i) hlt
          obtain ⟨b', o', e', _, y0, _, _, _⟩ := S4.out.elem (i := 0) (by omega)
          obtain ⟨rfl, rfl⟩ : b = b' ∧ o = o' := by injection e' with e'; injection e' with e1 e2; exact ⟨e1, e2⟩
          rw [Nat.zero_mul, Nat.add_zero] at y0
          change w4.cell? _ = some (.int .i64 (nth m i).o) at x0
          change w4.cell? _ = some (.int .i64 (nth m 0).o) at y0
          obtain ⟨X, eX⟩ : ∃ X, (nth m i).o = X := ⟨_, rfl⟩
          obtain ⟨Y, eY⟩ : ∃ X, (nth m 0).o = X := ⟨_, rfl⟩
          rw [eX] at x0 ES
          rw [eY] at y0 ES
          obtain ⟨E, hE⟩ : ∃ E, eqb m i = E := ⟨_, rfl⟩
          rw [hE] at ES
          rw [hE]
          have kp0 : 0 < k := by omega
          have HI1 := Lib.hid hi1
          clear e' eX eY hE hi2 hi1
          cases E with
          | false =>
            clear x0 y0
            go_wp2_with (fail)
            go_quiet (fail)
            go_wp2_with (fail)
            go_roundw
            case rel => exact ⟨i + 1, by omega, by omega, by go_num, by rw [ES.out] <;> rfl, _, by first | rfl | exact World.drewN_drewN _ _ _⟩
            case measure => (simp [intOf] <;> omega)
          | true =>
            by_cases hxy : X = Y
            · have M2 : Hid (eqb m (i + 1) = true) := Lib.hid (by rw [ES.out, decide_eq_true hxy]; rfl)
              subst hxy
              go_wp2_with (fail)
              go_quiet (fail)
              go_wp2_with (fail)
              go_roundw
              case rel => exact ⟨i + 1, by omega, by omega, by go_num, by rw [M2.out] <;> rfl, _, by first | rfl | exact World.drewN_drewN _ _ _⟩
              case measure => (simp [intOf] <;> omega)
            · have M2 : Hid (eqb m (i + 1) = false) := Lib.hid (by rw [ES.out, decide_eq_false hxy]; rfl)
              have hq : (X == Y) = false := by simpa using hxy
              clear hxy
              go_wp2_with (fail)
              go_quiet (fail)
              go_wp2_with (fail)
              go_roundw
              case rel => exact ⟨i + 1, by omega, by omega, by go_num, by rw [M2.out] <;> rfl, _, by first | rfl | exact World.drewN_drewN _ _ _⟩
              case measure => (simp [intOf] <;> omega)
        · have JE := Lib.hid (show eqb m i = true → jit m = 0 from fun e => by
            rcases hi2 with g | g
            · have : i = m.length := by rw [HK.out]; omega
              rw [this] at e; exact jit_eqb e
            · unfold jit; rw [if_pos (by rw [HK.out]; omega)])
          have jb := jit_bd m
          have JA := Lib.hid (fun W F => jitter_at (g := ga) (tol := 0) (any := false) (fr := 0) V.out (show jit m = jit m from rfl) W F)
          have JB := Lib.hid (fun W F => jitter_at (g := gb) (tol := 0) (any := false) (fr := 0) VB.out JS.out W F)
          obtain ⟨E, hE⟩ : ∃ E, eqb m i = E := ⟨_, rfl⟩
          rw [hE] at JE
          rw [hE]
          obtain ⟨J, hJ⟩ : ∃ J, jit m = J := ⟨_, rfl⟩
          rw [hJ] at JE JA JB jb
          have j0 := jb.1; have j1 := jb.2
          have FAq := Lib.hid (FA4.out.drewN (n := q)); have FBq := Lib.hid (FB4.out.drewN (n := q)); have HBq := Lib.hid (Hp.drewN HB4.out q)
          clear hE hJ jb hi1 hi2
          cases E with
          | false =>
            go_wp2_with (fail)
            refine (JA.out _ FAq.out).mono ?_
            rintro en w5 ⟨rfl, B5⟩
            have HB5 := Lib.hid (HBq.out.trans (B5.mono HBq.out.size)); have FB5 := Lib.hid (FBq.out.later B5)
            clear B5
            go_wp2_with (fail)
            refine (JB.out _ FB5.out).mono ?_
            rintro en w6 ⟨rfl, B6⟩
            have HB6 := Lib.hid (HB5.out.trans (B6.mono HB5.out.size))
            clear B6
            go_wp2_with (fail)
            refine (awake22_any _).mono ?_
            rintro en wz ⟨rfl, Bz⟩
            have HBz := Lib.hid (HB6.out.trans (Bz.mono HB6.out.size))
            clear Bz
            go_wp2_with (fail)
            go_ret
            exact ⟨rfl, HBz.out⟩
          | true =>
            obtain rfl : J = 0 := JE.out rfl
            go_wp2_with (fail)
            refine (JA.out _ FAq.out).mono ?_
            rintro en w5 ⟨rfl, B5⟩
            have HB5 := Lib.hid (HBq.out.trans (B5.mono HBq.out.size)); have FB5 := Lib.hid (FBq.out.later B5)
            clear B5
            go_wp2_with (fail)
            refine (JB.out _ FB5.out).mono ?_
            rintro en w6 ⟨rfl, B6⟩
            have HB6 := Lib.hid (HB5.out.trans (B6.mono HB5.out.size))
            clear B6
            go_wp2_with (fail)
            refine (awake22_any _).mono ?_
            rintro en wz ⟨rfl, Bz⟩
            have HBz := Lib.hid (HB6.out.trans (Bz.mono HB6.out.size))
            clear Bz
            go_wp2_with (fail)
            go_ret
            exact ⟨rfl, HBz.out⟩
theorem law_FilterJitters (a : Option Addr) (n c : Nat) (z : Nat → Nat → Int) (s : Int) (w : World) (S : In.IsStructs [.i64, .i64, .i64, .i64] w a n c z) :
    Calls Try.prog 8 #[.slice a n c, .int .i64 s] w fun e w' => e = .returned (.bool true) ∧ Below w.heap.size w w' := by
  obtain ⟨l, hl, sm⟩ := in_smp S
  subst hl
  by_cases h : l.length ≤ 8 ∧ -1000000000 ≤ s ∧ s ≤ 1000000000
  · exact ljitters_main l a c s h.1 h.2.1 h.2.2 w sm
  · exact ljitters_no l a c s (by omega) w
end Go.Proofs.Ytdaedhgbkamjpaa.JxW
