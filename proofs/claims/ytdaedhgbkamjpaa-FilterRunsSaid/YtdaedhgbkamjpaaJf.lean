/- A filter in memory; New, Len, early, Samples, ordered of package filter. -/
import Derived.Test.YtdaedhgbkamjpaaJs
import Derived.Test.YtdaedhgbkamjpaaJa
import Derived.BigQuiet
import Derived.Deep.QuietTactic
import Derived.IntWalk
import Derived.Deep.RegionHeld3
set_option linter.unusedVariables false
set_option linter.unusedSimpArgs false
namespace Go.Proofs.Ytdaedhgbkamjpaa.JxW
open Go.RowKit FxW
open Go.Proofs.Ytdaedhgbkamjpaa.Jx
/-- block g is a filter with the stages l -/
structure Fi (w : World) (g : Nat) (tol : Int) (l : List Sm) (any : Bool) (fr : Int) : Prop where
  lt : g < w.heap.size
  c0 : w.cell? ⟨g, 0, none⟩ = some (.int .i64 tol)
  st : ∀ i j, i < l.length → j < 4 → w.cell? ⟨g, 1 + (i * 4 + j), none⟩ = some (.int .i64 (zof l i j))
  more : ∀ t, t < 32 → ∃ x, w.cell? ⟨g, 1 + t, none⟩ = some (.int .i64 x)
  c33 : w.cell? ⟨g, 33, none⟩ = some (.int .i64 (l.length : Nat))
  c34 : w.cell? ⟨g, 34, none⟩ = some (.bool any)
  c35 : w.cell? ⟨g, 35, none⟩ = some (.int .i64 fr)
  free : ∀ o, w.frozen? ⟨g, o, none⟩ = false
/-- nothing but block b has turned -/
structure But (b : Nat) (w w' : World) : Prop where
  os : w'.os = w.os
  tape : w'.tape = w.tape
  output : w'.output = w.output
  size : w.heap.size ≤ w'.heap.size
  block : ∀ k, k < w.heap.size → k ≠ b → w'.heap[k]? = w.heap[k]?
theorem But.refl (b : Nat) (w : World) : But b w w := ⟨rfl, rfl, rfl, Nat.le_refl _, fun _ _ _ => rfl⟩
theorem But.trans {b : Nat} {x y z : World} (h : But b x y) (k : But b y z) : But b x z :=
  ⟨k.os.trans h.os, k.tape.trans h.tape, k.output.trans h.output, Nat.le_trans h.size k.size, fun i hi hb => (k.block i (Nat.lt_of_lt_of_le hi h.size) hb).trans (h.block i hi hb)⟩
theorem But.drewN {b : Nat} {x y : World} (h : But b x y) (n : Nat) : But b x (y.drewN n) := ⟨h.os, h.tape, h.output, h.size, h.block⟩
theorem But.drew {b : Nat} {x y : World} (h : But b x y) : But b x y.drew := ⟨h.os, h.tape, h.output, h.size, h.block⟩
theorem But.setCell {b : Nat} {x y : World} (h : But b x y) (o : Nat) (v : Value) : But b x (y.setCell ⟨b, o, none⟩ v) :=
  h.trans ⟨rfl, rfl, rfl, by simp [World.setCell], fun k _ hk => Below.heap_setCell _ _ _ _ (by simpa using hk)⟩
theorem But.alloc {b : Nat} {x y : World} (h : But b x y) (o : Obj) : But b x (y.alloc o) :=
  h.trans ⟨rfl, rfl, rfl, by simp, fun k hk _ => Below.heap_alloc _ _ _ hk⟩
theorem But.below {b : Nat} {w w' : World} (h : Below w.heap.size w w') : But b w w' := ⟨h.os, h.tape, h.output, h.size, fun k hk _ => h.block k hk⟩
/-- seen from a base below the block -/
theorem But.toBelow {b B0 : Nat} {w0 w w' : World} (h : But b w w') (hb : B0 ≤ b) (k : Below B0 w0 w) (hs : B0 ≤ w.heap.size) : Below B0 w0 w' :=
  k.trans ⟨h.os, h.tape, h.output, h.size, fun i hi => h.block i (by omega) (by omega)⟩
theorem Fi.of {b c : Nat} {w w' : World} {tol : Int} {l : List Sm} {any : Bool} {fr : Int} (h : Fi w b tol l any fr) (hs : w.heap.size ≤ w'.heap.size) (k : w'.heap[b]? = w.heap[b]?) : Fi w' b tol l any fr := by
  have hc : ∀ o, w'.cell? ⟨b, o, none⟩ = w.cell? ⟨b, o, none⟩ := fun o => by simp [World.cell?, k]
  have hf : ∀ o, w'.frozen? ⟨b, o, none⟩ = w.frozen? ⟨b, o, none⟩ := fun o => by simp [World.frozen?, k]
  exact ⟨Nat.lt_of_lt_of_le h.lt hs, by rw [hc]; exact h.c0, fun i j hi hj => by rw [hc]; exact h.st i j hi hj, fun t ht => by rw [hc]; exact h.more t ht, by rw [hc]; exact h.c33, by rw [hc]; exact h.c34, by rw [hc]; exact h.c35, fun o => by rw [hf]; exact h.free o⟩
theorem Fi.later {b : Nat} {w w' : World} {tol : Int} {l : List Sm} {any : Bool} {fr : Int} (h : Fi w b tol l any fr) (k : Below w.heap.size w w') : Fi w' b tol l any fr := h.of (c := 0) k.size (k.block b h.lt)
theorem Fi.but {b c : Nat} {w w' : World} {tol : Int} {l : List Sm} {any : Bool} {fr : Int} (h : Fi w b tol l any fr) (k : But c w w') (hc : b ≠ c) : Fi w' b tol l any fr := h.of (c := 0) k.size (k.block b h.lt hc)
theorem Cs.but {c : Nat} {w w' : World} {b o n : Nat} {z : Nat → Nat → Int} (h : Cs w (some ⟨b, o, none⟩) n z) (k : But c w w') (hc : b ≠ c) : Cs w' (some ⟨b, o, none⟩) n z := by
  rcases h.cells with h0 | ⟨b', o', ha, hb, hh⟩
  · exact ⟨.inl h0⟩
  · injection ha with ha; injection ha with e1 e2; subst e1; subst e2
    exact ⟨.inr ⟨b, o, rfl, Nat.lt_of_lt_of_le hb k.size, fun i j hi hj => by
      have := hh i j hi hj
      rw [← this]; simp [World.cell?, k.block b hb hc]⟩⟩
theorem Fi.drewN {b n : Nat} {w : World} {tol : Int} {l : List Sm} {any : Bool} {fr : Int} (h : Fi w b tol l any fr) : Fi (w.drewN n) b tol l any fr := h.of (c := 0) (Nat.le_refl _) rfl
theorem Fi.cs {b : Nat} {w : World} {tol : Int} {l : List Sm} {any : Bool} {fr : Int} (h : Fi w b tol l any fr) : Cs w (some ⟨b, 1, none⟩) l.length (zof l) :=
  ⟨.inr ⟨b, 1, rfl, h.lt, h.st⟩⟩
/-- the last stage's At -/
theorem Fi.ct {b : Nat} {w : World} {tol : Int} {l : List Sm} {any : Bool} {fr : Int} (h : Fi w b tol l any fr) (h0 : 0 < l.length) : w.cell? ⟨b, 1 + ((l.length - 1) * 4 + 3), none⟩ = some (.int .i64 (lastT l)) := h.st (l.length - 1) 3 (by omega) (by omega)
def tolOk (tol : Int) : Bool := decide (0 ≤ tol ∧ tol ≤ 500000)
def zeros (tol : Int) : List Value := .int .i64 tol :: (List.replicate 32 (.int .i64 0) ++ [.int .i64 0, .bool false, .int .i64 0])
set_option maxHeartbeats 4000000 in
theorem new_ok (tol : Int) (h0 : 0 ≤ tol) (h1 : tol ≤ 500000) (w : World) :
    Calls Try.prog 10 #[.int .i64 tol] w fun e w' => ∃ g, w.heap.size ≤ g ∧ e = .returned (.pointer (some ⟨g, 0, none⟩)) ∧ Fi w' g tol [] false 0 ∧ Below w.heap.size w w' := by
  have F : ∀ W : World, Fi (W.alloc (.cells (zeros tol).toArray 52)) W.heap.size tol [] false 0 := fun W => by
    have hb := Hp.blk_new W (.cells (zeros tol).toArray 52)
    refine ⟨by simp, Hp.blk_cell hb (by simp [zeros]), fun i j hi => by simp at hi, fun t ht => ⟨0, Hp.blk_cell hb ?_⟩, Hp.blk_cell hb (by simp [zeros]), Hp.blk_cell hb (by simp [zeros]), Hp.blk_cell hb (by simp [zeros]), fun o => Hp.blk_free hb⟩
    rw [List.getElem?_toArray, zeros, Nat.add_comm 1 t, List.getElem?_cons_succ, List.getElem?_append_left (by rw [List.length_replicate]; exact ht), List.getElem?_replicate, if_pos ht]
  have HF := Lib.hid F
  clear F
  go_enter Try.func10, Try.ntmps10
  go_wp2_with (fail)
  go_ret
  exact ⟨w.heap.size, Nat.le_refl _, rfl, HF.out w, by (repeat (first | exact Below.refl _ _ | refine Below.drew ?_ | refine Hp.drewN ?_ _ | refine Below.setCell ?_ (by first | (simp; done) | (simp; omega) | omega) _ | refine Below.alloc ?_ (by first | (simp; done) | (simp; omega) | omega) _ | (refine Hp.step ?_ (by assumption))))⟩
set_option maxHeartbeats 1000000 in
theorem new_no (tol : Int) (h : tol < 0 ∨ (0 ≤ tol ∧ 500000 < tol)) (w : World) :
    Calls Try.prog 10 #[.int .i64 tol] w fun e w' => e = .returned (.pointer none) ∧ w = w' := by
  rcases h with h | ⟨h, h1⟩
  all_goals
    go_enter Try.func10, Try.ntmps10
    go_wp2_with (fail)
    go_ret
    exact ⟨rfl, rfl⟩
set_option maxHeartbeats 1000000 in
theorem len_any {g : Nat} {tol : Int} {l : List Sm} {any : Bool} {fr : Int} (w : World) (F : Fi w g tol l any fr) :
    Calls Try.prog 21 #[.pointer (some ⟨g, 0, none⟩)] w fun e w' => e = .returned (.int .i64 (l.length : Nat)) ∧ w = w' := by
  have c := F.c33
  obtain ⟨n, hn⟩ : ∃ n, l.length = n := ⟨_, rfl⟩
  rw [hn] at c ⊢
  clear hn F
  go_enter Try.func21, Try.ntmps21
  go_wp2_with (fail)
  go_ret
  exact ⟨rfl, rfl⟩
/-- is the instant before the last stage -/
def erl (l : List Sm) (now : Int) : Bool := decide (0 < l.length ∧ now < lastT l)
set_option maxHeartbeats 2000000 in
theorem early_any {g : Nat} {tol : Int} {l : List Sm} {any : Bool} {fr : Int} (V : Val l) (now : Int) (w : World) (F : Fi w g tol l any fr) :
    Calls Try.prog 30 #[.pointer (some ⟨g, 0, none⟩), .int .i64 now] w fun e w' => e = .returned (.bool (erl l now)) ∧ ∃ q, w' = w.drewN q := by
  have c := F.c33
  have n8 := V.len
  by_cases h0 : 0 < l.length
  · have ct := F.ct h0
    have E : Hid (erl l now = decide (now < lastT l)) := Lib.hid (by unfold erl; rw [Bool.eq_iff_iff]; simp; intro _; exact h0)
    obtain ⟨k, hk⟩ : ∃ k, l.length = k + 1 := ⟨l.length - 1, by omega⟩
    obtain ⟨T, eT⟩ : ∃ T, lastT l = T := ⟨_, rfl⟩
    rw [hk] at c n8
    rw [eT] at E ct
    rw [hk, show k + 1 - 1 = k by omega] at ct
    have j1 : (0 : Int) < (k : Int) + 1 := by omega
    have j2 : (k : Int) + 1 - 1 = k := by omega
    have j3 : k < 8 := by omega
    have j4 : (k : Int) < 8 := by omega
    have ct2 : w.cell? ⟨g, 1 + k * 4 + 3, none⟩ = some (.int .i64 T) := by rw [show 1 + k * 4 + 3 = 1 + (k * 4 + 3) by omega]; exact ct
    rw [E.out]
    clear hk eT F h0 V
    go_enter Try.func30, Try.ntmps30
    go_wp2_with (fail)
    go_quiet (fail)
    go_wp2_with (fail)
    go_ret
    exact ⟨rfl, _, rfl⟩
  · have E : Hid (erl l now = false) := Lib.hid (by unfold erl; simp; intro h; omega)
    have hz : l.length = 0 := by omega
    rw [hz] at c
    rw [E.out]
    clear hz h0 F V n8
    go_enter Try.func30, Try.ntmps30
    go_wp2_with (fail)
    go_quiet (fail)
    go_wp2_with (fail)
    go_ret
    exact ⟨rfl, _, rfl⟩
set_option maxHeartbeats 4000000 in
theorem samples_any {g : Nat} {tol : Int} {l : List Sm} {any : Bool} {fr : Int} (V : Val l) (w : World) (F : Fi w g tol l any fr) :
    Calls Try.prog 26 #[.pointer (some ⟨g, 0, none⟩)] w fun e w' => ∃ v, e = .returned v ∧ Ol w' w.heap.size v l ∧ Below w.heap.size w w' := by
  have c := F.c33
  have n8 := V.len
  have FS := Lib.hid F.cs
  have CL := Lib.hid (fun (W : World) (S : Cs W (some ⟨g, 1, none⟩) l.length (zof l)) => clone_list (some ⟨g, 1, none⟩) l 8 W S (fun h => by cases h) (by omega))
  obtain ⟨n, hn⟩ : ∃ n, l.length = n := ⟨_, rfl⟩
  rw [hn] at c n8 FS CL
  have n8' : (n : Int) ≤ 8 := by omega
  have lt := F.lt
  have BD : Hid (Below w.heap.size w w.drew) := Lib.hid (by (repeat (first | exact Below.refl _ _ | refine Below.drew ?_ | refine Hp.drewN ?_ _ | refine Below.setCell ?_ (by first | (simp; done) | (simp; omega) | omega) _ | refine Below.alloc ?_ (by first | (simp; done) | (simp; omega) | omega) _ | (refine Hp.step ?_ (by assumption)))))
  have FD := Lib.hid (FS.out.later BD.out)
  have K := Lib.hid c
  have LT := Lib.hid lt
  clear hn F V
  go_enter Try.func26, Try.ntmps26
  go_wp2_with (fail)
  go_region_held3 (fun w' => w'.cell? ⟨g, 33, none⟩ = some (.int .i64 n)) (go_keep)
    ((go_at_call 39; refine (CL.out _ FD.out).mono ?_; rintro e w1 ⟨v, rfl, o1, B1⟩; have HO := Lib.hid o1; have HB := Lib.hid (BD.out.trans B1); have k1 : w1.cell? ⟨g, 33, none⟩ = some (.int .i64 n) := (B1.cell (p := ⟨g, 33, none⟩) LT.out).trans K.out; clear o1 B1))
  go_wp2_with (fail)
  go_ret
  exact ⟨_, rfl, HO.out, HB.out⟩
set_option maxHeartbeats 4000000 in
theorem ordered_any {g : Nat} {tol : Int} {l : List Sm} {any : Bool} {fr : Int} (V : Val l) (w : World) (F : Fi w g tol l any fr) :
    Calls Try.prog 31 #[.pointer (some ⟨g, 0, none⟩)] w fun e w' => ∃ v, e = .returned v ∧ Ol w' w.heap.size v (ord l) ∧ Below w.heap.size w w' := by
  have c := F.c33
  have n8 := V.len
  have FS := Lib.hid F.cs
  have HV := Lib.hid V
  have CL := Lib.hid (fun (W : World) (S : Cs W (some ⟨g, 1, none⟩) l.length (zof l)) => clone_list (some ⟨g, 1, none⟩) l 8 W S (fun h => by cases h) (by omega))
  obtain ⟨n, hn⟩ : ∃ n, l.length = n := ⟨_, rfl⟩
  rw [hn] at c n8 FS CL
  have n8' : (n : Int) ≤ 8 := by omega
  have lt := F.lt
  have BD : Hid (Below w.heap.size w w.drew) := Lib.hid (by (repeat (first | exact Below.refl _ _ | refine Below.drew ?_ | refine Hp.drewN ?_ _ | refine Below.setCell ?_ (by first | (simp; done) | (simp; omega) | omega) _ | refine Below.alloc ?_ (by first | (simp; done) | (simp; omega) | omega) _ | (refine Hp.step ?_ (by assumption)))))
  have FD := Lib.hid (FS.out.later BD.out)
  have K := Lib.hid c
  have LT := Lib.hid lt
  clear hn F V
  go_enter Try.func31, Try.ntmps31
  go_wp2_with (fail)
  go_region_held3 (fun w' => w'.cell? ⟨g, 33, none⟩ = some (.int .i64 n)) (go_keep)
    ((go_at_call 39; refine (CL.out _ FD.out).mono ?_; rintro e w1 ⟨v, rfl, o1, B1⟩; have HO := Lib.hid o1; have HB := Lib.hid (BD.out.trans B1); have k1 : w1.cell? ⟨g, 33, none⟩ = some (.int .i64 n) := (B1.cell (p := ⟨g, 33, none⟩) LT.out).trans K.out; clear o1 B1))
  rcases HO.out with ⟨hl, a', c', rfl⟩ | ⟨hl, b, c', rfl, hg, oz, hcc⟩
  · subst hl
    go_wp2_with (fail)
    refine (sort_zero a' c' _).mono ?_
    rintro en w3 ⟨rfl, rfl⟩
    go_wp2_with (fail)
    go_ret
    exact ⟨_, rfl, .inl ⟨rfl, _, _, rfl⟩, HB.out⟩
  · have OZ := Lib.hid oz
    have hgb : w.heap.size ≤ b := hg
    clear oz hg
    go_wp2_with (fail)
    refine (sort_any HV.out b c' _ OZ.out).mono ?_
    rintro en w3 ⟨rfl, o3, B3⟩
    have O3 := Lib.hid o3; have HB3 := Lib.hid (HB.out.trans (B3.mono hgb))
    clear B3 o3
    go_wp2_with (fail)
    go_ret
    exact ⟨_, rfl, .inr ⟨by rw [ord_len]; exact hl, b, c', by rw [ord_len] <;> rfl, hgb, by rw [ord_len]; exact O3.out, by rw [ord_len]; exact hcc⟩, HB3.out⟩
end Go.Proofs.Ytdaedhgbkamjpaa.JxW
