/- The reference's Best. -/
import Derived.Test.YtdaedhgbkamjpaaNf
import Derived.Test.YtdaedhgbkamjpaaJl
set_option linter.unusedVariables false
set_option linter.unusedSimpArgs false
namespace Go.Proofs.Ytdaedhgbkamjpaa.JxW
open Go.RowKit FxW
open Go.Proofs.Ytdaedhgbkamjpaa.Jx
/-- the four cells of the reference's filter -/
structure Rc (w : World) (g : Nat) (tol : Int) (v : Value) (any : Bool) (fr : Int) : Prop where
  lt : g < w.heap.size
  c0 : w.cell? ⟨g, 0, none⟩ = some (.int .i64 tol)
  c1 : w.cell? ⟨g, 1, none⟩ = some v
  c2 : w.cell? ⟨g, 2, none⟩ = some (.bool any)
  c3 : w.cell? ⟨g, 3, none⟩ = some (.int .i64 fr)
  free : ∀ o, w.frozen? ⟨g, o, none⟩ = false
theorem Ri.rc {w : World} {base g : Nat} {tol : Int} {l : List Sm} {any : Bool} {fr : Int} (h : Ri w base g tol l any fr) : ∃ v, Rc w g tol v any fr ∧ Sl w base v l := by
  obtain ⟨v, c, s⟩ := h.c1
  exact ⟨v, ⟨h.lt, h.c0, c, h.c2, h.c3, h.free⟩, s⟩
theorem Rc.of {w w' : World} {g : Nat} {tol : Int} {v : Value} {any : Bool} {fr : Int} (h : Rc w g tol v any fr) (hs : w.heap.size ≤ w'.heap.size) (k : w'.heap[g]? = w.heap[g]?) : Rc w' g tol v any fr := by
  have hc : ∀ o, w'.cell? ⟨g, o, none⟩ = w.cell? ⟨g, o, none⟩ := fun o => by simp [World.cell?, k]
  have hf : ∀ o, w'.frozen? ⟨g, o, none⟩ = w.frozen? ⟨g, o, none⟩ := fun o => by simp [World.frozen?, k]
  exact ⟨Nat.lt_of_lt_of_le h.lt hs, by rw [hc]; exact h.c0, by rw [hc]; exact h.c1, by rw [hc]; exact h.c2, by rw [hc]; exact h.c3, fun o => by rw [hf]; exact h.free o⟩
theorem Rc.later {w w' : World} {g : Nat} {tol : Int} {v : Value} {any : Bool} {fr : Int} (h : Rc w g tol v any fr) (k : Below w.heap.size w w') : Rc w' g tol v any fr := h.of k.size (k.block g h.lt)
theorem Rc.drewN {w : World} {g n : Nat} {tol : Int} {v : Value} {any : Bool} {fr : Int} (h : Rc w g tol v any fr) : Rc (w.drewN n) g tol v any fr := h.of (Nat.le_refl _) rfl
theorem Rc.set_ne {w : World} {g c o : Nat} {x v : Value} {tol : Int} {any : Bool} {fr : Int} (h : Rc w g tol v any fr) (hc : g ≠ c) : Rc (w.setCell ⟨c, o, none⟩ x) g tol v any fr :=
  h.of (by simp [World.setCell]) (Below.heap_setCell _ _ _ _ (by simpa using hc))
theorem Rc.shown {w : World} {g : Nat} {tol : Int} {v : Value} {any : Bool} {fr yt : Int} (h : Rc w g tol v any fr) : Rc ((w.setCell ⟨g, 2, none⟩ (.bool true)).setCell ⟨g, 3, none⟩ (.int .i64 yt)) g tol v true yt := by
  have one : ∀ o, o ≠ 2 → o ≠ 3 → ((w.setCell ⟨g, 2, none⟩ (.bool true)).setCell ⟨g, 3, none⟩ (.int .i64 yt)).cell? ⟨g, o, none⟩ = w.cell? ⟨g, o, none⟩ := fun o h1 h2 => by
    rw [World.cell?_setCell_other _ _ _ _ (by simp <;> omega), World.cell?_setCell_other _ _ _ _ (by simp <;> omega)]
  refine ⟨by simp [World.setCell]; exact h.lt, by rw [one _ (by omega) (by omega)]; exact h.c0, by rw [one _ (by omega) (by omega)]; exact h.c1, ?_, ?_, fun o => by rw [World.frozen?_setCell, World.frozen?_setCell]; exact h.free o⟩
  · rw [World.cell?_setCell_other _ _ _ _ (by simp)]
    exact World.cell?_setCell_same' _ _ _ (isSome_of h.c2)
  · exact World.cell?_setCell_same' _ _ _ (isSome_of (by rw [World.cell?_setCell_other _ _ _ _ (by simp)]; exact h.c3))
theorem Ri.mk2 {w w' : World} {base g : Nat} {tol : Int} {v : Value} {l : List Sm} {any : Bool} {fr : Int} (c : Rc w' g tol v any fr) (s : Sl w base v l) (B : But g w w') (lb : g < base) : Ri w' base g tol l any fr :=
  ⟨c.lt, lb, c.c0, ⟨v, c.c1, s.but B lb⟩, c.c2, c.c3, c.free⟩
/-- what the reference's Best returns and leaves -/
structure BestedR (w : World) (base g : Nat) (tol : Int) (l : List Sm) (any : Bool) (fr now : Int) (e : Ending) (w' : World) : Prop where
  ret : e = .returned (.tuple #[.agg #[.int .i64 (bestR l now tol).o, .int .i64 (bestR l now tol).d, .int .i64 (bestR l now tol).p, .int .i64 (bestR l now tol).t], .bool (freshB l any fr now tol), .int .i64 (bestR l now tol).e])
  ri : Ri w' base g tol l (anyN l any fr now tol) (frN l any fr now tol)
  but : But g w w'
set_option maxHeartbeats 2000000 in
theorem rbest_nil {base g : Nat} {tol : Int} {l : List Sm} {any : Bool} {fr : Int} (hl : l = []) (now : Int) (w : World) (F : Ri w base g tol l any fr) :
    Calls Try.prog 17 #[.pointer (some ⟨g, 0, none⟩), .int .i64 now] w (BestedR w base g tol l any fr now) := by
  subst hl
  have R := Lib.hid (bestR_nil now tol)
  have N := Lib.hid (fresh_no (l := []) (any := any) (fr := fr) (now := now) (tol := tol) (by rw [R.out]; decide))
  have c1 : w.cell? ⟨g, 1, none⟩ = some (.slice none 0 0) := by
    obtain ⟨v, c1, s⟩ := F.c1
    rcases s with ⟨_, rfl⟩ | ⟨h, _⟩
    · exact c1
    · simp at h
  have HF := Lib.hid F
  have lt := F.lt
  clear F
  go_enter Try.func17, Try.ntmps17
  go_wp2_with (fail)
  have b : ∀ W : World, Below w.heap.size w W → BestedR w base g tol [] any fr now (.returned (.tuple #[.agg #[.int .i64 0, .int .i64 0, .int .i64 0, .int .i64 0], .bool false, .int .i64 14])) W := fun W k =>
    ⟨by rw [R.out, N.out.1], by rw [N.out.2.1, N.out.2.2]; exact HF.out.later k, But.below k⟩
  exact bodyPost_ret (v := .tuple #[.agg #[.int .i64 0, .int .i64 0, .int .i64 0, .int .i64 0], .bool false, .int .i64 14]) (by simp [results, Try.results17, go_sem]) rfl (b _ (by (repeat (first | exact Below.refl _ _ | refine Below.drew ?_ | refine Hp.drewN ?_ _ | refine Below.setCell ?_ (by first | (simp; done) | (simp; omega) | omega) _ | refine Below.alloc ?_ (by first | (simp; done) | (simp; omega) | omega) _ | (refine Hp.step ?_ (by assumption))))))
/-- what is read at the test of the instant -/
theorem Ri.last {w : World} {base g : Nat} {tol : Int} {l : List Sm} {any : Bool} {fr : Int} {k : Nat} (hk : l.length = k + 1) (F : Ri w base g tol l any fr) : ∃ b o c, w.cell? ⟨g, 1, none⟩ = some (.slice (some ⟨b, o, none⟩) (k + 1) c) ∧ w.cell? ⟨b, o + k * 4 + 3, none⟩ = some (.int .i64 (lastT l)) := by
  have LT : lastT l = (nth l k).t := by unfold lastT; rw [hk]; rfl
  obtain ⟨v, c1, s⟩ := F.c1
  rcases s with ⟨e, _⟩ | ⟨_, b, o, c, _, rfl, _, s⟩
  · rw [e] at hk; simp at hk
  · rw [hk] at c1 s
    have := cs_at' s k 3 (by omega) (by omega)
    rw [show o + (k * 4 + 3) = o + k * 4 + 3 by omega] at this
    exact ⟨b, o, c, c1, by rw [this, LT]; rfl⟩
set_option maxHeartbeats 4000000 in
theorem rbest_early {base g : Nat} {tol : Int} {l : List Sm} {any : Bool} {fr : Int} (V : Val l) (now : Int) (h0 : 0 < l.length) (h : now < lastT l) (w : World) (F : Ri w base g tol l any fr) :
    Calls Try.prog 17 #[.pointer (some ⟨g, 0, none⟩), .int .i64 now] w (BestedR w base g tol l any fr now) := by
  have R := Lib.hid (bestR_early (tol := tol) h0 h)
  have N := Lib.hid (fresh_no (l := l) (any := any) (fr := fr) (now := now) (tol := tol) (by rw [R.out]; decide))
  have HF := Lib.hid F
  have lt := F.lt
  have n8 := V.len
  obtain ⟨k, hk⟩ : ∃ k, l.length = k + 1 := ⟨l.length - 1, by omega⟩
  have LA := Lib.hid (fun W (F : Ri W base g tol l any fr) => F.last hk)
  obtain ⟨T, eT⟩ : ∃ T, lastT l = T := ⟨_, rfl⟩
  rw [eT] at LA h
  have j0 : 0 < k + 1 := by omega
  have j1 : (0 : Int) < (k : Int) + 1 := by omega
  have j2 : (k : Int) + 1 - 1 = k := by omega
  have j3 : k < k + 1 := by omega
  have j4 : IntKind.i64.wrap ((k : Int) + 1 - 1) = (k : Int) := by rw [j2]; exact IntWalk.i64_in _ (by omega)
  have j5 : (((k : Int) + 1) == 0) = false := by simp; omega
  have k8 : (k : Int) ≤ 8 := by omega
  have d2 : decide (now < T) = true := decide_eq_true h
  have B0 : Hid (Below w.heap.size w (w.alloc (.cells #[.int .i64 0, .int .i64 0, .int .i64 0, .int .i64 0] 29))) := Lib.hid (by (repeat (first | exact Below.refl _ _ | refine Below.drew ?_ | refine Hp.drewN ?_ _ | refine Below.setCell ?_ (by first | (simp; done) | (simp; omega) | omega) _ | refine Below.alloc ?_ (by first | (simp; done) | (simp; omega) | omega) _ | (refine Hp.step ?_ (by assumption)))))
  obtain ⟨b, o, c, c1, ct⟩ := LA.out _ (HF.out.later B0.out)
  clear F V hk h0 eT n8
  go_enter Try.func17, Try.ntmps17
  go_wp2_with (fail)
  go_quiet (fail)
  go_wp2_with (fail)
  have b : ∀ W : World, Below w.heap.size w W → BestedR w base g tol l any fr now (.returned (.tuple #[.agg #[.int .i64 0, .int .i64 0, .int .i64 0, .int .i64 0], .bool false, .int .i64 12])) W := fun W k =>
    ⟨by rw [R.out, N.out.1], by rw [N.out.2.1, N.out.2.2]; exact HF.out.later k, But.below k⟩
  exact bodyPost_ret (v := .tuple #[.agg #[.int .i64 0, .int .i64 0, .int .i64 0, .int .i64 0], .bool false, .int .i64 12]) (by simp [results, Try.results17, go_sem]) rfl (b _ (by (repeat (first | exact Below.refl _ _ | refine Below.drew ?_ | refine Hp.drewN ?_ _ | refine Below.setCell ?_ (by first | (simp; done) | (simp; omega) | omega) _ | refine Below.alloc ?_ (by first | (simp; done) | (simp; omega) | omega) _ | (refine Hp.step ?_ (by assumption))))))
set_option maxHeartbeats 16000000 in
set_option maxRecDepth 4000 in
theorem rbest_grow {base g : Nat} {tol : Int} {l : List Sm} {any : Bool} {fr : Int} (V : Val l) (now : Int) (h0 : 0 < l.length) (h : ¬ now < lastT l) (w : World) (F : Ri w base g tol l any fr) :
    Calls Try.prog 17 #[.pointer (some ⟨g, 0, none⟩), .int .i64 now] w (BestedR w base g tol l any fr now) := by
  obtain ⟨G, hG⟩ : ∃ G, grow (first l) now tol = G := ⟨_, rfl⟩
  have RB := Lib.hid (fun he => bestR_bad (l := l) (now := now) (tol := tol) h0 h hG he)
  have RO := Lib.hid (fun he => bestR_ok (l := l) (now := now) (tol := tol) h0 h hG he)
  obtain ⟨y, hy⟩ : ∃ y, first l = y := ⟨_, rfl⟩
  obtain ⟨yo, yd, yp, yt⟩ := y
  have HY := Lib.hid hy
  obtain ⟨n, hn⟩ : ∃ n, l.length = n := ⟨_, rfl⟩
  have OR := Lib.hid (fun W (F : Ri W base g tol l any fr) => rorder_first V hn (by omega) hy W F)
  have GR := Lib.hid (fun W => rgrow_any yo yd yp yt now tol W)
  have hG2 : Sx.growR yo yd yp yt now tol = G := by rw [← hG, hy]; rfl
  rw [hG2] at GR
  obtain ⟨go, gd, gp, gt, ge⟩ := G
  have V8 := Lib.hid V.len
  have HF := Lib.hid F
  have lt := F.lt
  have n8 := V.len
  obtain ⟨v, rc, sl⟩ := F.rc
  have RC := Lib.hid rc; have SL := Lib.hid sl; have LBB := Lib.hid F.lb
  obtain ⟨k, hk⟩ : ∃ k, l.length = k + 1 := ⟨l.length - 1, by omega⟩
  have LA := Lib.hid (fun W (F : Ri W base g tol l any fr) => F.last hk)
  obtain ⟨T, eT⟩ : ∃ T, lastT l = T := ⟨_, rfl⟩
  rw [eT] at LA h
  have j0 : 0 < k + 1 := by omega
  have j1 : (0 : Int) < (k : Int) + 1 := by omega
  have j2 : (k : Int) + 1 - 1 = k := by omega
  have j3 : k < k + 1 := by omega
  have j4 : IntKind.i64.wrap ((k : Int) + 1 - 1) = (k : Int) := by rw [j2]; exact IntWalk.i64_in _ (by omega)
  have j5 : (((k : Int) + 1) == 0) = false := by simp; omega
  have k8 : (k : Int) ≤ 8 := by omega
  have d2 : decide (now < T) = false := decide_eq_false h
  have B0 : Hid (Below w.heap.size w (w.alloc (.cells #[.int .i64 0, .int .i64 0, .int .i64 0, .int .i64 0] 29))) := Lib.hid (by (repeat (first | exact Below.refl _ _ | refine Below.drew ?_ | refine Hp.drewN ?_ _ | refine Below.setCell ?_ (by first | (simp; done) | (simp; omega) | omega) _ | refine Below.alloc ?_ (by first | (simp; done) | (simp; omega) | omega) _ | (refine Hp.step ?_ (by assumption)))))
  obtain ⟨b, o, c, c1, ct⟩ := LA.out _ (HF.out.later B0.out)
  obtain rfl : n = k + 1 := by omega
  clear F V hn h0 hG hG2 hy hk eT n8 rc sl
  go_enter Try.func17, Try.ntmps17
  go_wp2_with (fail)
  go_quiet (fail)
  go_wp2_with (fail)
  clear c1 ct d2 j0 j1 j2 j3 j4 j5
  have BZ : Hid (Below w.heap.size w ((w.alloc (.cells #[.int .i64 0, .int .i64 0, .int .i64 0, .int .i64 0] 29)).drewN nq)) := Lib.hid (by (repeat (first | exact Below.refl _ _ | refine Below.drew ?_ | refine Hp.drewN ?_ _ | refine Below.setCell ?_ (by first | (simp; done) | (simp; omega) | omega) _ | refine Below.alloc ?_ (by first | (simp; done) | (simp; omega) | omega) _ | (refine Hp.step ?_ (by assumption)))))
  refine (OR.out _ (HF.out.later BZ.out)).mono ?_
  rintro en w3 ⟨b3, c3, rfl, hb3, lb3, y0, y1, y2, y3, B3⟩
  have blk : w3.heap[w.heap.size]? = some (.cells #[.int .i64 0, .int .i64 0, .int .i64 0, .int .i64 0] 29 (0, 0)) := by rw [B3.block _ (by simp)]; exact Hp.blk_new w _
  have BK := Lib.hid blk
  have HB3 := Lib.hid (BZ.out.trans (B3.mono (by simp)))
  clear B3 blk hb3
  go_wp2_with (fail)
  obtain ⟨wq, hwq⟩ : ∃ wq, w3.alloc (.cells #[.int .i64 yo, .int .i64 yd, .int .i64 yp, .int .i64 yt] 29) = wq := ⟨_, rfl⟩
  have BQ : Hid (Below w.heap.size w wq) := Lib.hid (by rw [← hwq]; exact HB3.out.alloc HB3.out.size _)
  have blk : wq.heap[w3.heap.size]? = some (.cells #[.int .i64 yo, .int .i64 yd, .int .i64 yp, .int .i64 yt] 29 (0, 0)) := by rw [← hwq]; exact Hp.blk_new w3 _
  have blk2 : wq.heap[w.heap.size]? = some (.cells #[.int .i64 0, .int .i64 0, .int .i64 0, .int .i64 0] 29 (0, 0)) := by rw [← hwq]; exact Hp.blk_old BK.out
  have ne : w3.heap.size ≠ w.heap.size := by have := Hp.blk_lt BK.out; omega
  obtain ⟨gy, hgy⟩ : ∃ gy, w3.heap.size = gy := ⟨_, rfl⟩
  obtain ⟨gr, hgr⟩ : ∃ gr, w.heap.size = gr := ⟨_, rfl⟩
  rw [hgy] at blk ne
  rw [hgr] at blk2 ne
  have FQ := Lib.hid (RC.out.later BQ.out)
  rw [hwq, hgy, hgr]
  have gle : Hid (gr ≤ gr ∧ w.heap.size = gr) := Lib.hid ⟨Nat.le_refl _, hgr⟩
  have lg := FQ.out.lt
  have lgr : g < gr := by omega
  have lgy : g < gy := by (have := HB3.out.size; omega)
  have ly := Hp.blk_lt blk
  have lr := Hp.blk_lt blk2
  have KY := Lib.hid blk; have KR := Lib.hid blk2
  have KC := Lib.hid (fun (W' : World) (kb : Below wq.heap.size wq W') =>
    show (W'.heap[gy]? = some (.cells #[.int .i64 yo, .int .i64 yd, .int .i64 yp, .int .i64 yt] 29 (0, 0)) ∧ W'.heap[gr]? = some (.cells #[.int .i64 0, .int .i64 0, .int .i64 0, .int .i64 0] 29 (0, 0))) ∧ W'.cell? ⟨gy, 0, none⟩ = some (.int .i64 yo) ∧ W'.cell? ⟨gy, 1, none⟩ = some (.int .i64 yd) ∧ W'.cell? ⟨gy, 2, none⟩ = some (.int .i64 yp) ∧ W'.cell? ⟨gy, 3, none⟩ = some (.int .i64 yt) ∧ W'.cell? ⟨g, 0, none⟩ = some (.int .i64 tol) from by
      have h1 := (kb.block gy ly).trans KY.out
      have h2 := (kb.block gr lr).trans KR.out
      exact ⟨⟨h1, h2⟩, Hp.blk_cell h1 rfl, Hp.blk_cell h1 rfl, Hp.blk_cell h1 rfl, Hp.blk_cell h1 rfl, (FQ.out.later kb).c0⟩)
  have BA : Hid (Below wq.heap.size wq wq.drew) := Lib.hid (by (repeat (first | exact Below.refl _ _ | refine Below.drew ?_ | refine Hp.drewN ?_ _ | refine Below.setCell ?_ (by first | (simp; done) | (simp; omega) | omega) _ | refine Below.alloc ?_ (by first | (simp; done) | (simp; omega) | omega) _ | (refine Hp.step ?_ (by assumption)))))
  have BB : Hid (Below wq.heap.size wq (wq.drew.alloc (.cells #[.int .i64 0, .int .i64 0, .int .i64 0, .int .i64 0] 29))) := Lib.hid (by (repeat (first | exact Below.refl _ _ | refine Below.drew ?_ | refine Hp.drewN ?_ _ | refine Below.setCell ?_ (by first | (simp; done) | (simp; omega) | omega) _ | refine Below.alloc ?_ (by first | (simp; done) | (simp; omega) | omega) _ | (refine Hp.step ?_ (by assumption)))))
  have BN : Hid (wq.heap.size < (wq.drew.alloc (.cells #[.int .i64 0, .int .i64 0, .int .i64 0, .int .i64 0] 29)).heap.size ∧ (wq.drew.alloc (.cells #[.int .i64 0, .int .i64 0, .int .i64 0, .int .i64 0] 29)).heap[wq.heap.size]? = some (.cells #[.int .i64 0, .int .i64 0, .int .i64 0, .int .i64 0] 29 (0, 0))) := Lib.hid ⟨by simp, Hp.blk_new wq.drew _⟩
  obtain ⟨_, x0, x1, x2, x3, ct⟩ := KC.out wq (Below.refl _ _)
  have x0L := World.new_ne wq _ x0; have ctL := World.new_ne wq _ ct
  have ly1 : gy < wq.heap.size + 1 := by omega
  have lg1 : g < wq.heap.size + 1 := by omega
  clear hwq blk blk2 hgy hgr y0 y1 y2 y3
  go_region_held3 (fun w' => w'.cell? ⟨gy, 0, none⟩ = some (.int .i64 yo) ∧ w'.cell? ⟨gy, 1, none⟩ = some (.int .i64 yd) ∧ w'.cell? ⟨gy, 2, none⟩ = some (.int .i64 yp) ∧ w'.cell? ⟨gy, 3, none⟩ = some (.int .i64 yt) ∧ w'.cell? ⟨g, 0, none⟩ = some (.int .i64 tol)) (go_keep)
    (first
      | (go_at_call 34; (with_reducible refine (GR.out wq.drew).mono ?_); rintro e w4 ⟨rfl, B4⟩; have HB4 := Lib.hid (BA.out.trans B4); obtain ⟨KB, k0, k1, k2, k3, k4⟩ := KC.out _ HB4.out; have sz4 := HB4.out.size; have kL0 := World.new_ne w4 _ k0; have kL4 := World.new_ne w4 _ k4; clear B4 KB)
      | (go_at_call 34; (with_reducible refine (GR.out _).mono ?_); rintro e w4 ⟨rfl, B4⟩; have HB4 := Lib.hid (BB.out.trans (B4.mono BB.out.size)); obtain ⟨KB, k0, k1, k2, k3, k4⟩ := KC.out _ HB4.out; have sz4 := HB4.out.size; obtain ⟨hc4, hf4⟩ := Hp.bcell B4; have KB4 := Lib.hid ((B4.block wq.heap.size BN.out.1).trans BN.out.2); clear B4 KB))
  · obtain ⟨W5, hW5⟩ : ∃ W5, w4.alloc (.cells #[.int .i64 go, .int .i64 gd, .int .i64 gp, .int .i64 gt] 29) = W5 := ⟨_, rfl⟩
    have P : Hid (Below wq.heap.size wq W5 ∧ W5.heap[w4.heap.size]? = some (.cells #[.int .i64 go, .int .i64 gd, .int .i64 gp, .int .i64 gt] 29 (0, 0))) := Lib.hid (by
      rw [← hW5]
      exact ⟨HB4.out.alloc sz4 _, Hp.blk_new w4 _⟩)
    rw [hW5]
    have F5 := Lib.hid (FQ.out.later P.out.1)
    obtain ⟨⟨u5, r5⟩, x0, x1, x2, x3, ct⟩ := KC.out W5 P.out.1
    have n0 : W5.cell? ⟨w4.heap.size, 0, none⟩ = some (.int .i64 go) := Hp.blk_cell P.out.2 rfl
    have n1 : W5.cell? ⟨w4.heap.size, 1, none⟩ = some (.int .i64 gd) := Hp.blk_cell P.out.2 rfl
    have n2 : W5.cell? ⟨w4.heap.size, 2, none⟩ = some (.int .i64 gp) := Hp.blk_cell P.out.2 rfl
    have n3 : W5.cell? ⟨w4.heap.size, 3, none⟩ = some (.int .i64 gt) := Hp.blk_cell P.out.2 rfl
    have r0 : W5.cell? ⟨gr, 0, none⟩ = some (.int .i64 0) := Hp.blk_cell r5 rfl
    have r1 : W5.cell? ⟨gr, 1, none⟩ = some (.int .i64 0) := Hp.blk_cell r5 rfl
    have r2 : W5.cell? ⟨gr, 2, none⟩ = some (.int .i64 0) := Hp.blk_cell r5 rfl
    have r3 : W5.cell? ⟨gr, 3, none⟩ = some (.int .i64 0) := Hp.blk_cell r5 rfl
    have rf : ∀ o, W5.frozen? ⟨gr, o, none⟩ = false := fun o => Hp.blk_free r5
    have gf : ∀ o, W5.frozen? ⟨g, o, none⟩ = false := F5.out.free
    have s34 := F5.out.c2; have s35 := F5.out.c3
    have B5 : Hid (But g w W5) := Lib.hid (But.below (BQ.out.trans (P.out.1.mono BQ.out.size)))
    have wgr : Hid (w.heap.size ≤ gr) := Lib.hid (Nat.le_of_eq gle.out.2)
    have ngr : g ≠ gr := by omega
    have ngy : g ≠ gy := by omega
    have ngn : g ≠ w4.heap.size := by omega
    have nrn : gr ≠ w4.heap.size := by omega
    clear u5 r5 hW5 ct x0 x1 x2
    by_cases hge : ge = 0
    · subst hge
      have R := Lib.hid (RO.out rfl)
      have N := Lib.hid (fresh_ok (any := any) (fr := fr) (show (bestR l now tol).e = 0 by rw [R.out]))
      clear RO RB
      have AN := Lib.hid (show anyN l any fr now tol = (any || freshB l any fr now tol) from rfl)
      have FN := Lib.hid (show frN l any fr now tol = if freshB l any fr now tol = true then (first l).t else fr from rfl)
      have NN := N.out
      rw [HY.out] at NN
      have YT := Lib.hid (show (first l).t = yt by rw [HY.out])
      have cs : (any = false) ∨ (any = true ∧ fr < yt) ∨ (any = true ∧ ¬ fr < yt) := by cases any <;> simp <;> omega
      rcases cs with rfl | ⟨rfl, hf⟩ | ⟨rfl, hf⟩
      · have FB := Lib.hid (show freshB l false fr now tol = true from by rw [NN]; rfl)
        clear NN
        go_wp2_with (fail)
        go_quiet (fail)
        go_wp2_with (fail)
        exact bodyPost_ret (v := .tuple #[.agg #[.int .i64 go, .int .i64 gd, .int .i64 gp, .int .i64 gt], .bool true, .int .i64 0]) (by simp [results, Try.results17, go_sem, r0, r1, r2, r3, ngr, Ne.symm ngr]) rfl
          ⟨by rw [R.out, FB.out], by rw [AN.out, FN.out, FB.out, YT.out]; exact Ri.mk2 (((((F5.out.drewN.shown).set_ne ngr).set_ne ngr).set_ne ngr).set_ne ngr) SL.out (((((((B5.out.drewN _).setCell _ _).setCell _ _).set_new wgr.out).set_new wgr.out).set_new wgr.out).set_new wgr.out) LBB.out, ((((((B5.out.drewN _).setCell _ _).setCell _ _).set_new wgr.out).set_new wgr.out).set_new wgr.out).set_new wgr.out⟩
      · have FB := Lib.hid (show freshB l true fr now tol = true from by rw [NN]; simp; exact hf)
        clear NN
        go_wp2_with (fail)
        go_quiet (fail)
        go_wp2_with (fail)
        exact bodyPost_ret (v := .tuple #[.agg #[.int .i64 go, .int .i64 gd, .int .i64 gp, .int .i64 gt], .bool true, .int .i64 0]) (by simp [results, Try.results17, go_sem, r0, r1, r2, r3, ngr, Ne.symm ngr]) rfl
          ⟨by rw [R.out, FB.out], by rw [AN.out, FN.out, FB.out, YT.out]; exact Ri.mk2 (((((F5.out.drewN.shown).set_ne ngr).set_ne ngr).set_ne ngr).set_ne ngr) SL.out (((((((B5.out.drewN _).setCell _ _).setCell _ _).set_new wgr.out).set_new wgr.out).set_new wgr.out).set_new wgr.out) LBB.out, ((((((B5.out.drewN _).setCell _ _).setCell _ _).set_new wgr.out).set_new wgr.out).set_new wgr.out).set_new wgr.out⟩
      · have FB := Lib.hid (show freshB l true fr now tol = false from by rw [NN]; simp; omega)
        clear NN
        go_wp2_with (fail)
        go_quiet (fail)
        go_wp2_with (fail)
        exact bodyPost_ret (v := .tuple #[.agg #[.int .i64 go, .int .i64 gd, .int .i64 gp, .int .i64 gt], .bool false, .int .i64 0]) (by simp [results, Try.results17, go_sem, r0, r1, r2, r3, hf]) rfl
          ⟨by rw [R.out, FB.out], by rw [AN.out, FN.out, FB.out]; exact Ri.mk2 ((((F5.out.drewN.set_ne ngr).set_ne ngr).set_ne ngr).set_ne ngr) SL.out (((((B5.out.drewN _).set_new wgr.out).set_new wgr.out).set_new wgr.out).set_new wgr.out) LBB.out, (((((B5.out.drewN _).set_new wgr.out).set_new wgr.out).set_new wgr.out).set_new wgr.out)⟩
    · have hgq : (ge != 0) = true := by simpa using hge
      have R := Lib.hid (RB.out hge)
      have N := Lib.hid (fresh_no (any := any) (fr := fr) (show (bestR l now tol).e ≠ 0 by rw [R.out]; exact hge))
      clear RO RB hge
      go_wp2_with (fail)
      exact bodyPost_ret (v := .tuple #[.agg #[.int .i64 0, .int .i64 0, .int .i64 0, .int .i64 0], .bool false, .int .i64 ge]) (by simp [results, Try.results17, go_sem, r0, r1, r2, r3]) rfl
        ⟨by rw [R.out, N.out.1], by rw [N.out.2.1, N.out.2.2]; exact Ri.mk2 ((((F5.out.set_ne ngr).set_ne ngr).set_ne ngr).set_ne ngr) SL.out ((((B5.out.set_new wgr.out).set_new wgr.out).set_new wgr.out).set_new wgr.out) LBB.out, ((((B5.out.set_new wgr.out).set_new wgr.out).set_new wgr.out).set_new wgr.out)⟩
  · obtain ⟨W5, hW5⟩ : ∃ W5, (((w4.setCell ⟨wq.heap.size, 0, none⟩ (.int .i64 go)).setCell ⟨wq.heap.size, 1, none⟩ (.int .i64 gd)).setCell ⟨wq.heap.size, 2, none⟩ (.int .i64 gp)).setCell ⟨wq.heap.size, 3, none⟩ (.int .i64 gt) = W5 := ⟨_, rfl⟩
    have P : Hid (Below wq.heap.size wq W5 ∧ W5.heap[wq.heap.size]? = some (.cells #[.int .i64 go, .int .i64 gd, .int .i64 gp, .int .i64 gt] 29 (0, 0))) := Lib.hid (by
      rw [← hW5]
      exact ⟨(((HB4.out.setCell (Nat.le_refl _) _).setCell (Nat.le_refl _) _).setCell (Nat.le_refl _) _).setCell (Nat.le_refl _) _, Hp.blk_set (Hp.blk_set (Hp.blk_set (Hp.blk_set KB4.out)))⟩)
    rw [hW5]
    have F5 := Lib.hid (FQ.out.later P.out.1)
    obtain ⟨⟨u5, r5⟩, x0, x1, x2, x3, ct⟩ := KC.out W5 P.out.1
    have n0 : W5.cell? ⟨wq.heap.size, 0, none⟩ = some (.int .i64 go) := Hp.blk_cell P.out.2 rfl
    have n1 : W5.cell? ⟨wq.heap.size, 1, none⟩ = some (.int .i64 gd) := Hp.blk_cell P.out.2 rfl
    have n2 : W5.cell? ⟨wq.heap.size, 2, none⟩ = some (.int .i64 gp) := Hp.blk_cell P.out.2 rfl
    have n3 : W5.cell? ⟨wq.heap.size, 3, none⟩ = some (.int .i64 gt) := Hp.blk_cell P.out.2 rfl
    have r0 : W5.cell? ⟨gr, 0, none⟩ = some (.int .i64 0) := Hp.blk_cell r5 rfl
    have r1 : W5.cell? ⟨gr, 1, none⟩ = some (.int .i64 0) := Hp.blk_cell r5 rfl
    have r2 : W5.cell? ⟨gr, 2, none⟩ = some (.int .i64 0) := Hp.blk_cell r5 rfl
    have r3 : W5.cell? ⟨gr, 3, none⟩ = some (.int .i64 0) := Hp.blk_cell r5 rfl
    have rf : ∀ o, W5.frozen? ⟨gr, o, none⟩ = false := fun o => Hp.blk_free r5
    have gf : ∀ o, W5.frozen? ⟨g, o, none⟩ = false := F5.out.free
    have s34 := F5.out.c2; have s35 := F5.out.c3
    have B5 : Hid (But g w W5) := Lib.hid (But.below (BQ.out.trans (P.out.1.mono BQ.out.size)))
    have wgr : Hid (w.heap.size ≤ gr) := Lib.hid (Nat.le_of_eq gle.out.2)
    have ngr : g ≠ gr := by omega
    have ngy : g ≠ gy := by omega
    have ngn : g ≠ wq.heap.size := by omega
    have nrn : gr ≠ wq.heap.size := by omega
    clear u5 r5 hW5 ct x0 x1 x2
    by_cases hge : ge = 0
    · subst hge
      have R := Lib.hid (RO.out rfl)
      have N := Lib.hid (fresh_ok (any := any) (fr := fr) (show (bestR l now tol).e = 0 by rw [R.out]))
      clear RO RB
      have AN := Lib.hid (show anyN l any fr now tol = (any || freshB l any fr now tol) from rfl)
      have FN := Lib.hid (show frN l any fr now tol = if freshB l any fr now tol = true then (first l).t else fr from rfl)
      have NN := N.out
      rw [HY.out] at NN
      have YT := Lib.hid (show (first l).t = yt by rw [HY.out])
      have cs : (any = false) ∨ (any = true ∧ fr < yt) ∨ (any = true ∧ ¬ fr < yt) := by cases any <;> simp <;> omega
      rcases cs with rfl | ⟨rfl, hf⟩ | ⟨rfl, hf⟩
      · have FB := Lib.hid (show freshB l false fr now tol = true from by rw [NN]; rfl)
        clear NN
        go_wp2_with (fail)
        go_quiet (fail)
        go_wp2_with (fail)
        exact bodyPost_ret (v := .tuple #[.agg #[.int .i64 go, .int .i64 gd, .int .i64 gp, .int .i64 gt], .bool true, .int .i64 0]) (by simp [results, Try.results17, go_sem, r0, r1, r2, r3, ngr, Ne.symm ngr]) rfl
          ⟨by rw [R.out, FB.out], by rw [AN.out, FN.out, FB.out, YT.out]; exact Ri.mk2 (((((F5.out.drewN.shown).set_ne ngr).set_ne ngr).set_ne ngr).set_ne ngr) SL.out (((((((B5.out.drewN _).setCell _ _).setCell _ _).set_new wgr.out).set_new wgr.out).set_new wgr.out).set_new wgr.out) LBB.out, ((((((B5.out.drewN _).setCell _ _).setCell _ _).set_new wgr.out).set_new wgr.out).set_new wgr.out).set_new wgr.out⟩
      · have FB := Lib.hid (show freshB l true fr now tol = true from by rw [NN]; simp; exact hf)
        clear NN
        go_wp2_with (fail)
        go_quiet (fail)
        go_wp2_with (fail)
        exact bodyPost_ret (v := .tuple #[.agg #[.int .i64 go, .int .i64 gd, .int .i64 gp, .int .i64 gt], .bool true, .int .i64 0]) (by simp [results, Try.results17, go_sem, r0, r1, r2, r3, ngr, Ne.symm ngr]) rfl
          ⟨by rw [R.out, FB.out], by rw [AN.out, FN.out, FB.out, YT.out]; exact Ri.mk2 (((((F5.out.drewN.shown).set_ne ngr).set_ne ngr).set_ne ngr).set_ne ngr) SL.out (((((((B5.out.drewN _).setCell _ _).setCell _ _).set_new wgr.out).set_new wgr.out).set_new wgr.out).set_new wgr.out) LBB.out, ((((((B5.out.drewN _).setCell _ _).setCell _ _).set_new wgr.out).set_new wgr.out).set_new wgr.out).set_new wgr.out⟩
      · have FB := Lib.hid (show freshB l true fr now tol = false from by rw [NN]; simp; omega)
        clear NN
        go_wp2_with (fail)
        go_quiet (fail)
        go_wp2_with (fail)
        exact bodyPost_ret (v := .tuple #[.agg #[.int .i64 go, .int .i64 gd, .int .i64 gp, .int .i64 gt], .bool false, .int .i64 0]) (by simp [results, Try.results17, go_sem, r0, r1, r2, r3, hf]) rfl
          ⟨by rw [R.out, FB.out], by rw [AN.out, FN.out, FB.out]; exact Ri.mk2 ((((F5.out.drewN.set_ne ngr).set_ne ngr).set_ne ngr).set_ne ngr) SL.out (((((B5.out.drewN _).set_new wgr.out).set_new wgr.out).set_new wgr.out).set_new wgr.out) LBB.out, (((((B5.out.drewN _).set_new wgr.out).set_new wgr.out).set_new wgr.out).set_new wgr.out)⟩
    · have hgq : (ge != 0) = true := by simpa using hge
      have R := Lib.hid (RB.out hge)
      have N := Lib.hid (fresh_no (any := any) (fr := fr) (show (bestR l now tol).e ≠ 0 by rw [R.out]; exact hge))
      clear RO RB hge
      go_wp2_with (fail)
      exact bodyPost_ret (v := .tuple #[.agg #[.int .i64 0, .int .i64 0, .int .i64 0, .int .i64 0], .bool false, .int .i64 ge]) (by simp [results, Try.results17, go_sem, r0, r1, r2, r3]) rfl
        ⟨by rw [R.out, N.out.1], by rw [N.out.2.1, N.out.2.2]; exact Ri.mk2 ((((F5.out.set_ne ngr).set_ne ngr).set_ne ngr).set_ne ngr) SL.out ((((B5.out.set_new wgr.out).set_new wgr.out).set_new wgr.out).set_new wgr.out) LBB.out, ((((B5.out.set_new wgr.out).set_new wgr.out).set_new wgr.out).set_new wgr.out)⟩
theorem rbest_any {base g : Nat} {tol : Int} {l : List Sm} {any : Bool} {fr : Int} (V : Val l) (now : Int) (w : World) (F : Ri w base g tol l any fr) :
    Calls Try.prog 17 #[.pointer (some ⟨g, 0, none⟩), .int .i64 now] w (BestedR w base g tol l any fr now) := by
  by_cases h0 : l = []
  · exact rbest_nil h0 now w F
  · have hl : 0 < l.length := List.length_pos_iff.2 h0
    by_cases h : now < lastT l
    · exact rbest_early V now hl h w F
    · exact rbest_grow V now hl h w F
end Go.Proofs.Ytdaedhgbkamjpaa.JxW
