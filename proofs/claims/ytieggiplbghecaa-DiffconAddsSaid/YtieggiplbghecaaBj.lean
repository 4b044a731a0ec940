/- Contracts of layer 51: explore. -/
import Derived.Test.YtieggiplbghecaaBz
import Derived.Test.YtieggiplbghecaaBc
import Derived.Test.YtieggiplbghecaaRu
import Derived.Deep.RegionLaw
import Derived.BigQuiet
set_option linter.unusedVariables false
set_option linter.unusedSimpArgs false
namespace Go.Proofs.Ytieggiplbghecaa.BxW
open Go.RowKit Ls Orw Rv
def ptrs (G : Nat → Nat) (n t : Nat) : List Value := (List.range t).map fun k => .slice (some ⟨G k, 0, none⟩) n n
theorem ptrs_len (G : Nat → Nat) (n t : Nat) : (ptrs G n t).length = t := by simp [ptrs]
theorem ptrs_get (G : Nat → Nat) (n : Nat) {t k : Nat} (h : k < t) : (ptrs G n t)[k]? = some (.slice (some ⟨G k, 0, none⟩) n n) := by simp [ptrs, h]
def more (G : Nat → Nat) (t g k : Nat) : Nat := if k = t then g else G k
theorem ptrs_more (G : Nat → Nat) (n t g : Nat) : ptrs (more G t g) n (t + 1) = ptrs G n t ++ [.slice (some ⟨g, 0, none⟩) n n] := by
  unfold ptrs
  rw [List.range_succ, List.map_append]
  congr 1
  · refine List.map_congr_left fun k hk => ?_
    have := List.mem_range.1 hk
    unfold more; rw [if_neg (by omega)]
  · simp [more]
/-- the causes of t rounds -/
structure La (w : World) (base : Nat) (lv : Value) (n t : Nat) (G : Nat → Nat) (f : Nat → Nat → Int) : Prop where
  row : RowV w base lv (ptrs G n t)
  obs : ∀ k, k < t → Ob w (G k) n (f k)
theorem La.later {w w' : World} {base : Nat} {lv : Value} {n t : Nat} {G : Nat → Nat} {f : Nat → Nat → Int} (h : La w base lv n t G f) (b : Below w.heap.size w w') : La w' base lv n t G f :=
  ⟨h.row.later b, fun k hk => (h.obs k hk).later b⟩
/-- the state of explore before round t -/
structure Ex (w0 w : World) (n t m : Nat) (z : Nat → Nat → Int) (gl : Nat) (lv : Value) (G : Nat → Nat) : Prop where
  res : w.heap[w0.heap.size]? = some (.cells #[.slice none 0 0, .slice none 0 0, .int .i64 0] 52 (0, 0))
  src : w.heap[w0.heap.size + 1 + 1]? = some (.cells #[.slice (some ⟨gl, 0, none⟩) n n, lv, .int .i64 (-1)] 52 (0, 0))
  least : Ob w gl n (Bx.bf z m (min t (n - 1)))
  gl1 : w0.heap.size < gl
  last : La w (w0.heap.size + 1) lv n t G fun k => Bx.cau z (Bx.bf z m k) m
  below : Below w0.heap.size w0 w
theorem Ex.later {w0 w w' : World} {n t m : Nat} {z : Nat → Nat → Int} {gl : Nat} {lv : Value} {G : Nat → Nat} (h : Ex w0 w n t m z gl lv G) (b : Below w.heap.size w w') : Ex w0 w' n t m z gl lv G :=
  ⟨(b.block _ (Hp.blk_lt h.res)).trans h.res, (b.block _ (Hp.blk_lt h.src)).trans h.src, h.least.later b, h.gl1, h.last.later b, h.below.trans (b.mono h.below.size)⟩
/-- the variable that the last round lessens, or -1 -/
def EndP (n m : Nat) (z : Nat → Nat → Int) (E : Int) : Prop := (∃ j : Nat, j < n ∧ E = j ∧ Bx.bf z m n j < Bx.bf z m (n - 1) j) ∨ (E = -1 ∧ Bx.St n z m (n - 1))
/-- what explore returns -/
def ExPost (n m : Nat) (z : Nat → Nat → Int) (w : World) (e : Ending) (w' : World) : Prop := ∃ gl lv G E, e = .returned (.agg #[.slice (some ⟨gl, 0, none⟩) n n, lv, .int .i64 E]) ∧ EndP n m z E ∧ w.heap.size ≤ gl ∧ Ob w' gl n (Bx.bf z m (n - 1)) ∧ La w' w.heap.size lv n n G (fun k => Bx.cau z (Bx.bf z m k) m) ∧ Below w.heap.size w w'
def neg1 (k j : Nat) : Int := if j < k then -1 else 0
theorem neg1_set (k : Nat) : upd (neg1 k) k (-1) = neg1 (k + 1) := by
  funext j; unfold upd neg1
  by_cases e : j = k
  · rw [if_pos e, if_pos (by omega)]
  · rw [if_neg e]
    by_cases h : j < k
    · rw [if_pos h, if_pos (by omega)]
    · rw [if_neg h, if_neg (by omega)]
theorem ob_ne {w : World} {g n b : Nat} {f : Nat → Int} {vs : Array Value} {T : TypeId} {q : Nat × Nat} (o : Ob w g n f) (hb : w.heap[b]? = some (.cells vs T q)) (hT : T ≠ 3) : g ≠ b := by
  rintro rfl
  have := o.h
  rw [hb] at this
  simp at this
  exact hT this.2.1
theorem ob_grown {w w' : World} {base g n : Nat} {f : Nat → Int} {v : Value} {zs : List Value} (o : Ob w g n f) (R : RowV w base v zs) (k : w.grownBy w' v.ownBlock) : Ob w' g n f := ⟨R.grown o.h (by decide) k⟩
/-- a round's end -/
theorem ex_step {w ws wr w5 : World} {n t m : Nat} {z : Nat → Nat → Int} {gl : Nat} {lv v5 c : Value} {G : Nat → Nat} (hE : Ex w ws n t m z gl lv G) (hb : Below ws.heap.size ws wr) (on : Ob wr ws.heap.size n (Bx.bf z m (t + 1))) (ob : Ob wr (ws.heap.size + 1) n (Bx.cau z (Bx.bf z m t) m)) (ht : t < n)
    (R5 : RowV w5 (w.heap.size + 1) v5 (ptrs G n t ++ [.slice (some ⟨ws.heap.size + 1, 0, none⟩) n n])) (G5 : (wr.alloc (.cells #[c] 32)).grownBy w5 lv.ownBlock) :
    (t + 1 < n → Ex w ((w5.setCell ⟨w.heap.size + 1 + 1, 1, none⟩ v5).setCell ⟨w.heap.size + 1 + 1, 0, none⟩ (.slice (some ⟨ws.heap.size, 0, none⟩) n n)) n (t + 1) m z ws.heap.size v5 (more G t (ws.heap.size + 1))) ∧
    (t + 1 = n → Ex w (w5.setCell ⟨w.heap.size + 1 + 1, 1, none⟩ v5) n (t + 1) m z gl v5 (more G t (ws.heap.size + 1))) := by
  have hE2 := hE.later hb
  have R0 : RowV (wr.alloc (.cells #[c] 32)) (w.heap.size + 1) lv (ptrs G n t) := hE2.last.row.alloc _
  have res := R0.grown (Hp.blk_old (y := .cells #[c] 32) hE2.res) (by decide) G5
  have src := R0.grown (Hp.blk_old (y := .cells #[c] 32) hE2.src) (by decide) G5
  have least := ob_grown (hE2.least.alloc _) R0 G5
  have on5 := ob_grown (on.alloc _) R0 G5
  have ob5 := ob_grown (ob.alloc _) R0 G5
  have rows : ∀ k, k < t + 1 → Ob w5 (more G t (ws.heap.size + 1) k) n (Bx.cau z (Bx.bf z m k) m) := fun k hk => by
    unfold more
    by_cases e : k = t
    · rw [if_pos e, e]; exact ob5
    · rw [if_neg e]; exact ob_grown ((hE2.last.obs k (by omega)).alloc _) R0 G5
  have bl : Below w.heap.size w w5 := by
    have h1 := hE2.below
    have h2 := h1.size
    exact R0.below (B0 := w.heap.size) (by omega) G5 (h1.alloc h2 _) (by simp; omega)
  rw [← ptrs_more] at R5
  have nS : ∀ {g f}, Ob w5 g n f → g ≠ w.heap.size + 1 + 1 := fun o => ob_ne o src (by decide)
  have src1 := Hp.blk_set (o := 1) (v := v5) src
  have h1 : Ex w (w5.setCell ⟨w.heap.size + 1 + 1, 1, none⟩ v5) n (t + 1) m z gl v5 (more G t (ws.heap.size + 1)) ∨ t + 1 < n := by
    by_cases e : t + 1 < n
    · exact .inr e
    · left
      refine ⟨Hp.blk_set_ne res (by omega), src1, ?_, hE.gl1, ⟨R5.set src (by decide), fun k hk => (rows k hk).set_ne (nS (rows k hk))⟩, bl.setCell (by simp; omega) _⟩
      rw [show min (t + 1) (n - 1) = min t (n - 1) by omega]
      exact least.set_ne (nS least)
  refine ⟨fun e => ?_, fun e => ?_⟩
  · have R6 := R5.set (o := 1) (u := v5) src (by decide)
    have gne := nS on5
    refine ⟨Hp.blk_set_ne (Hp.blk_set_ne res (by omega)) (by omega), Hp.blk_set src1, ?_, ?_, ⟨R6.set src1 (by decide), fun k hk => ((rows k hk).set_ne (nS (rows k hk))).set_ne (nS (rows k hk))⟩, (bl.setCell (by simp; omega) _).setCell (by simp; omega) _⟩
    · rw [show min (t + 1) (n - 1) = t + 1 by omega]
      exact (on5.set_ne gne).set_ne gne
    · have := Hp.blk_lt hE.src; omega
  · rcases h1 with h1 | h1
    · exact h1
    · omega
theorem ex_src {w ws wr w5 : World} {n t m : Nat} {z : Nat → Nat → Int} {gl : Nat} {lv c : Value} {G : Nat → Nat} (hE : Ex w ws n t m z gl lv G) (hb : Below ws.heap.size ws wr) (G5 : (wr.alloc (.cells #[c] 32)).grownBy w5 lv.ownBlock) :
    w5.heap[w.heap.size + 1 + 1]? = some (.cells #[.slice (some ⟨gl, 0, none⟩) n n, lv, .int .i64 (-1)] 52 (0, 0)) :=
  ((hE.later hb).last.row.alloc _).grown (Hp.blk_old (y := .cells #[c] 32) (hE.later hb).src) (by decide) G5
theorem rv_keep {w w' : World} {base : Nat} {v : Value} {zs : List Value} (h : RowV w base v zs) (k : ∀ b x, v.ownBlock = some b → w.heap[b]? = some x → w'.heap[b]? = some x) : RowV w' base v zs :=
  h.of_block fun i hi => by
    have hlt := (World.ownsRow.lt h.own i hi).2
    obtain ⟨x, hx⟩ : ∃ x, w.heap[i]? = some x := ⟨w.heap[i], by simp [hlt]⟩
    rw [hx]; exact k i x hi hx
/-- the stores at the end touch two blocks alone -/
theorem ex_ret {w ws w9 : World} {n m : Nat} {z : Nat → Nat → Int} {gl : Nat} {lv : Value} {G : Nat → Nat} (hE : Ex w ws n n m z gl lv G) (hn : 1 ≤ n) (k : ∀ b x, b ≠ w.heap.size → b ≠ w.heap.size + 1 + 1 → ws.heap[b]? = some x → w9.heap[b]? = some x) (hb : Below w.heap.size w w9) :
    w.heap.size ≤ gl ∧ Ob w9 gl n (Bx.bf z m (n - 1)) ∧ La w9 w.heap.size lv n n G (fun k => Bx.cau z (Bx.bf z m k) m) ∧ Below w.heap.size w w9 := by
  have ko : ∀ {g f}, Ob ws g n f → Ob w9 g n f := fun o => ⟨k _ _ (ob_ne o hE.res (by decide)) (ob_ne o hE.src (by decide)) o.h⟩
  have hl := hE.least
  rw [show min n (n - 1) = n - 1 by omega] at hl
  refine ⟨Nat.le_of_lt hE.gl1, ko hl, ⟨(rv_keep hE.last.row fun b x h1 h2 => k b x ?_ ?_ h2).mono (by omega), fun k hk => ko (hE.last.obs k hk)⟩, hb⟩
  · rintro rfl; exact hE.last.row.ne hE.res (by decide) h1
  · rintro rfl; exact hE.last.row.ne hE.src (by decide) h1
theorem end_yes {n m k : Nat} {z : Nat → Nat → Int} {C : Int} (hn : 1 ≤ n) (hk : k < n) (h : Bx.cau z (Bx.bf z m (n - 1)) m k = C) (hc : 0 ≤ C) : EndP n m z k := by
  left
  refine ⟨k, hk, rfl, ?_⟩
  have h1 := Bx.bf_succ_le z m (n - 1) k
  have h2 : ¬ (Bx.rel z (Bx.bf z m (n - 1)) m k = Bx.bf z m (n - 1) k) := fun e => by
    have := (Bx.cau_neg z (Bx.bf z m (n - 1)) k m).2 e; omega
  have h3 : Bx.bf z m (n - 1 + 1) k ≠ Bx.bf z m (n - 1) k := h2
  rw [show n - 1 + 1 = n by omega] at h1 h3
  omega
theorem end_no {n m : Nat} {z : Nat → Nat → Int} (h : ∀ j, j < n → Bx.cau z (Bx.bf z m (n - 1)) m j < 0) : EndP n m z (-1) :=
  .inr ⟨rfl, fun j hj => (Bx.cau_neg z (Bx.bf z m (n - 1)) j m).1 (h j hj)⟩
theorem rel_yes {z : Nat → Nat → Int} {x : Nat → Int} {k : Nat} (h : x (Bx.fr z k) + z k 2 < Bx.rel z x k (Bx.to z k)) : upd (Bx.rel z x k) (Bx.to z k) (x (Bx.fr z k) + z k 2) = Bx.rel z x (k + 1) ∧ upd (Bx.cau z x k) (Bx.to z k) k = Bx.cau z x (k + 1) := by
  constructor
  all_goals
    funext j; unfold upd
    simp only [Bx.rel, Bx.cau]
    by_cases e : j = Bx.to z k
    · subst e; rw [if_pos rfl, if_pos ⟨rfl, h⟩]
    · rw [if_neg e, if_neg (fun g => e g.1.symm)]
theorem rel_no {z : Nat → Nat → Int} {x : Nat → Int} {k : Nat} (h : ¬ x (Bx.fr z k) + z k 2 < Bx.rel z x k (Bx.to z k)) : Bx.rel z x (k + 1) = Bx.rel z x k ∧ Bx.cau z x (k + 1) = Bx.cau z x k := by
  constructor
  all_goals
    funext j
    simp only [Bx.rel, Bx.cau]
    rw [if_neg]
    rintro ⟨rfl, g⟩
    exact h g
theorem neg1_all {n j : Nat} (h : j < n) (z : Nat → Nat → Int) (x : Nat → Int) : neg1 n j = Bx.cau z x 0 j := by unfold neg1 Bx.cau; rw [if_pos h]
set_option maxHeartbeats 16000000 in
set_option maxRecDepth 4000 in
theorem explore_any (n : Nat) (a : Option Addr) (m cap : Nat) (z : Nat → Nat → Int) (V : Bx.Vs n m z) (w : World) (S : Ss 3 w a m z) :
    Calls Try.prog 32 #[.int .i64 n, .slice a m cap] w (ExPost n m z w) := by
  have n1 := V.n1; have n2 := V.n2; have m2 := V.m2
  have hV := Lib.hid V; have hS := Lib.hid S
  clear V S
  have hmk := fun W => make_run n _ rfl (by omega) W
  have i1 : (1 : Int) ≤ (n : Int) := by omega
  have i2 : (n : Int) ≤ 160 := by omega
  have hn1 : n - 1 < n := by omega
  go_enter Try.func32, Try.ntmps32
  go_wp2_with (fail)
  go_loopw [18] (fun c wr => ∃ t gl lv G, t ≤ n ∧ c = .int .i64 t ∧ Ex w wr n t m z gl lv G) (fun c _ => n - (intOf c).toNat)
  case atStart =>
    refine ⟨0, w.heap.size + 1, .slice none 0 0, fun _ => 0, by omega, rfl, ?_, ?_, ?_, by omega, ⟨RowV.nil _ _, fun k hk => by omega⟩, ?_⟩
    · exact Hp.blk_old (Hp.blk_old (Hp.blk_new _ _))
    · have := Hp.blk_new ((w.alloc (.cells #[.slice none 0 0, .slice none 0 0, .int .i64 0] 52)).alloc (.cells (row (fun _ => 0) n) 3)) (.cells #[.slice (some ⟨w.heap.size + 1, 0, none⟩) n n, .slice none 0 0, .int .i64 (-1)] 52)
      simpa using this
    · rw [Nat.zero_min]
      have := (Ob.made (w.alloc (.cells #[.slice none 0 0, .slice none 0 0, .int .i64 0] 52)) n)
      simp only [World.size_alloc] at this
      exact this.alloc _
    · (repeat (first | exact Below.refl _ _ | refine Below.drew ?_ | refine Hp.drewN ?_ _ | refine Below.setCell ?_ (by first | (simp; done) | (simp; omega) | omega) _ | refine Below.alloc ?_ (by first | (simp; done) | (simp; omega) | omega) _ | (refine Hp.step ?_ (by assumption))))
  case round =>
    rename World => ws
    obtain ⟨t, gl, lv, G, ht, rfl, hE⟩ := hrel
    have HE := Lib.hid hE
    have gs : ws.cell? ⟨w.heap.size + 1 + 1, 0, none⟩ = some (.slice (some ⟨gl, 0, none⟩) n n) := Hp.blk_cell (o := 0) hE.src rfl
    have gs1 : ws.cell? ⟨w.heap.size + 1 + 1, 1, none⟩ = some lv := Hp.blk_cell (o := 1) hE.src rfl
    have gB : w.heap.size + 1 + 1 < ws.heap.size := Hp.blk_lt hE.src
    clear hE
    by_cases hlt : t < n
    · have gs0 : (ws.alloc (.cells (row (fun _ => 0) n) 3)).cell? ⟨w.heap.size + 1 + 1, 0, none⟩ = some (.slice (some ⟨gl, 0, none⟩) n n) := by rw [World.cell?_alloc_lt _ _ _ gB]; exact gs
      have D0 := Lib.hid (Ob.made ws n)
      have S0 := Lib.hid (HE.out.least.alloc (.cells (row (fun _ => 0) n) 3))
      rw [show min t (n - 1) = t by omega] at S0
      go_wp2_with ((with_reducible refine copy_ob rfl (.tmp 22) (.tmp 24) rfl rfl rfl D0.out S0.out ?_); intro w2 O2 B2 hz2; have HO2 := Lib.hid O2; have HB2 := Lib.hid (Below.trans ((Below.refl ws.heap.size ws).alloc (Nat.le_refl _) (.cells (row (fun _ => 0) n) 3)) B2); clear O2 B2; simp only [World.size_alloc] at hz2)
      have z2 : w2.heap.size = ws.heap.size + 1 := hz2
      have NB := Lib.hid (Ob.made w2 n)
      rw [z2] at NB
      go_loopw [30] (fun c wr => ∃ k : Nat, k ≤ n ∧ c = .int .i64 k ∧ Ob wr ws.heap.size n (Bx.bf z m t) ∧ Ob wr (ws.heap.size + 1) n (neg1 k) ∧ Below ws.heap.size ws wr) (fun c _ => n - (intOf c).toNat)
      case atStart => exact ⟨0, by omega, rfl, HO2.out.alloc _, NB.out.congr (fun i _ => by unfold neg1; rw [if_neg (by omega)]), HB2.out.alloc (by omega) _⟩
      case round =>
        obtain ⟨k, hk, rfl, o1, o2, hb⟩ := hrel
        have O1 := Lib.hid o1; have O2 := Lib.hid o2; have HB := Lib.hid hb
        clear o1 o2 hb
        by_cases hlt2 : k < n
        · have q2 := O2.out.free k
          have q3 := O2.out.cell hlt2
          go_wp2_with (fail)
          go_roundw
          case rel => exact ⟨k + 1, by omega, by go_num, O1.out.set_ne (by omega), by rw [← neg1_set]; exact O2.out.set k (-1), by have := HB.out; (repeat (first | exact Below.refl _ _ | refine Below.drew ?_ | refine Hp.drewN ?_ _ | refine Below.setCell ?_ (by first | (simp; done) | (simp; omega) | omega) _ | refine Below.alloc ?_ (by first | (simp; done) | (simp; omega) | omega) _ | (refine Hp.step ?_ (by assumption))))⟩
          case measure => simp [intOf]; omega
        · obtain rfl : n = k := by omega
          go_wp2_with (fail)
          go_loopw [39] (fun c wr => ∃ k : Nat, k ≤ m ∧ c = .int .i64 k ∧ Ob wr ws.heap.size n (Bx.rel z (Bx.bf z m t) k) ∧ Ob wr (ws.heap.size + 1) n (Bx.cau z (Bx.bf z m t) k) ∧ Below ws.heap.size ws wr) (fun c _ => m - (intOf c).toNat)
          case atStart => exact ⟨0, by omega, rfl, O1.out, O2.out.congr fun j hj => neg1_all hj _ _, HB.out⟩
          case round =>
            obtain ⟨k, hk, rfl, o1, o2, hb⟩ := hrel
            have P1 := Lib.hid o1; have P2 := Lib.hid o2; have HB3 := Lib.hid hb
            have hzb := o2.lt
            have gs2 : wr.cell? ⟨w.heap.size + 1 + 1, 0, none⟩ = some (.slice (some ⟨gl, 0, none⟩) n n) := (hb.cell (p := ⟨w.heap.size + 1 + 1, 0, none⟩) gB).trans gs
            have gs3 : wr.cell? ⟨w.heap.size + 1 + 1, 1, none⟩ = some lv := (hb.cell (p := ⟨w.heap.size + 1 + 1, 1, none⟩) gB).trans gs1
            have gL := Lib.hid (HE.out.later hb).least
            rw [show min t (n - 1) = t by omega] at gL
            have gB3 : w.heap.size + 1 + 1 < wr.heap.size := by have := hb.size; omega
            clear o1 o2 hb
            by_cases hlt3 : k < m
            · obtain ⟨b, o, rfl, hbl, c0, c1, c2⟩ := (hS.out.later (HE.out.below.trans (HB3.out.mono HE.out.below.size))).elem3 hlt3
              have zo := hV.out.ok k hlt3
              have hp := hV.out.fr_lt hlt3; have hr := hV.out.to_lt hlt3
              have RY := Lib.hid (@rel_yes z (Bx.bf z m t) k); have RN := Lib.hid (@rel_no z (Bx.bf z m t) k)
              have bb := Bx.bf_bd hV.out t (Bx.fr z k)
              have rb := Bx.rel_bd hV.out t (i := k) (by omega) (Bx.to z k)
              have glt := gL.out.lt; have gnt := P1.out.lt
              have l0 := gL.out.cell hp
              have l1 := P1.out.cell hr
              have l2 := P2.out.cell hr
              have f1 := P1.out.free (Bx.to z k); have f2 := P2.out.free (Bx.to z k)
              obtain ⟨p, ep⟩ : ∃ p, Bx.fr z k = p := ⟨_, rfl⟩
              obtain ⟨r, er⟩ : ∃ r, Bx.to z k = r := ⟨_, rfl⟩
              have e0 : z k 0 = (p : Int) := by unfold Bx.fr at ep; omega
              have e1 : z k 1 = (r : Int) := by unfold Bx.to at er; omega
              rw [ep] at hp bb l0 RY RN; rw [er] at hr rb l1 l2 f1 f2 RY RN
              rw [e0] at c0; rw [e1] at c1
              obtain ⟨W, eW⟩ : ∃ W, z k 2 = W := ⟨_, rfl⟩
              rw [eW] at c2 zo RY RN
              obtain ⟨X, eX⟩ : ∃ X, Bx.bf z m t p = X := ⟨_, rfl⟩
              rw [eX] at l0 bb RY RN
              obtain ⟨Y, eY⟩ : ∃ Y, Bx.rel z (Bx.bf z m t) k r = Y := ⟨_, rfl⟩
              rw [eY] at l1 rb RY RN
              obtain ⟨C, eC⟩ : ∃ C, Bx.cau z (Bx.bf z m t) k r = C := ⟨_, rfl⟩
              rw [eC] at l2
              have w1 := zo.2.2.2.2.1; have w2' := zo.2.2.2.2.2
              have x1 : -1441151880758558720 ≤ X := by omega
              have x2 := bb.2
              have y1 : -1450158879958558720 ≤ Y := by omega
              have y2 := rb.2
              have al0 : (wr.alloc (.cells #[.int .i64 p, .int .i64 r, .int .i64 W] 40)).heap.size = wr.heap.size + 1 := by simp
              clear ep er e0 e1 eW eX eY eC zo bb rb
              by_cases hc : X + W < Y
              · have R := Lib.hid (RY.out hc)
                clear RY RN
                go_wp2_with (fail)
                go_quiet (fail)
                go_wp2_with (fail)
                go_region
                all_goals go_wp2_with (fail)
                all_goals go_roundw
                case rel => exact ⟨k + 1, by omega, by go_num, by rw [← R.out.1]; exact (((P1.out.alloc _).drewN _).set r (X + W)).set_ne (by omega), by rw [← R.out.2]; exact (((P2.out.alloc _).drewN _).set_ne (by omega)).set r k, by have := HB3.out; have := HB3.out.size; (repeat (first | exact Below.refl _ _ | refine Below.drew ?_ | refine Hp.drewN ?_ _ | refine Below.setCell ?_ (by first | (simp; done) | (simp; omega) | omega) _ | refine Below.alloc ?_ (by first | (simp; done) | (simp; omega) | omega) _ | (refine Hp.step ?_ (by assumption))))⟩
                case measure => simp [intOf]; omega
              · have R := Lib.hid (RN.out hc)
                clear RY RN
                go_wp2_with (fail)
                go_quiet (fail)
                go_wp2_with (fail)
                go_roundw
                case rel => exact ⟨k + 1, by omega, by go_num, by rw [R.out.1]; exact ⟨Hp.blk_old P1.out.h⟩, by rw [R.out.2]; exact ⟨Hp.blk_old P2.out.h⟩, by have := HB3.out; have := HB3.out.size; (repeat (first | exact Below.refl _ _ | refine Below.drew ?_ | refine Hp.drewN ?_ _ | refine Below.setCell ?_ (by first | (simp; done) | (simp; omega) | omega) _ | refine Below.alloc ?_ (by first | (simp; done) | (simp; omega) | omega) _ | (refine Hp.step ?_ (by assumption))))⟩
                case measure => simp [intOf]; omega
            · obtain rfl : m = k := by omega
              have R0 := Lib.hid (HE.out.later HB3.out).last.row
              have AV := Lib.hid (Av.mk' R0.out (by have := HB3.out.size; omega) (.slice (some ⟨ws.heap.size + 1, 0, none⟩) n n))
              have ES := Lib.hid (fun v5 w5 => @ex_step w ws wr w5 n t m z gl lv v5 (.slice (some ⟨ws.heap.size + 1, 0, none⟩) n n) G HE.out HB3.out P1.out P2.out hlt)
              have sm := Lib.hid (show (ptrs G n t).length ≤ 1000000 by rw [ptrs_len]; omega)
              go_wp2_with (at_builtin; refine append_row rfl (.tmp 72) (.tmp 74) rfl rfl AV.out.row ⟨wr.heap.size, 0, none⟩ rfl AV.out.cell sm.out AV.out.base ?_; intro v5 w5 R5 G5; have HR5 := Lib.hid R5; have HG5 := Lib.hid G5; have EE := Lib.hid (ES.out v5 w5 R5 G5); have SR := ex_src HE.out HB3.out G5; obtain ⟨g5, c5, rfl⟩ := R5.at0 (k := t + 1) (by simp [ptrs_len]) (by omega); have k0 := Hp.blk_free (o := 0) SR; have k1 := Hp.blk_free (o := 1) SR; have k2 := Hp.blk_cell (o := 1) SR rfl; have k3 := Hp.blk_cell (o := 0) SR rfl; clear R5 G5 SR)
              all_goals go_roundw
              all_goals first
                | (exact ⟨t + 1, ws.heap.size, _, _, by omega, by go_num, EE.out.1 (by omega)⟩)
                | (exact ⟨t + 1, gl, _, _, by omega, by go_num, EE.out.2 (by omega)⟩)
                | (simp [intOf]; omega)

    · obtain rfl : n = t := by omega
      obtain ⟨go, co, rfl, hgo, hgl, hco⟩ := HE.out.last.row.at_ (i := n - 1) (by rw [ptrs_len]; omega)
      rw [ptrs_get G n hn1] at hco
      rw [ptrs_len] at gs1
      have OL := HE.out.last.obs (n - 1) hn1
      have HO := Lib.hid OL
      have s2 := Hp.blk_cell (o := 2) HE.out.src rfl
      have s0f := Hp.blk_free (o := 2) HE.out.src
      have r0 := Hp.blk_cell (o := 0) HE.out.res rfl; have r1 := Hp.blk_cell (o := 1) HE.out.res rfl; have r2 := Hp.blk_cell (o := 2) HE.out.res rfl
      have t0 := Hp.blk_free (o := 0) HE.out.res; have t1 := Hp.blk_free (o := 1) HE.out.res; have t2 := Hp.blk_free (o := 2) HE.out.res
      go_wp2_with (fail)
      go_loopw [92] (fun c wr => ws = wr ∧ ∃ k : Nat, k ≤ n ∧ c = .int .i64 k ∧ ∀ j, j < k → Bx.cau z (Bx.bf z m (n - 1)) m j < 0) (fun c _ => n - (intOf c).toNat)
      case atStart => exact ⟨rfl, 0, by omega, rfl, fun j hj => by omega⟩
      case round =>
        obtain ⟨rfl, k, hk, rfl, hs⟩ := hrel
        have HS := Lib.hid hs
        clear hs
        by_cases hlt4 : k < n
        · have q3 := HO.out.cell hlt4
          obtain ⟨C, eC⟩ : ∃ C, Bx.cau z (Bx.bf z m (n - 1)) m k = C := ⟨_, rfl⟩
          have HC := Lib.hid eC
          rw [eC] at q3
          clear eC
          by_cases hc : 0 ≤ C
          · go_wp2_with (fail)
            refine bodyPost_ret (v := .agg #[.slice (some ⟨gl, 0, none⟩) n n, .slice (some ⟨go, 0, none⟩) n co, .int .i64 k]) (by simp [results, Try.results32, go_sem, r0, r1, r2]) rfl ⟨gl, _, G, _, rfl, end_yes n1 hlt4 HC.out hc, ?_⟩
            have hB := HE.out.below
            have E := HE.out
            rw [ptrs_len] at E
            exact ex_ret E n1 (fun b x h1 h2 h => Hp.blk_set_ne (Hp.blk_set_ne (Hp.blk_set_ne (Hp.blk_set_ne h h2) h1) h1) h1) (by (repeat (first | exact Below.refl _ _ | refine Below.drew ?_ | refine Hp.drewN ?_ _ | refine Below.setCell ?_ (by first | (simp; done) | (simp; omega) | omega) _ | refine Below.alloc ?_ (by first | (simp; done) | (simp; omega) | omega) _ | (refine Hp.step ?_ (by assumption)))))
          · go_wp2_with (fail)
            go_roundw
            case rel => exact ⟨trivial, k + 1, by omega, by go_num, fun j hj => by
              by_cases e : j = k
              · rw [e, HC.out]; omega
              · exact HS.out j (by omega)⟩
            case measure => simp [intOf]; omega
        · obtain rfl : n = k := by omega
          go_wp2_with (fail)
          refine bodyPost_ret (v := .agg #[.slice (some ⟨gl, 0, none⟩) n n, .slice (some ⟨go, 0, none⟩) n co, .int .i64 (-1)]) (by simp [results, Try.results32, go_sem, r0, r1, r2]) rfl ⟨gl, _, G, _, rfl, end_no HS.out, ?_⟩
          have hB := HE.out.below
          have E := HE.out
          rw [ptrs_len] at E
          exact ex_ret E n1 (fun b x h1 h2 h => Hp.blk_set_ne (Hp.blk_set_ne (Hp.blk_set_ne h h1) h1) h1) (by (repeat (first | exact Below.refl _ _ | refine Below.drew ?_ | refine Hp.drewN ?_ _ | refine Below.setCell ?_ (by first | (simp; done) | (simp; omega) | omega) _ | refine Below.alloc ?_ (by first | (simp; done) | (simp; omega) | omega) _ | (refine Hp.step ?_ (by assumption)))))
end Go.Proofs.Ytieggiplbghecaa.BxW
