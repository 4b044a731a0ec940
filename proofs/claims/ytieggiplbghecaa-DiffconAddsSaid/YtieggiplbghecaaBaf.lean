/- Contracts of layer 51: the reference's Add on a matrix that it accepts. -/
import Derived.Test.YtieggiplbghecaaBae
set_option linter.unusedVariables false
set_option linter.unusedSimpArgs false
namespace Go.Proofs.Ytieggiplbghecaa.BxW
open Go.RowKit Ls Orw Rv Rw
/-- a matrix of n rows whose first k rows are made, each with room behind, all below block B -/
structure Mc (w : World) (g n k B : Nat) (f : Nat → Nat → Int) : Prop where
  c : ∃ cur, w.heap[g]? = some (.cells cur 32 (0, 0)) ∧ cur.size = n ∧ ∀ i, i < k → ∃ G C, cur[i]? = some (.slice (some ⟨G, 0, none⟩) n C) ∧ g < G ∧ G < B ∧ Oc w G n (f i)
  lt : g < B
section
variable {w w' : World} {g n k B : Nat} {f : Nat → Nat → Int}
theorem Mc.below (m : Mc w g n k B f) (h : Below B w w') : Mc w' g n k B f := by
  obtain ⟨cur, hh, hs, hc⟩ := m.c
  refine ⟨⟨cur, (h.block g m.lt).trans hh, hs, fun i hi => ?_⟩, m.lt⟩
  obtain ⟨G, C, e, l1, l2, o⟩ := hc i hi
  exact ⟨G, C, e, l1, l2, o.below h l2⟩
theorem Mc.free (m : Mc w g n k B f) (i : Nat) : w.frozen? ⟨g, i, none⟩ = false := by obtain ⟨cur, hh, _⟩ := m.c; exact Hp.blk_free hh
theorem Mc.get (m : Mc w g n k B f) {i : Nat} (hi : i < n) : ∃ v, w.cell? ⟨g, i, none⟩ = some v := by
  obtain ⟨cur, hh, hs, _⟩ := m.c
  exact ⟨_, Hp.blk_cell hh (Array.getElem?_eq_getElem (by omega))⟩
/-- one more row is laid -/
theorem Mc.lay (m : Mc w g n k B f) {v : Value} : Mc (w.setCell ⟨g, k, none⟩ v) g n k B f ∧ (k < n → (w.setCell ⟨g, k, none⟩ v).cell? ⟨g, k, none⟩ = some v) := by
  obtain ⟨cur, hh, hs, hc⟩ := m.c
  have hb := Hp.blk_set (o := k) (v := v) hh
  refine ⟨⟨⟨_, hb, by simp [hs], fun i hi => ?_⟩, m.lt⟩, fun hk => Hp.blk_cell hb (by rw [Array.getElem?_setIfInBounds_self_of_lt (by omega)])⟩
  obtain ⟨G, C, e, l1, l2, o⟩ := hc i hi
  exact ⟨G, C, by rw [Array.getElem?_setIfInBounds_ne (by omega)]; exact e, l1, l2, o.set_ne (by omega)⟩
/-- .. and is filled -/
theorem Mc.more (m : Mc w g n k B f) {G C B' : Nat} (hc : w.cell? ⟨g, k, none⟩ = some (.slice (some ⟨G, 0, none⟩) n C)) (o : Oc w G n (f k)) (h1 : B ≤ G) (h2 : G < B') : Mc w g n (k + 1) B' f := by
  have hl := m.lt
  obtain ⟨cur, hh, hs, hcc⟩ := m.c
  refine ⟨⟨cur, hh, hs, fun i hi => ?_⟩, by omega⟩
  by_cases e : i = k
  · subst e
    refine ⟨G, C, ?_, by omega, h2, o⟩
    have := hc
    simp only [World.cell?, hh] at this
    simpa using this
  · obtain ⟨G', C', e', l1, l2, o'⟩ := hcc i (by omega)
    exact ⟨G', C', e', l1, by omega, o'⟩
theorem Mc.mono {B' : Nat} (m : Mc w g n k B f) (h : B ≤ B') : Mc w g n k B' f := by
  have hl := m.lt
  obtain ⟨cur, hh, hs, hc⟩ := m.c
  refine ⟨⟨cur, hh, hs, fun i hi => ?_⟩, by omega⟩
  obtain ⟨G, C, e, l1, l2, o⟩ := hc i hi
  exact ⟨G, C, e, l1, by omega, o⟩
theorem Mc.mr (m : Mc w g n n B f) : Mr w (some ⟨g, 0, none⟩) n f := by
  obtain ⟨cur, hh, hs, hc⟩ := m.c
  refine ⟨.inr ⟨g, 0, fun i => if h : i < n then some ⟨(hc i h).choose, 0, none⟩ else none, fun i => if h : i < n then (hc i h).choose_spec.choose else 0, rfl, Hp.blk_lt hh, fun i hi => ?_⟩⟩
  obtain ⟨e, l1, l2, o⟩ := (hc i hi).choose_spec.choose_spec
  simp only [hi, dif_pos]
  exact ⟨by rw [Nat.zero_add]; exact Hp.blk_cell hh e, o.is⟩
theorem Mc.made (w : World) (n : Nat) (f : Nat → Nat → Int) : Mc (w.alloc (.cells (outer w.heap.size n 0) 32)) w.heap.size n 0 (w.heap.size + 1) f :=
  ⟨⟨_, Hp.blk_new _ _, by rw [outer_size], fun i hi => by omega⟩, by omega⟩
end
/-- row i of the sum, up to column j -/
def rowA (f h : Nat → Nat → Int) (i j j' : Nat) : Int := if j' < j then h i j' else f i j'
theorem rowA_set {f h : Nat → Nat → Int} {i j : Nat} {v : Int} (e : h i j = v) : upd (rowA f h i j) j v = rowA f h i (j + 1) := by
  funext j'; unfold upd rowA
  by_cases e1 : j' = j
  · rw [if_pos e1, if_pos (by omega), e1, e]
  · rw [if_neg e1]
    by_cases h2 : j' < j
    · rw [if_pos h2, if_pos (by omega)]
    · rw [if_neg h2, if_neg (by omega)]
theorem rowA_keep {f h : Nat → Nat → Int} {i j : Nat} (e : h i j = f i j) : rowA f h i (j + 1) = rowA f h i j := by
  funext j'; unfold rowA
  by_cases e1 : j' = j
  · rw [if_pos (by omega), if_neg (by omega), e1, e]
  · by_cases h2 : j' < j
    · rw [if_pos h2, if_pos (by omega)]
    · rw [if_neg h2, if_neg (by omega)]
theorem rowA_at (f h : Nat → Nat → Int) (i j : Nat) : rowA f h i j j = f i j := by unfold rowA; rw [if_neg (by omega)]
/-- a matrix of the call's own -/
def MrPost (n : Nat) (f : Nat → Nat → Int) (w : World) (e : Ending) (w' : World) : Prop := ∃ g, e = .returned (.tuple #[.slice (some ⟨g, 0, none⟩) n n, .int .i64 0]) ∧ Mr w' (some ⟨g, 0, none⟩) n f ∧ Below w.heap.size w w'
set_option maxHeartbeats 16000000 in
set_option maxRecDepth 4000 in
theorem radd_two (a : Option Addr) (n c : Nat) (L : Nat → Nat) (f : Nat → Nat → Int) (A B : Nat) (W : Int) (hA : A < n) (hB : B < n) (w1 : -9007199254740992 ≤ W) (w2 : W ≤ 9007199254740992) (w : World) (S : Mg w a n L f) (hok : OkM n L f) :
    Calls Try.prog 30 #[.slice a n c, .agg #[.int .i64 A, .int .i64 B, .int .i64 W]] w fun e w' => (Bx.cyc f A B W ∧ ErrPost 20 w e w') ∨ (¬ Bx.cyc f A B W ∧ MrPost n (Bx.ad f A B W) w e w') := by
  have n2 : n ≤ 160 := hok.2.1
  have hmo := fun W => make_outer n _ rfl (by omega) W
  have hS := Lib.hid (S.mr hok.sq); have HBm := Lib.hid hok.bm
  have BA := Lib.hid (Below.alloc (Below.refl w.heap.size w) (Nat.le_refl _) (.cells #[.int .i64 (A : Int), .int .i64 (B : Int), .int .i64 W] 40))
  have CB : Hid ((w.alloc (.cells #[.int .i64 (A : Int), .int .i64 (B : Int), .int .i64 W] 40)).heap[w.heap.size]? = some (.cells #[.int .i64 (A : Int), .int .i64 (B : Int), .int .i64 W] 40 (0, 0))) := Lib.hid (Hp.blk_new _ _)
  have h1' : ¬ (n : Int) < 1 := by omega
  have h2' : ¬ 160 < (n : Int) := by omega
  have HV : Hid (okB (n : Int) A B W = true) := Lib.hid (okB_iff.2 (by omega))
  clear S hok
  go_enter Try.func30, Try.ntmps30
  go_wp2_with (fail)
  refine (right_yes HV.out _).mono ?_
  rintro en w3 ⟨rfl, B3⟩
  have HB3 := Lib.hid (BA.out.trans (B3.mono BA.out.size)); have C3 := Lib.hid ((B3.block _ (Hp.blk_lt CB.out)).trans CB.out)
  clear B3
  have M3 := Lib.hid (hS.out.later HB3.out)
  have p0 := Hp.blk_cell (o := 0) C3.out rfl; have p1 := Hp.blk_cell (o := 1) C3.out rfl; have p2 := Hp.blk_cell (o := 2) C3.out rfl
  have lc := Hp.blk_lt C3.out
  go_wp2_with (fail)
  go_loopw [7] (fun c wr => w3 = wr ∧ ∃ k : Nat, k ≤ n ∧ c = .int .i64 k) (fun c _ => n - (intOf c).toNat)
  case atStart => exact ⟨rfl, 0, by omega, rfl⟩
  case round =>
    obtain ⟨rfl, k, hk, rfl⟩ := hrel
    by_cases hlt : k < n
    · obtain ⟨b, o, RA, RC, rfl, hbl, r1, I⟩ := M3.out.row hlt
      obtain ⟨b2, o2, rfl, hb2, hc⟩ := I.addr (by omega)
      have HC := Lib.hid hc
      clear I hc
      go_wp2_with (fail)
      go_loopw [8] (fun c wr => w3 = wr ∧ ∃ j : Nat, j ≤ n ∧ c = .int .i64 j) (fun c _ => n - (intOf c).toNat)
      case atStart => exact ⟨rfl, 0, by omega, rfl⟩
      case round =>
        obtain ⟨rfl, j, hj, rfl⟩ := hrel
        by_cases hlt2 : j < n
        · have c1 := HC.out j hlt2
          have bb := HBm.out k j hlt hlt2
          obtain ⟨P, eP⟩ : ∃ P, f k j = P := ⟨_, rfl⟩
          rw [eP] at c1 bb
          clear eP
          have k3 : (((k : Int)) == (j : Int)) = false ∨ ((((k : Int)) == (j : Int)) = true ∧ (P != 0) = false) := by
            by_cases e : k = j
            · exact .inr ⟨by simp [e], by simpa using bb.2 e⟩
            · exact .inl (by simp; omega)
          have k4 : (P != 4611686018427387904) = false ∨ ((P != 4611686018427387904) = true ∧ ¬ P < -2305843009213693952 ∧ ¬ 2305843009213693952 < P) := by
            by_cases e : P = 4611686018427387904
            · exact .inl (by simpa using e)
            · exact .inr ⟨by simpa using e, by omega, by omega⟩
          clear bb
          rcases k4 with k4 | ⟨k4, k5, k6⟩
          all_goals
            rcases k3 with k3 | ⟨k3, k3'⟩
            all_goals
              go_wp2_with (fail)
              go_roundw
              case rel => exact ⟨by first | rfl | trivial, j + 1, by omega, by go_num⟩
              case measure => (simp [intOf] <;> omega)
        · obtain rfl : n = j := by omega
          go_wp2_with (fail)
          go_roundw
          case rel => exact ⟨by first | rfl | trivial, k + 1, by omega, by go_num⟩
          case measure => (simp [intOf] <;> omega)
    · obtain rfl : n = k := by omega
      obtain ⟨b, o, RA, RC, rfl, hbl, r1, I⟩ := M3.out.row hB
      obtain ⟨b2, o2, rfl, hb2, hc⟩ := I.addr (by omega)
      have x1 := hc A hA
      have HCB := Lib.hid hc
      obtain ⟨X, eX⟩ : ∃ X, f B A = X := ⟨_, rfl⟩
      have HX := Lib.hid eX
      have bx := (HBm.out B A hB hA).1
      rw [eX] at x1 bx
      clear I hc eX
      by_cases hcy : X ≠ 4611686018427387904 ∧ X + W < 0
      · have hP2 : (X != 4611686018427387904) = true := by simpa using hcy.1
        have hn := hcy.2
        have x3 : -2305843009213693952 ≤ X := by omega
        have CY := Lib.hid (show Bx.cyc f A B W from by unfold Bx.cyc; rw [HX.out]; exact hcy)
        clear hcy bx
        go_wp2_with (fail)
        go_quiet (fail)
        go_wp2_with (fail)
        go_ret2
        exact .inl ⟨CY.out, rfl, Hp.drewN HB3.out _⟩
      have NC := Lib.hid (show ¬ Bx.cyc f A B W from by unfold Bx.cyc; rw [HX.out]; exact hcy)
      have key : (X != 4611686018427387904) = false ∨ ((X != 4611686018427387904) = true ∧ ¬ X + W < 0 ∧ -2305843009213693952 ≤ X ∧ X ≤ 2305843009213693952) := by
        by_cases h : X = 4611686018427387904
        · left; simpa using h
        · right; exact ⟨by simpa using h, fun g => hcy ⟨h, g⟩, by omega, by omega⟩
      clear hcy bx
      rcases key with hk | ⟨hk, hk2, hk3, hk4⟩
      all_goals
        go_wp2_with (fail)
        go_quiet (fail)
        go_wp2_with (fail)
        go_loopw [11] (fun c wr => ∃ i : Nat, i ≤ n ∧ c = .int .i64 i ∧ Mc wr w3.heap.size n i wr.heap.size (Bx.ad f A B W) ∧ Below w3.heap.size w3 wr) (fun c _ => n - (intOf c).toNat)
        case atStart => exact ⟨0, by omega, rfl, (Mc.made (w3.drewN _) n _).mono (by simp), by (repeat (first | exact Below.refl _ _ | refine Below.drew ?_ | refine Hp.drewN ?_ _ | refine Below.setCell ?_ (by first | (simp; done) | (simp; omega) | omega) _ | refine Below.alloc ?_ (by first | (simp; done) | (simp; omega) | omega) _ | (refine Hp.step ?_ (by assumption))))⟩
        case round =>
          rename World => ws
          obtain ⟨i, hi, rfl, mo, hb⟩ := hrel
          have MO := Lib.hid mo; have HB := Lib.hid hb
          have sz := hb.size
          have wlt := mo.lt
          clear mo hb
          by_cases hlt : i < n
          · obtain ⟨b', o', RI, CI, hbo, _, ri, Ii⟩ := M3.out.row hlt
            obtain ⟨rfl, rfl⟩ : b = b' ∧ o = o' := by injection hbo with e1; injection e1 with e1 e2; exact ⟨e1, e2⟩
            have HRI := Lib.hid ri
            replace ri := (HB.out.cell (p := ⟨b, o + i, none⟩) hbl).trans ri
            obtain ⟨b3, o3, rfl, hb3, hci⟩ := Ii.addr (by omega)
            have HCI := Lib.hid hci
            have RE := Lib.hid (@row_empty ws)
            have CC := Lib.hid (fun (j : Nat) (hj : j < ((List.range n).map (f i)).length) => show (ws.alloc (.cells #[] 3)).cell? ⟨b3, o3 + j, none⟩ = some (.int .i64 (((List.range n).map (f i)).getD j 0)) by
              have hj' : j < n := by simpa using hj
              rw [World.cell?_alloc_lt _ _ _ (show b3 < ws.heap.size by omega), HB.out.cell (p := ⟨b3, o3 + j, none⟩) hb3, HCI.out j hj']
              simp [List.getD_eq_getElem?_getD, hj'])
            have CL := Lib.hid (show n = ((List.range n).map (f i)).length by simp)
            have s2 := Lib.hid (show ((List.range n).map (f i)).length ≤ 1000000 by simp; omega)
            have ri2 : (ws.alloc (.cells #[] 3)).cell? ⟨b, o + i, none⟩ = some (.slice (some ⟨b3, o3, none⟩) n CI) := by rw [World.cell?_alloc_lt _ _ _ (show b < ws.heap.size by omega)]; exact ri
            clear Ii hci hbo ri
            go_wp2_with (at_builtin; refine append_ints rfl (.tmp 104) (.tmp 108) rfl rfl RE.out b3 o3 rfl CL.out CC.out (by simp) s2.out (by simp) ?_; intro v2 w4 R2 G2; have HB4 := Lib.hid (((Below.refl ws.heap.size ws).alloc (Nat.le_refl _) (.cells #[] 3)).grown G2 (by simp) (fun i hi => by have e : some ws.heap.size = some i := hi; injection e with e; omega)); rw [List.nil_append] at R2; obtain ⟨g2, c2, rfl, oo, hg2⟩ := oc_of_row R2 (by omega); have O2 := Lib.hid oo; have MC2 := Lib.hid (MO.out.below HB4.out); have fr0 := MC2.out.free i; obtain ⟨x0, ce0⟩ := MC2.out.get hlt; clear R2 G2 oo)
            have ML := Lib.hid (MC2.out.lay (k := i) (v := .slice (some ⟨g2, 0, none⟩) n c2))
            have gne : g2 ≠ w3.heap.size := by omega
            have OL := Lib.hid (O2.out.set_ne (c := w3.heap.size) (i := i) (v := .slice (some ⟨g2, 0, none⟩) n c2) gne)
            have BL : Hid (Below w3.heap.size w3 (w4.setCell ⟨w3.heap.size, i, none⟩ (.slice (some ⟨g2, 0, none⟩) n c2))) := Lib.hid (by have := HB.out.trans (HB4.out.mono (by omega)); (repeat (first | exact Below.refl _ _ | refine Below.drew ?_ | refine Hp.drewN ?_ _ | refine Below.setCell ?_ (by first | (simp; done) | (simp; omega) | omega) _ | refine Below.alloc ?_ (by first | (simp; done) | (simp; omega) | omega) _ | (refine Hp.step ?_ (by assumption)))))
            have szL := BL.out.size
            have lo : g2 < (w4.setCell ⟨w3.heap.size, i, none⟩ (.slice (some ⟨g2, 0, none⟩) n c2)).heap.size := OL.out.lt
            obtain ⟨wl, hwl⟩ : ∃ wl, w4.setCell ⟨w3.heap.size, i, none⟩ (.slice (some ⟨g2, 0, none⟩) n c2) = wl := ⟨_, rfl⟩
            rw [hwl] at ML OL BL szL lo
            rw [hwl]
            clear fr0 ce0 hwl ri2
            go_wp2_with (fail)
            go_loopw [12] (fun c wr => ∃ j : Nat, j ≤ n ∧ c = .int .i64 j ∧ Oc wr g2 n (rowA f (Bx.ad f A B W) i j) ∧ Below ws.heap.size wl wr) (fun c _ => n - (intOf c).toNat)
            case atStart => exact ⟨0, by omega, rfl, OL.out.congr (fun j' _ => by unfold rowA; rw [if_neg (by omega)]), Below.refl _ _⟩
            case round =>
              rename World => wr
              obtain ⟨j, hj, rfl, oo, hb⟩ := hrel
              have O5 := Lib.hid oo; have HB5 := Lib.hid hb
              have sz5 := hb.size
              have BW : Below w3.heap.size w3 wr := BL.out.trans (hb.mono (by omega))
              have e1 := (BW.cell (p := ⟨b3, o3 + A, none⟩) hb3).trans (HCI.out A hA)
              have t0 := (BW.cell (p := ⟨b, o + B, none⟩) hbl).trans r1
              have t1 := (BW.cell (p := ⟨w.heap.size, 0, none⟩) lc).trans p0; have t2 := (BW.cell (p := ⟨w.heap.size, 1, none⟩) lc).trans p1; have t3 := (BW.cell (p := ⟨w.heap.size, 2, none⟩) lc).trans p2
              have MB := Lib.hid (ML.out.1.below hb)
              have d1 := (hb.cell (p := ⟨w3.heap.size, i, none⟩) wlt).trans (ML.out.2 hlt)
              have HBW := Lib.hid BW
              clear oo hb
              by_cases hlt2 : j < n
              · have ri := (BW.cell (p := ⟨b, o + i, none⟩) hbl).trans HRI.out
                have e4 := (BW.cell (p := ⟨b2, o2 + j, none⟩) hb2).trans (HCB.out j hlt2)
                have d2 := O5.out.cell hlt2
                rw [rowA_at] at d2
                have d3 := O5.out.free j
                have bp := (HBm.out i A hlt hA).1; have bt := (HBm.out B j hB hlt2).1
                have SA := Lib.hid (fun (v : Int) (h : Bx.ad f A B W i j = v) => @rowA_set f (Bx.ad f A B W) i j v h)
                have SK := Lib.hid (fun (h : Bx.ad f A B W i j = f i j) => @rowA_keep f (Bx.ad f A B W) i j h)
                have AY := Lib.hid (fun (v : Int) => @ad_yes f A B i j W v); have AN := Lib.hid (@ad_none f A B i j W)
                have g5 : b < wr.heap.size := by omega
                have g6 : b2 < wr.heap.size := by omega
                have g7 : b3 < wr.heap.size := by omega
                have g8 : w.heap.size < wr.heap.size := by omega
                have g9 : g2 < wr.heap.size := O5.out.lt
                obtain ⟨P, eP⟩ : ∃ P, f i A = P := ⟨_, rfl⟩
                rw [eP] at e1 bp AY AN
                obtain ⟨T, eT⟩ : ∃ P, f B j = P := ⟨_, rfl⟩
                rw [eT] at e4 bt AY AN
                obtain ⟨Y, eY⟩ : ∃ P, f i j = P := ⟨_, rfl⟩
                rw [eY] at d2 AY AN SK
                clear eP eT eY BW
                by_cases hP : P = 4611686018427387904
                · have hP2 : (P != 4611686018427387904) = false := by simpa using hP
                  have U := Lib.hid (SK.out (AN.out (.inl hP)))
                  clear SA SK AY AN bp bt hP
                  go_wp2_with (fail)
                  go_quiet (fail)
                  go_wp2_with (fail)
                  go_roundw
                  case rel => exact ⟨j + 1, by omega, by go_num, by rw [U.out]; exact O5.out.drewN _, Hp.drewN HB5.out _⟩
                  case measure => (simp [intOf] <;> omega)
                · have hP2 : (P != 4611686018427387904) = true := by simpa using hP
                  by_cases hT : T = 4611686018427387904
                  · have hT2 : (T != 4611686018427387904) = false := by simpa using hT
                    have U := Lib.hid (SK.out (AN.out (.inr hT)))
                    clear SA SK AY AN bp bt hP hT
                    go_wp2_with (fail)
                    go_quiet (fail)
                    go_wp2_with (fail)
                    go_roundw
                    case rel => exact ⟨j + 1, by omega, by go_num, by rw [U.out]; exact O5.out.drewN _, Hp.drewN HB5.out _⟩
                    case measure => (simp [intOf] <;> omega)
                  · have hT2 : (T != 4611686018427387904) = true := by simpa using hT
                    have s1 : -2305843009213693952 ≤ P := by omega
                    have s2 : P ≤ 2305843009213693952 := by omega
                    have s3 : -2305843009213693952 ≤ T := by omega
                    have s4 : T ≤ 2305843009213693952 := by omega
                    by_cases hc : P + W + T < Y
                    · have U := Lib.hid (SA.out _ (AY.out (P + W + T) hP hT (if_pos hc)))
                      clear SA SK AY AN bp bt hP hT
                      go_wp2_with (fail)
                      go_quiet (fail)
                      go_wp2_with (fail)
                      refine wp_region_still_tail 26 (by kernel_rfl) (by kernel_rfl) ?_
                      simp only [List.take_succ_cons, List.take_zero, List.drop_succ_cons, List.drop_zero]
                      change wpStill _ _ (World.drew _) _ _ _
                      repeat still_step
                      refine wpStill_nil ?_
                      rw [show IntKind.i64.wrap (P + W) = P + W from wrap_ok (by omega) (by omega), show IntKind.i64.wrap (P + W + T) = P + W + T from wrap_ok (by omega) (by omega)]
                      change wpList _ _ _ _ _ (World.drew _)
                      go_wp2_with (fail)
                      go_roundw
                      case rel => exact ⟨j + 1, by omega, by go_num, by rw [← U.out]; first | exact ((O5.out.drewN _).later (Hp.of_drewN ⟨1, rfl⟩)).set j _ | exact ((O5.out.drewN _).set j _) | exact (O5.out.set j _).drewN _, by (repeat (first | exact Below.refl _ _ | refine Below.drew ?_ | refine Hp.drewN ?_ _ | refine Below.setCell ?_ (by first | (simp; done) | (simp; omega) | omega) _ | refine Below.alloc ?_ (by first | (simp; done) | (simp; omega) | omega) _ | (refine Hp.step ?_ (by assumption)))); exact HB5.out⟩
                      case measure => (simp [intOf] <;> omega)
                    · have U := Lib.hid (SK.out (AY.out Y hP hT (if_neg hc)))
                      clear SA SK AY AN bp bt hP hT
                      go_wp2_with (fail)
                      go_quiet (fail)
                      go_wp2_with (fail)
                      go_roundw
                      case rel => exact ⟨j + 1, by omega, by go_num, by rw [U.out]; exact O5.out.drewN _, Hp.drewN HB5.out _⟩
                      case measure => (simp [intOf] <;> omega)
              · obtain rfl : n = j := by omega
                go_wp2_with (fail)
                go_roundw
                case rel => exact ⟨i + 1, by omega, by go_num, MB.out.more d1 (O5.out.congr fun j' h' => by unfold rowA; rw [if_pos h']) hg2 O5.out.lt, HBW.out⟩
                case measure => (simp [intOf] <;> omega)
          · obtain rfl : n = i := by omega
            go_wp2_with (fail)
            go_ret2
            exact .inr ⟨NC.out, _, rfl, MO.out.mr, bl_next HB3.out HB.out⟩
end Go.Proofs.Ytieggiplbghecaa.BxW
