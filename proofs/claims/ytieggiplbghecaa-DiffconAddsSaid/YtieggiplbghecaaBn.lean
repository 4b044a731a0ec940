/- Contracts of layer 51: Cycle. -/
import Derived.Test.YtieggiplbghecaaBm
import Derived.Test.YtieggiplbghecaaOs
import Derived.WalkMore
import Derived.Deep.LoopGhost
import Derived.Lib.SliceRun
set_option linter.unusedVariables false
set_option linter.unusedSimpArgs false
namespace Go.Proofs.Ytieggiplbghecaa.BxW
open Go.RowKit Ls Orw Rv Rw
theorem row_take {w : World} {base g n cap : Nat} {zs : List Int} (h : Row w base (.slice (some ⟨g, 0, none⟩) n cap) zs) {k : Nat} (hk : k ≤ zs.length) : Row w base (.slice (some ⟨g, 0, none⟩) k cap) (zs.take k) := by
  have hl : (zs.take k).length = k := by simp; omega
  obtain ⟨h1, h2⟩ := h
  rcases h2 with ⟨hv, _⟩ | ⟨g', cap', cur, hv, hg, hh, hc, hm, hs, ht⟩
  · cases hv
  · injection hv with e1 e2 e3
    injection e1 with e1; injection e1 with e1
    subst e1; subst e3
    refine ⟨by rw [hl]; simp; omega, .inr ⟨g, cap, cur, by rw [hl], hg, hh, by omega, hm, hs, ?_⟩⟩
    have := congrArg (List.take k) ht
    rw [hl, Nat.mul_one, List.map_take, ← this, Nat.mul_one, List.take_take, Nat.min_eq_left hk]
/-- out = append(out, zs...) -/
theorem append_ints {w : World} {ops : Array Oper} {rest : List Oper} {o : Oper} {a : Act} {Q : Exit → Act → World → Prop} {base : Nat} {v : Value} {zs xs : List Int} {sl sc : Nat} (hgd : o.guard = none) (s x : Operand)
    (ho : o.op = .call { callee := .builtin .append, args := #[s, x], argTypes := #[32, 32] }) (hs : a.eval s = v) (own : Row w base v zs) (g off : Nat) (hx : a.eval x = .slice (some ⟨g, off, none⟩) sl sc) (hl : sl = xs.length) (hc : ∀ j, j < xs.length → w.cell? ⟨g, off + j, none⟩ = some (.int .i64 (xs.getD j 0)))
    (small : zs.length ≤ 1000000) (small2 : xs.length ≤ 1000000) (hb : base ≤ w.heap.size) (h : ∀ v' w', Row w' base v' (zs ++ xs) → w.grownBy w' v.ownBlock → wpList Try.prog ops Q rest (a.put o.dst v') w') : wpList Try.prog ops Q (o :: rest) a w := by
  subst hl
  obtain ⟨i0, hi, hz0, hz1, hz2⟩ := info_parts info_int
  have hadd : ∀ j, (⟨g, off, none⟩ : Addr).add j = ⟨g, off + j, none⟩ := fun j => by
    unfold Addr.add; split
    · rename_i h; subst h; rfl
    · rfl
  refine wpList_append_own w hgd s x 32 ho base 3 i0 (.int .i64 0) 1 8 Try.underlying32 hi hz0 hz1 hz2 rfl (by decide) v zs.length _ hs own ⟨g, off, none⟩ xs.length sc (xs.map (Value.int .i64)) hx (by simp) ?_ ?_ ?_ ?_ hb ?_
  · intro j u hj
    have hjl : j < xs.length := by
      have := (List.getElem?_eq_some_iff.1 hj).1; simpa using this
    rw [List.getElem?_map, List.getElem?_eq_getElem hjl] at hj
    simp at hj; subst hj
    rw [hadd, hc j hjl]; simp [List.getD_eq_getElem?_getD, hjl]
  · intro u hu; simp only [List.mem_map] at hu; obtain ⟨t, _, rfl⟩ := hu; rfl
  · unfold maxLen; omega
  · omega
  · intro v' w' h1 h2 _
    refine h v' w' ?_ h2
    unfold Row; rw [List.length_append, List.map_append]; exact h1
theorem row_at0 {w : World} {base k : Nat} {v : Value} {zs : List Int} (h : Row w base v zs) (hl : zs.length = k) (h0 : 0 < k) : ∃ g cap, v = .slice (some ⟨g, 0, none⟩) k cap ∧ k ≤ cap ∧ g < w.heap.size := by
  rcases h.form with ⟨_, h2⟩ | ⟨g, cap, cur, hv, _, hh, hc, _⟩
  · subst h2; simp at hl; omega
  · exact ⟨g, cap, by rw [hv, hl], by omega, Hp.blk_lt hh⟩
theorem row_cell {w : World} {base k cap g j : Nat} {zs : List Int} (h : Row w base (.slice (some ⟨g, 0, none⟩) k cap) zs) (hj : j < zs.length) : w.cell? ⟨g, j, none⟩ = some (.int .i64 (zs.getD j 0)) := by
  obtain ⟨g', cap', hv, _, _, hc⟩ := h.elem hj
  injection hv with e1; injection e1 with e1; injection e1 with e1
  subst e1; exact hc
theorem chain_mem {m : Nat} {z : Nat → Nat → Int} {s : List Int} (c : Bx.Chain m z s) : ∀ i ∈ s, 0 ≤ i ∧ i < m := fun i hi => by
  obtain ⟨j, hj, rfl⟩ := List.getElem_of_mem hi
  have := c.ok j hj
  simpa [List.getD_eq_getElem?_getD, hj] using this
theorem sw_bd {m n : Nat} {z : Nat → Nat → Int} (V : Bx.Vs n m z) : ∀ (s : List Int), (∀ i ∈ s, 0 ≤ i ∧ i < m) → -(s.length * 9007199254740992 : Int) ≤ Bx.sw z s ∧ Bx.sw z s ≤ s.length * 9007199254740992
  | [], _ => by simp [Bx.sw]
  | i :: s, h => by
    have ih := sw_bd V s fun j hj => h j (List.mem_cons_of_mem _ hj)
    have hi := h i List.mem_cons_self
    have := V.ok i.toNat (by omega)
    have e : Bx.sw z (i :: s) = z i.toNat 2 + Bx.sw z s := by unfold Bx.sw; rw [List.map_cons, List.sum_cons]
    rw [e]; simp only [List.length_cons]; omega
set_option maxHeartbeats 16000000 in
set_option maxRecDepth 4000 in
theorem cycle_yes (n : Nat) (a : Option Addr) (m cap : Nat) (z : Nat → Nat → Int) (V : Bx.Vs n m z) (hs : ¬ Bx.St n z m (n - 1)) (w : World) (S : Ss 3 w a m z) :
    Calls Try.prog 26 #[.int .i64 n, .slice a m cap] w fun e w' => ∃ v s, e = .returned (.tuple #[v, .bool true]) ∧ Row w' w.heap.size v s ∧ Bx.Neg n m z s ∧ Below w.heap.size w w' := by
  have n1 := V.n1; have n2 := V.n2; have m2 := V.m2
  have hS := Lib.hid S; have hV := Lib.hid V; have HS := Lib.hid hs
  clear S V hs
  go_enter Try.func26, Try.ntmps26
  go_wp2_with (fail)
  go_step3
  go_wp2_with (fail)
  refine (check_at hS.out (Lib.hid (chk_vs hV.out))).mono ?_
  rintro en w1 ⟨rfl, B1⟩
  have HB := Lib.hid B1; have S1 := Lib.hid (hS.out.later B1)
  clear B1
  go_wp2_with (fail)
  refine (explore_any n a m cap z hV.out _ S1.out).mono ?_
  rintro en w2 ⟨gl, lv, G, E, rfl, hE, _, _, L2, B2⟩
  obtain ⟨e, he, rfl, hle⟩ := end_not hE HS.out
  obtain ⟨go, co, rfl⟩ := L2.row.at0 (k := n) (ptrs_len _ _ _) n1
  have HB2 := Lib.hid (bl_next HB.out B2); have S2 := Lib.hid (S1.out.later B2)
  have HL := Lib.hid L2; have Hle := Lib.hid hle
  have j0 : ¬ ((e : Int) < 0) := by omega
  have e0 : (0 : Int) ≤ (e : Int) := by omega
  have BA : Hid (Below w2.heap.size w2 (w2.alloc (.cells #[.slice (some ⟨gl, 0, none⟩) n n, .slice (some ⟨go, 0, none⟩) n co, .int .i64 e] 52))) := Lib.hid (by (repeat (first | exact Below.refl _ _ | refine Below.drew ?_ | refine Hp.drewN ?_ _ | refine Below.setCell ?_ (by first | (simp; done) | (simp; omega) | omega) _ | refine Below.alloc ?_ (by first | (simp; done) | (simp; omega) | omega) _ | (refine Hp.step ?_ (by assumption)))))
  have HB3 := Lib.hid (bl_next HB2.out BA.out); have S3 := Lib.hid (S2.out.later BA.out); have HL3 := Lib.hid (HL.out.later BA.out)
  clear B2 hE L2 hle
  go_wp2_with (fail)
  try go_step3
  try go_wp2_with (fail)
  refine (path_any n a m cap z hV.out gl go co e _ G he Hle.out _ S3.out HL3.out).mono ?_
  rintro en w3 ⟨g, rfl, O3, hg3, B3⟩
  have HB4 := Lib.hid (bl_next HB3.out B3); have S4 := Lib.hid (S3.out.later B3); have HO := Lib.hid O3
  have hg4 := O3.lt
  have sz4 := HB4.out.size
  clear B3 O3
  go_wp2_with (fail)
  go_loopw [27, 7, 8] (fun c v u wr => ∃ (t : Nat) (zs : List Int), t ≤ n ∧ c = .int .i64 t ∧ u = .slice none 0 0 ∧ Row wr w3.heap.size v zs ∧ Bx.Good m z (fun t => Bx.atv n z m e (n - t)) zs t ∧ Below w3.heap.size w3 wr) (fun c _ _ _ => n - (intOf c).toNat)
  case atStart => exact ⟨0, [], by omega, rfl, rfl, Row.nil _ _, Bx.good0 _ _ _, Below.refl _ _⟩
  case round =>
    rename World => ws
    obtain ⟨t, zs, ht, rfl, rfl, hR, hG, hb⟩ := hrel
    have HR := Lib.hid hR; have HG := Lib.hid hG; have HBs := Lib.hid hb
    have szs := hb.size
    clear hR hG hb
    by_cases hlt : t < n
    · obtain ⟨p, p1, p2, p3, p4, p5⟩ := Bx.pth_ok hV.out he Hle.out hlt
      rw [show n - 1 - t = n - (t + 1) by omega] at p4 p5
      have PU := HG.out.push p2 p3 p4 (by rw [p5, p3])
      have cp := (HO.out.below HBs.out hg4).cell hlt
      rw [p1] at cp
      obtain ⟨ys, hys⟩ : ∃ ys, zs ++ [(p : Int)] = ys := ⟨_, rfl⟩
      rw [hys] at PU
      obtain ⟨L, hL⟩ : ∃ L, ys.length = L := ⟨_, rfl⟩
      have L1 : 0 < L := by have := PU.pos; omega
      have L2 : L ≤ 160 := by have := PU.len; omega
      have HL2 := Lib.hid hL; have HYS := Lib.hid hys; have HPU := Lib.hid PU
      obtain ⟨T, hT⟩ : ∃ T, Bx.atv n z m e (n - (t + 1)) = T := ⟨_, rfl⟩
      have HT := Lib.hid hT
      have HP4 := Lib.hid (p4.trans hT)
      have AP := Lib.hid (Ap.mk' HR.out szs (p : Int))
      have BX := Lib.hid (Below.alloc HBs.out szs (.cells #[.int .i64 (p : Int)] 3))
      have sm := Lib.hid (show zs.length ≤ 1000000 by have := HG.out.len; omega)
      have hg5 : g < ws.heap.size := by omega
      clear p1 p3 p4 p5 PU hL hys hT
      go_wp2_with (at_builtin; refine append_int rfl (.tmp 31) (.tmp 33) rfl rfl AP.out.row ⟨ws.heap.size, 0, none⟩ rfl AP.out.cell sm.out AP.out.base ?_; intro v2 w4 R2 G2; have HB5 := Lib.hid (Row.below AP.out.row (Nat.le_refl _) G2 BX.out AP.out.base); rw [HYS.out] at R2; obtain ⟨g2, c2, rfl, hc2, hg2⟩ := row_at0 R2 HL2.out L1; have HR2 := Lib.hid R2; clear R2 G2)
      go_loopw [12, 11, 7, 8] (fun c d v u wr => v = .slice (some ⟨g2, 0, none⟩) L c2 ∧ u = .slice none 0 0 ∧ ∃ q : Nat, q ≤ L ∧ c = .int .i64 ((q : Int) - 1) ∧ d = .int .i64 (Bx.sw z (ys.drop q)) ∧ (∀ j, q ≤ j → j < L → Bx.fl z ys j ≠ T) ∧ Below w4.heap.size w4 wr) (fun c _ _ _ _ => (intOf c + 1).toNat)
      case atStart => exact ⟨rfl, rfl, L, by omega, by go_num, by rw [← HL2.out, List.drop_length]; rfl, fun j h1 h2 => by omega, Below.refl _ _⟩
      case round =>
        obtain ⟨rfl, rfl, q, hq, rfl, rfl, hfar, hb⟩ := hrel
        have HFAR := Lib.hid hfar; have HB6 := Lib.hid hb
        have sz6 := hb.size
        clear hfar hb
        by_cases hq0 : q = 0
        · subst hq0
          have k0 : ((0 : Nat) : Int) - 1 = -1 := by omega
          rw [k0]
          go_wp2_with (fail)
          go_roundw
          case rel => exact ⟨t + 1, ys, by omega, by go_num, rfl, HR2.out.later HB6.out, HPU.out.keep fun j hj => by rw [HT.out]; exact HFAR.out j (by omega) (by have := HL2.out; omega), HB5.out.trans (HB6.out.mono HB5.out.size)⟩
          case measure => (simp [intOf] <;> omega)
        · obtain ⟨k, rfl⟩ : ∃ k, q = k + 1 := ⟨q - 1, by omega⟩
          have k0 : ((k + 1 : Nat) : Int) - 1 = (k : Int) := by omega
          rw [k0]
          have hkL : k < L := by omega
          have ok := HPU.out.c.ok k (by rw [HL2.out]; exact hkL)
          obtain ⟨s, hs⟩ := Int.eq_ofNat_of_zero_le ok.1
          have sm2 : s < m := by omega
          have cs := row_cell (HR2.out.later HB6.out) (j := k) (by rw [HL2.out]; exact hkL)
          have SW := Bx.sw_drop z (s := ys) (k := k) (by rw [HL2.out]; exact hkL)
          have bd1 := sw_bd hV.out (ys.drop (k + 1)) (chain_mem (HPU.out.c.drop (k + 1)))
          have bd2 := sw_bd hV.out (ys.drop k) (chain_mem (HPU.out.c.drop k))
          have dl1 : (ys.drop (k + 1)).length ≤ 160 := by rw [List.length_drop, HL2.out]; omega
          have dl2 : (ys.drop k).length ≤ 160 := by rw [List.length_drop, HL2.out]; omega
          have hfl : Bx.fl z ys k = Bx.fr z s := by unfold Bx.fl; rw [hs]; rfl
          rw [hs, Int.toNat_natCast] at SW
          rw [hs] at cs
          have SL := S4.out.later (HB5.out.trans (HB6.out.mono HB5.out.size))
          obtain ⟨b, o, rfl, hbl, c0, _, c2'⟩ := SL.elem3 sm2
          have d1 := (SL.elem3 p2)
          obtain ⟨b', o', hbo, _, _, d1, _⟩ := d1
          obtain ⟨rfl, rfl⟩ : b = b' ∧ o = o' := by injection hbo with e1; injection e1 with e1 e2; exact ⟨e1, e2⟩
          have z0 := hV.out.ok s sm2; have z1 := hV.out.ok p p2
          have f0 : z s 0 = (Bx.fr z s : Int) := by unfold Bx.fr; omega
          have f1 : z p 1 = (T : Int) := by rw [← HP4.out]; unfold Bx.to; omega
          rw [f0] at c0; rw [f1] at d1
          obtain ⟨W, eW⟩ : ∃ W, z s 2 = W := ⟨_, rfl⟩
          obtain ⟨X, eX⟩ : ∃ X, Bx.sw z (ys.drop (k + 1)) = X := ⟨_, rfl⟩
          obtain ⟨Y, eY⟩ : ∃ X, Bx.sw z (ys.drop k) = X := ⟨_, rfl⟩
          obtain ⟨U, eU⟩ : ∃ U, Bx.fr z s = U := ⟨_, rfl⟩
          have HYk := Lib.hid eY
          rw [eX, eY, eW] at SW
          rw [eW] at c2'; rw [eU] at c0 hfl
          rw [eX]
          have y1 : -1441151880758558720 ≤ X + W := by rw [eY] at bd2; omega
          have y2 : X + W ≤ 1441151880758558720 := by rw [eY] at bd2; omega
          have SWh := Lib.hid SW
          have HFL := Lib.hid hfl
          have h4 := HR2.out.later HB6.out
          have g6 : g2 < wr.heap.size := by omega
          clear hs ok SW bd1 bd2 dl1 dl2 hfl hbo z0 z1 f0 f1 eW eX eY eU SL
          by_cases hU : U = T
          · subst hU
            by_cases hw : X + W < 0
            · have ng := Lib.hid (HPU.out.neg hV.out (k := k) (by rw [HL2.out]; exact hkL) (by rw [HFL.out, HT.out]) (by rw [HYk.out, SWh.out]; omega))
              have CL := Lib.hid (show L - k = (ys.drop k).length by rw [List.length_drop, HL2.out])
              have CC := Lib.hid (fun (N : Nat) (j : Nat) (hj : j < (ys.drop k).length) => show (wr.drewN N).cell? ⟨g2, k + j, none⟩ = some (.int .i64 ((ys.drop k).getD j 0)) by
                rw [Bx.getD_drop]
                have hj2 : k + j < ys.length := by rw [List.length_drop] at hj; omega
                exact row_cell (h4.drewN (n := N)) hj2)
              have s2 := Lib.hid (show (ys.drop k).length ≤ 1000000 by rw [List.length_drop, HL2.out]; omega)
              have kL0 : 0 < L - k := by omega
              have kL1 : (0 : Int) < ((L - k : Nat) : Int) := by omega
              have hz9 := Lib.hid (show w3.heap.size ≤ wr.heap.size by have := HB5.out.size; omega)
              have HB9 := Lib.hid (HB5.out.trans (HB6.out.mono HB5.out.size))
              clear h4
              go_wp2_with (fail)
              go_quiet (fail)
              go_wp2_with (at_builtin; refine append_ints rfl (.tmp 68) (.tmp 71) rfl rfl (Row.nil _ w3.heap.size) g2 k rfl CL.out (CC.out _) (by simp) s2.out hz9.out ?_; intro v9 w9 R9 G9; have HG9 := Lib.hid G9; rw [List.nil_append] at R9; obtain ⟨g9, c9, rfl, hc9, hg9⟩ := row_at0 R9 CL.out.symm kL0; have HR9 := Lib.hid R9; clear R9 G9)
              rw [Exit.noGoto_ret]
              go_ret2
              refine ⟨_, ys.drop k, rfl, HR9.out.mono sz4, ng.out, ?_⟩
              exact HB4.out.trans ((Row.below (Row.nil _ w3.heap.size) (Nat.le_refl _) HG9.out (Hp.drewN HB9.out _) hz9.out).mono sz4)
            · have po := Lib.hid (HPU.out.pop (k := k) (by rw [HL2.out]; exact hkL) (by rw [HFL.out, HT.out]) (by rw [HYk.out, SWh.out]; omega))
              have rt := Lib.hid (row_take h4 (k := k) (by rw [HL2.out]; omega))
              clear h4
              go_wp2_with (fail)
              go_quiet (fail)
              go_wp2_with (fail)
              go_roundw
              case rel => exact ⟨t + 1, ys.take k, by omega, by go_num, rfl, rt.out.drewN, po.out, Hp.drewN (HB5.out.trans (HB6.out.mono HB5.out.size)) _⟩
              case measure => (simp [intOf] <;> omega)
          · have hU2 : ((U : Int) != (T : Int)) = true := by simp; omega
            go_wp2_with (fail)
            go_quiet (fail)
            go_wp2_with (fail)
            go_roundw
            case rel => exact ⟨rfl, rfl, k, by omega, by go_num, by rw [HYk.out, SWh.out]; go_num, fun j h1 h2 => by
              by_cases e : j = k
              · rw [e, HFL.out]; exact hU
              · exact HFAR.out j (by omega) h2, Hp.drewN HB6.out _⟩
            case measure => (simp [intOf] <;> omega)
    · obtain rfl : n = t := by omega
      exfalso
      have hh := HG.out
      exact hh.absurd hV.out (by rw [Nat.sub_self]; exact he) (by rw [Nat.sub_self]; exact Hle.out)
end Go.Proofs.Ytieggiplbghecaa.BxW
