/- Contracts of layer 51: the reference's Solve. -/
import Derived.Test.YtieggiplbghecaaBl
import Derived.Test.YtieggiplbghecaaBn
set_option linter.unusedVariables false
set_option linter.unusedSimpArgs false
namespace Go.Proofs.Ytieggiplbghecaa.BxW
open Go.RowKit Ls Orw Rv Rw
/-- whether one of the first k constraints lessens a number -/
def chg (z : Nat → Nat → Int) (x : Nat → Int) : Nat → Bool
  | 0 => false
  | k + 1 => if x (Bx.fr z k) + z k 2 < Bx.rel z x k (Bx.to z k) then true else chg z x k
theorem chg_no {z : Nat → Nat → Int} {x : Nat → Int} : ∀ {m}, chg z x m = false → ∀ j, Bx.rel z x m j = x j
  | 0, _, _ => rfl
  | k + 1, h, j => by
    simp only [chg] at h
    by_cases c : x (Bx.fr z k) + z k 2 < Bx.rel z x k (Bx.to z k)
    · rw [if_pos c] at h; cases h
    · rw [if_neg c] at h
      rw [(rel_no c).1]; exact chg_no h j
theorem chg_yes {n m : Nat} {z : Nat → Nat → Int} (V : Bx.Vs n m z) {x : Nat → Int} : ∀ {k}, k ≤ m → chg z x k = true → ∃ j, j < n ∧ Bx.rel z x k j < x j
  | 0, _, h => by cases h
  | k + 1, hk, h => by
    simp only [chg] at h
    by_cases c : x (Bx.fr z k) + z k 2 < Bx.rel z x k (Bx.to z k)
    · refine ⟨Bx.to z k, V.to_lt (by omega), ?_⟩
      have h1 := Bx.rel_le z x k (Bx.to z k)
      have e : Bx.rel z x (k + 1) (Bx.to z k) = x (Bx.fr z k) + z k 2 := by simp only [Bx.rel]; rw [if_pos ⟨trivial, c⟩]
      omega
    · rw [if_neg c] at h
      obtain ⟨j, hj, hl⟩ := chg_yes V (k := k) (by omega) h
      exact ⟨j, hj, by have := Bx.rel_succ_le z x k j; omega⟩
theorem chg_st {n m : Nat} {z : Nat → Nat → Int} (V : Bx.Vs n m z) (t : Nat) : chg z (Bx.bf z m t) m = false ↔ Bx.St n z m t := by
  constructor
  · intro h j _; exact chg_no h j
  · intro h
    by_cases c : chg z (Bx.bf z m t) m = true
    · obtain ⟨j, hj, hl⟩ := chg_yes V (Nat.le_refl _) c
      have := h j hj
      have e : Bx.bf z m (t + 1) j = Bx.rel z (Bx.bf z m t) m j := rfl
      omega
    · simpa using c
theorem chg_one {z : Nat → Nat → Int} {x : Nat → Int} {k : Nat} (c : x (Bx.fr z k) + z k 2 < Bx.rel z x k (Bx.to z k)) : chg z x (k + 1) = true := by simp only [chg]; rw [if_pos c]
theorem chg_same {z : Nat → Nat → Int} {x : Nat → Int} {k : Nat} (c : ¬ x (Bx.fr z k) + z k 2 < Bx.rel z x k (Bx.to z k)) : chg z x (k + 1) = chg z x k := by simp only [chg]; rw [if_neg c]
theorem oc_of_row {w : World} {base : Nat} {v : Value} {f : Nat → Int} {k : Nat} (h : Row w base v ((List.range k).map f)) (hk : 0 < k) : ∃ g cap, v = .slice (some ⟨g, 0, none⟩) k cap ∧ Oc w g k f ∧ base ≤ g := by
  have hl : ((List.range k).map f).length = k := by simp
  rcases h.form with ⟨_, h0⟩ | ⟨g, cap, cur, hv, hb, hh, _, hc⟩
  · rw [h0] at hl; simp at hl; omega
  · rw [hl] at hv hc
    exact ⟨g, cap, hv, ⟨cur, hh, fun i hi => by rw [hc i hi]; simp [List.getD_eq_getElem?_getD, hi]⟩, hb⟩
theorem row_empty {w : World} : Row (w.alloc (.cells #[] 3)) w.heap.size (.slice (some ⟨w.heap.size, 0, none⟩) 0 0) [] :=
  ⟨rfl, .inr ⟨w.heap.size, 0, #[], rfl, Nat.le_refl _, Hp.blk_new _ _, Nat.le_refl _, by unfold maxLen; omega, rfl, rfl⟩⟩
theorem rcheck_at {n : Int} {a : Option Addr} {m cap : Nat} {z : Nat → Nat → Int} {w : World} {r : Int} (S : Ss 3 w a m z) (h : Hid (Bx.chk n m z = r)) :
    Calls Try.prog 16 #[.int .i64 n, .slice a m cap] w fun e w' => e = .returned (.int .i64 r) ∧ Below w.heap.size w w' := by
  rw [← h.out]; exact rcheck_any n a m cap z w S
set_option maxHeartbeats 4000000 in
theorem rsolve_bad (n : Int) (a : Option Addr) (m cap : Nat) (z : Nat → Nat → Int) {r : Int} (hc : Hid (Bx.chk n m z = r)) (hr : (r != 0) = true) (w : World) (S : Ss 3 w a m z) :
    Calls Try.prog 19 #[.int .i64 n, .slice a m cap] w (ErrPost r w) := by
  have hS := Lib.hid S
  clear S
  go_enter Try.func19, Try.ntmps19
  go_wp2_with (fail)
  refine (rcheck_at hS.out hc).mono ?_
  rintro en w1 ⟨rfl, B1⟩
  have HB := Lib.hid B1
  clear B1
  go_wp2_with (fail)
  go_ret2
  exact ⟨rfl, HB.out⟩
/-- a list with room behind -/
def OcPost (n : Nat) (f : Nat → Int) (w : World) (e : Ending) (w' : World) : Prop := ∃ g cap, e = .returned (.tuple #[.slice (some ⟨g, 0, none⟩) n cap, .int .i64 0]) ∧ Oc w' g n f ∧ Below w.heap.size w w'
set_option maxHeartbeats 16000000 in
set_option maxRecDepth 4000 in
theorem rsolve_two (n : Nat) (a : Option Addr) (m cap : Nat) (z : Nat → Nat → Int) (V : Bx.Vs n m z) (w : World) (S : Ss 3 w a m z) :
    Calls Try.prog 19 #[.int .i64 n, .slice a m cap] w fun e w' => (Bx.St n z m (n - 1) ∧ OcPost n (Bx.bf z m (n - 1)) w e w') ∨ (¬ Bx.St n z m (n - 1) ∧ ErrPost 20 w e w') := by
  have n1 := V.n1; have n2 := V.n2; have m2 := V.m2
  have hS := Lib.hid S; have hV := Lib.hid V
  clear S V
  have hmk := fun W => make_run n _ rfl (by omega) W
  have i1 : (1 : Int) ≤ (n : Int) := by omega
  have i2 : (n : Int) ≤ 160 := by omega
  go_enter Try.func19, Try.ntmps19
  go_wp2_with (fail)
  refine (rcheck_at hS.out (Lib.hid (chk_vs hV.out))).mono ?_
  rintro en w1 ⟨rfl, B1⟩
  have HB1 := Lib.hid B1; have S1 := Lib.hid (hS.out.later B1)
  clear B1
  go_wp2_with (fail)
  go_loopw [8, 7] (fun c v wr => ∃ (t g cp : Nat), t ≤ n + 1 ∧ c = .int .i64 t ∧ v = .slice (some ⟨g, 0, none⟩) n cp ∧ Oc wr g n (Bx.bf z m t) ∧ w1.heap.size ≤ g ∧ (∀ s, s < t → ¬ Bx.St n z m s) ∧ Below w1.heap.size w1 wr) (fun c _ _ => n + 1 - (intOf c).toNat)
  case atStart => exact ⟨0, _, _, by omega, rfl, rfl, (Ob.made w1 n).oc, Nat.le_refl _, fun s hs => by omega, by (repeat (first | exact Below.refl _ _ | refine Below.drew ?_ | refine Hp.drewN ?_ _ | refine Below.setCell ?_ (by first | (simp; done) | (simp; omega) | omega) _ | refine Below.alloc ?_ (by first | (simp; done) | (simp; omega) | omega) _ | (refine Hp.step ?_ (by assumption))))⟩
  case round =>
    rename World => ws
    obtain ⟨t, g, cp, ht, rfl, rfl, o, hg, hst, hb⟩ := hrel
    have O := Lib.hid o; have HST := Lib.hid hst; have HB2 := Lib.hid hb
    have glt := o.lt
    have sz2 := hb.size
    clear o hst hb
    by_cases hlt : t ≤ n
    · have RE := Lib.hid (@row_empty ws)
      have CC := Lib.hid (fun (j : Nat) (hj : j < ((List.range n).map (Bx.bf z m t)).length) => show (ws.alloc (.cells #[] 3)).cell? ⟨g, 0 + j, none⟩ = some (.int .i64 (((List.range n).map (Bx.bf z m t)).getD j 0)) by
        have hj' : j < n := by simpa using hj
        rw [Nat.zero_add, World.cell?_alloc_lt _ _ _ glt, O.out.cell hj']
        simp [List.getD_eq_getElem?_getD, hj'])
      have CL := Lib.hid (show n = ((List.range n).map (Bx.bf z m t)).length by simp)
      have s2 := Lib.hid (show ((List.range n).map (Bx.bf z m t)).length ≤ 1000000 by simp; omega)
      go_wp2_with (at_builtin; refine append_ints rfl (.tmp 26) (.tmp 27) rfl rfl RE.out g 0 rfl CL.out CC.out (by simp) s2.out (by simp) ?_; intro v2 w2 R2 G2; have HB3 := Lib.hid (((Below.refl ws.heap.size ws).alloc (Nat.le_refl _) (.cells #[] 3)).grown G2 (by simp) (fun i hi => by have e : some ws.heap.size = some i := hi; injection e with e; omega)); rw [List.nil_append] at R2; obtain ⟨g2, c2, rfl, o2, hg2⟩ := oc_of_row R2 (by omega); have O2 := Lib.hid o2; clear R2 G2 o2)
      go_loopw [11, 10] (fun c v wr => ∃ k : Nat, k ≤ m ∧ c = .int .i64 k ∧ v = .bool (chg z (Bx.bf z m t) k) ∧ Oc wr g2 n (Bx.rel z (Bx.bf z m t) k) ∧ Below ws.heap.size ws wr) (fun c _ _ => m - (intOf c).toNat)
      case atStart => exact ⟨0, by omega, rfl, rfl, O2.out, HB3.out⟩
      case round =>
        obtain ⟨k, hk, rfl, rfl, o3, hb⟩ := hrel
        have P1 := Lib.hid o3; have HB4 := Lib.hid hb
        have gL := Lib.hid (O.out.below hb glt)
        have sz4 := hb.size
        have g2lt := o3.lt
        have gne : g ≠ g2 := by omega
        have gl4 : g < wr.heap.size := by omega
        clear o3 hb
        by_cases hlt3 : k < m
        · obtain ⟨b, o, rfl, hbl, c0, c1, c2⟩ := (S1.out.later (HB2.out.trans (HB4.out.mono sz2))).elem3 hlt3
          have zo := hV.out.ok k hlt3
          have hp := hV.out.fr_lt hlt3; have hr := hV.out.to_lt hlt3
          have RY := Lib.hid (fun h => (@rel_yes z (Bx.bf z m t) k h).1); have RN := Lib.hid (fun h => (@rel_no z (Bx.bf z m t) k h).1)
          have CY := Lib.hid (@chg_one z (Bx.bf z m t) k); have CN := Lib.hid (@chg_same z (Bx.bf z m t) k)
          have bb := Bx.bf_bd hV.out t (Bx.fr z k)
          have rb := Bx.rel_bd hV.out t (i := k) (by omega) (Bx.to z k)
          have l0 := gL.out.cell hp
          have l1 := P1.out.cell hr
          have f1 := P1.out.free (Bx.to z k)
          obtain ⟨p, ep⟩ : ∃ p, Bx.fr z k = p := ⟨_, rfl⟩
          obtain ⟨r, er⟩ : ∃ r, Bx.to z k = r := ⟨_, rfl⟩
          have e0 : z k 0 = (p : Int) := by unfold Bx.fr at ep; omega
          have e1 : z k 1 = (r : Int) := by unfold Bx.to at er; omega
          rw [ep] at hp bb l0 RY RN CY CN; rw [er] at hr rb l1 f1 RY RN CY CN
          rw [e0] at c0; rw [e1] at c1
          obtain ⟨W, eW⟩ : ∃ W, z k 2 = W := ⟨_, rfl⟩
          rw [eW] at c2 zo RY RN CY CN
          obtain ⟨X, eX⟩ : ∃ X, Bx.bf z m t p = X := ⟨_, rfl⟩
          rw [eX] at l0 bb RY RN CY CN
          obtain ⟨Y, eY⟩ : ∃ Y, Bx.rel z (Bx.bf z m t) k r = Y := ⟨_, rfl⟩
          rw [eY] at l1 rb RY RN CY CN
          have w1' := zo.2.2.2.2.1; have w2' := zo.2.2.2.2.2
          have x1 : -1441151880758558720 ≤ X := by omega
          have x2 := bb.2
          have y1 : -1450159080013299712 ≤ Y := by omega
          have y2 := rb.2
          clear ep er e0 e1 eW eX eY zo bb rb
          by_cases hc : X + W < Y
          · have R := Lib.hid (RY.out hc); have C := Lib.hid (CY.out hc)
            clear RY RN CY CN
            go_wp2_with (fail)
            go_quiet (fail)
            go_wp2_with (fail)
            go_region
            all_goals go_wp2_with (fail)
            all_goals go_roundw
            case rel => exact ⟨k + 1, by omega, by go_num, by rw [C.out], by first | (rw [← R.out]; exact (((P1.out.later (by (repeat (first | exact Below.refl _ _ | refine Below.drew ?_ | refine Hp.drewN ?_ _ | refine Below.setCell ?_ (by first | (simp; done) | (simp; omega) | omega) _ | refine Below.alloc ?_ (by first | (simp; done) | (simp; omega) | omega) _ | (refine Hp.step ?_ (by assumption)))))).set r (X + W)))) | done, by have := HB4.out; (repeat (first | exact Below.refl _ _ | refine Below.drew ?_ | refine Hp.drewN ?_ _ | refine Below.setCell ?_ (by first | (simp; done) | (simp; omega) | omega) _ | refine Below.alloc ?_ (by first | (simp; done) | (simp; omega) | omega) _ | (refine Hp.step ?_ (by assumption))))⟩
            case measure => (simp [intOf] <;> omega)
          · have R := Lib.hid (RN.out hc); have C := Lib.hid (CN.out hc)
            clear RY RN CY CN
            go_wp2_with (fail)
            go_quiet (fail)
            go_wp2_with (fail)
            go_roundw
            case rel => exact ⟨k + 1, by omega, by go_num, by rw [C.out], by rw [R.out]; exact P1.out.later (by (repeat (first | exact Below.refl _ _ | refine Below.drew ?_ | refine Hp.drewN ?_ _ | refine Below.setCell ?_ (by first | (simp; done) | (simp; omega) | omega) _ | refine Below.alloc ?_ (by first | (simp; done) | (simp; omega) | omega) _ | (refine Hp.step ?_ (by assumption))))), by have := HB4.out; (repeat (first | exact Below.refl _ _ | refine Below.drew ?_ | refine Hp.drewN ?_ _ | refine Below.setCell ?_ (by first | (simp; done) | (simp; omega) | omega) _ | refine Below.alloc ?_ (by first | (simp; done) | (simp; omega) | omega) _ | (refine Hp.step ?_ (by assumption))))⟩
            case measure => (simp [intOf] <;> omega)
        · obtain rfl : m = k := by omega
          have CS := chg_st hV.out t
          obtain ⟨ch, hch⟩ : ∃ ch, chg z (Bx.bf z m t) m = ch := ⟨_, rfl⟩
          rw [hch] at CS
          rw [hch]
          have HCS := Lib.hid CS
          clear hch CS
          cases ch with
          | true =>
            go_wp2_with (fail)
            go_roundw
            case rel => exact ⟨t + 1, g2, _, by omega, by go_num, rfl, P1.out, by omega, fun s hs => by
              by_cases e : s = t
              · rw [e]; exact fun h => by have := HCS.out.2 h; cases this
              · exact HST.out s (by omega), HB2.out.trans (HB4.out.mono sz2)⟩
            case measure => (simp [intOf] <;> omega)
          | false =>
            go_wp2_with (fail)
            go_ret2
            have st := HCS.out.1 (by trivial)
            exact .inl ⟨Bx.settles hV.out st, _, _, rfl, gL.out.congr fun j hj => Bx.settled hV.out st j hj, bl_next HB1.out (HB2.out.trans (HB4.out.mono sz2))⟩
    · obtain rfl : t = n + 1 := by omega
      go_wp2_with (fail)
      go_ret2
      exact .inr ⟨HST.out (n - 1) (by omega), rfl, bl_next HB1.out HB2.out⟩
end Go.Proofs.Ytieggiplbghecaa.BxW
