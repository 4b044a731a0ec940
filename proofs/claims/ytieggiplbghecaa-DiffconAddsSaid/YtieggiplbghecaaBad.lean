/- Contracts of layer 51: matrices of any shape; bounded, Add's errors. -/
import Derived.Test.YtieggiplbghecaaBaa
import Derived.Test.YtieggiplbghecaaIr
set_option linter.unusedVariables false
set_option linter.unusedSimpArgs false
namespace Go.Proofs.Ytieggiplbghecaa.BxW
open Go.RowKit Ls Orw Rv
/-- a slice of n rows, row i of L i numbers -/
structure Mg (w : World) (a : Option Addr) (n : Nat) (L : Nat → Nat) (f : Nat → Nat → Int) : Prop where
  c : n = 0 ∨ ∃ (b o : Nat) (A : Nat → Option Addr) (C : Nat → Nat), a = some ⟨b, o, none⟩ ∧ b < w.heap.size ∧ ∀ i, i < n → w.cell? ⟨b, o + i, none⟩ = some (.slice (A i) (L i) (C i)) ∧ Is w (A i) (L i) (f i)
theorem Mg.later {w w' : World} {a : Option Addr} {n : Nat} {L : Nat → Nat} {f : Nat → Nat → Int} (m : Mg w a n L f) (h : Below w.heap.size w w') : Mg w' a n L f := by
  rcases m.c with h0 | ⟨b, o, A, C, ha, hb, hc⟩
  · exact ⟨.inl h0⟩
  · exact ⟨.inr ⟨b, o, A, C, ha, Nat.lt_of_lt_of_le hb h.size, fun i hi => ⟨(h.cell (p := ⟨b, o + i, none⟩) hb).trans (hc i hi).1, (hc i hi).2.later h⟩⟩⟩
theorem Mg.row {w : World} {a : Option Addr} {n : Nat} {L : Nat → Nat} {f : Nat → Nat → Int} (m : Mg w a n L f) {i : Nat} (hi : i < n) :
    ∃ b o A C, a = some ⟨b, o, none⟩ ∧ b < w.heap.size ∧ w.cell? ⟨b, o + i, none⟩ = some (.slice A (L i) C) ∧ Is w A (L i) (f i) := by
  rcases m.c with h0 | ⟨b, o, A, C, ha, hb, hc⟩
  · omega
  · exact ⟨b, o, A i, C i, ha, hb, (hc i hi).1, (hc i hi).2⟩
theorem Mg.mr {w : World} {a : Option Addr} {n : Nat} {L : Nat → Nat} {f : Nat → Nat → Int} (m : Mg w a n L f) (h : ∀ i, i < n → L i = n) : Mr w a n f := by
  rcases m.c with h0 | ⟨b, o, A, C, ha, hb, hc⟩
  · exact ⟨.inl h0⟩
  · exact ⟨.inr ⟨b, o, A, C, ha, hb, fun i hi => by have := hc i hi; rw [h i hi] at this; exact this⟩⟩
theorem mg_of {w : World} {a : Option Addr} {n : Nat} {L : Nat → Nat} {f : Nat → Nat → Int} (h : In.IsRows .i64 w a n L f) : Mg w a n L f := by
  rcases h with h0 | ⟨b, o, A, C, ha, hb, hc⟩
  · exact ⟨.inl h0⟩
  · exact ⟨.inr ⟨b, o, A, C, ha, hb, fun i hi => ⟨(hc i hi).1, ⟨(hc i hi).2⟩⟩⟩⟩
def tri (x : Int) : Prop := x = 4611686018427387904 ∨ (-2305843009213693952 ≤ x ∧ x ≤ 2305843009213693952)
instance (x : Int) : Decidable (tri x) := by unfold tri; infer_instance
/-- a matrix that Add accepts -/
def OkM (n : Nat) (L : Nat → Nat) (f : Nat → Nat → Int) : Prop := 1 ≤ n ∧ n ≤ 160 ∧ ∀ i, i < n → L i = n ∧ f i i = 0 ∧ ∀ j, j < n → tri (f i j)
theorem OkM.bm {n : Nat} {L : Nat → Nat} {f : Nat → Nat → Int} (h : OkM n L f) : Bm n f := fun i j hi hj => ⟨(h.2.2 i hi).2.2 j hj, fun e => by rw [← e]; exact (h.2.2 i hi).2.1⟩
theorem OkM.sq {n : Nat} {L : Nat → Nat} {f : Nat → Nat → Int} (h : OkM n L f) : ∀ i, i < n → L i = n := fun i hi => (h.2.2 i hi).1
theorem int_ne {a b : Nat} (h : a ≠ b) : (((a : Int)) != (b : Int)) = true := by simp; omega
set_option maxHeartbeats 8000000 in
set_option maxRecDepth 4000 in
theorem bounded_no (a : Option Addr) (n c : Nat) (L : Nat → Nat) (f : Nat → Nat → Int) (w : World) (S : Mg w a n L f) (hn : n ≤ 200) (hno : ¬ OkM n L f) :
    Calls Try.prog 41 #[.slice a n c] w fun e w' => e = .returned (.bool false) ∧ Below w.heap.size w w' := by
  have hS := Lib.hid S; have HN := Lib.hid hno
  clear S hno
  by_cases i1 : (n : Int) < 1
  · go_enter Try.func41, Try.ntmps41
    go_wp2_with (fail)
    go_ret
    exact ⟨rfl, Below.refl _ _⟩
  by_cases i2 : 160 < (n : Int)
  · go_enter Try.func41, Try.ntmps41
    go_wp2_with (fail)
    go_ret
    exact ⟨rfl, Below.refl _ _⟩
  go_enter Try.func41, Try.ntmps41
  go_wp2_with (fail)
  go_loopw [17] (fun c wr => w = wr ∧ ∃ k : Nat, k ≤ n ∧ c = .int .i64 k ∧ ∀ i, i < k → L i = n ∧ f i i = 0 ∧ ∀ j, j < n → tri (f i j)) (fun c _ => n - (intOf c).toNat)
  case atStart => exact ⟨rfl, 0, by omega, rfl, fun i hi => by omega⟩
  case round =>
    obtain ⟨rfl, k, hk, rfl, hr⟩ := hrel
    have HR := Lib.hid hr
    clear hr
    by_cases hlt : k < n
    · obtain ⟨b, o, A, C, rfl, hbl, r1, I⟩ := hS.out.row hlt
      obtain ⟨l, hl⟩ : ∃ l, L k = l := ⟨_, rfl⟩
      have HL := Lib.hid hl
      rw [hl] at r1 I
      clear hl
      by_cases hln : l = n
      · subst hln
        obtain ⟨b2, o2, rfl, hb2, hc⟩ := I.addr (by omega)
        have HC := Lib.hid hc
        have d := hc k hlt
        obtain ⟨P, eP⟩ : ∃ P, f k k = P := ⟨_, rfl⟩
        have HP := Lib.hid eP
        rw [eP] at d
        clear I hc eP
        by_cases h0 : P = 0
        · subst h0
          go_wp2_with (fail)
          go_loopw [36] (fun c wr => w = wr ∧ ∃ j : Nat, j ≤ l ∧ c = .int .i64 j ∧ ∀ j', j' < j → tri (f k j')) (fun c _ => l - (intOf c).toNat)
          case atStart => exact ⟨rfl, 0, by omega, rfl, fun j hj => by omega⟩
          case round =>
            obtain ⟨rfl, j, hj, rfl, ht⟩ := hrel
            have HT := Lib.hid ht
            clear ht
            by_cases hlt2 : j < l
            · have c1 := HC.out j hlt2
              obtain ⟨P, eP⟩ : ∃ P, f k j = P := ⟨_, rfl⟩
              have HQ := Lib.hid eP
              rw [eP] at c1
              clear eP
              by_cases hP : P = 4611686018427387904
              · have hP2 : (P != 4611686018427387904) = false := by simpa using hP
                have T := Lib.hid (show tri P from .inl hP)
                clear hP
                go_wp2_with (fail)
                go_roundw
                case rel => exact ⟨by first | rfl | trivial, j + 1, by omega, by go_num, fun j' h' => by
                  by_cases e : j' = j
                  · rw [e, HQ.out]; exact T.out
                  · exact HT.out j' (by omega)⟩
                case measure => (simp [intOf] <;> omega)
              · have hP2 : (P != 4611686018427387904) = true := by simpa using hP
                clear hP
                by_cases p1 : P < -2305843009213693952
                · go_wp2_with (fail)
                  go_ret
                  exact ⟨rfl, Below.refl _ _⟩
                by_cases p2 : 2305843009213693952 < P
                · go_wp2_with (fail)
                  go_ret
                  exact ⟨rfl, Below.refl _ _⟩
                have T := Lib.hid (show tri P from .inr ⟨by omega, by omega⟩)
                go_wp2_with (fail)
                go_roundw
                case rel => exact ⟨by first | rfl | trivial, j + 1, by omega, by go_num, fun j' h' => by
                  by_cases e : j' = j
                  · rw [e, HQ.out]; exact T.out
                  · exact HT.out j' (by omega)⟩
                case measure => (simp [intOf] <;> omega)
            · obtain rfl : l = j := by omega
              go_wp2_with (fail)
              go_roundw
              case rel => exact ⟨by first | rfl | trivial, k + 1, by omega, by go_num, fun i hi => by
                by_cases e : i = k
                · rw [e]; exact ⟨HL.out, HP.out, HT.out⟩
                · exact HR.out i (by omega)⟩
              case measure => (simp [intOf] <;> omega)
        · have hP2 : (P != 0) = true := by simpa using h0
          clear h0
          go_wp2_with (fail)
          go_ret
          exact ⟨rfl, Below.refl _ _⟩
      · have hne := int_ne hln
        clear hln I
        go_wp2_with (fail)
        go_ret
        exact ⟨rfl, Below.refl _ _⟩
    · obtain rfl : n = k := by omega
      exact absurd ⟨by omega, by omega, HR.out⟩ HN.out
theorem valid_no {n A B W : Int} (h : okB n A B W = false) (w : World) : Calls Try.prog 34 #[.int .i64 n, .agg #[.int .i64 A, .int .i64 B, .int .i64 W]] w fun e w' => e = .returned (.bool false) ∧ Below w.heap.size w w' := by
  have := valid_any n A B W w
  rw [h] at this; exact this
set_option maxHeartbeats 4000000 in
theorem add_arg (a : Option Addr) (n c : Nat) (L : Nat → Nat) (f : Nat → Nat → Int) (A B W : Int) (w : World) (S : Mg w a n L f) (hn : n ≤ 200) (h : ¬ OkM n L f ∨ (OkM n L f ∧ okB n A B W = false)) :
    Calls Try.prog 29 #[.slice a n c, .agg #[.int .i64 A, .int .i64 B, .int .i64 W]] w (ErrPost 2 w) := by
  have hS := Lib.hid S
  have BA := Lib.hid (Below.alloc (Below.refl w.heap.size w) (Nat.le_refl _) (.cells #[.int .i64 A, .int .i64 B, .int .i64 W] 40))
  have CB : Hid ((w.alloc (.cells #[.int .i64 A, .int .i64 B, .int .i64 W] 40)).heap[w.heap.size]? = some (.cells #[.int .i64 A, .int .i64 B, .int .i64 W] 40 (0, 0))) := Lib.hid (Hp.blk_new _ _)
  clear S
  rcases h with h | ⟨h, h2⟩
  · have HN := Lib.hid h
    clear h
    go_enter Try.func29, Try.ntmps29
    go_wp2_with (fail)
    refine (bounded_no a n c L f _ (hS.out.later BA.out) hn HN.out).mono ?_
    rintro en w3 ⟨rfl, B3⟩
    have HB3 := Lib.hid (BA.out.trans (B3.mono BA.out.size))
    clear B3
    go_wp2_with (fail)
    go_ret2
    exact ⟨rfl, HB3.out⟩
  · have HN := Lib.hid h; have HV := Lib.hid h2
    have h160 := h.2.1; have h1 := h.1
    clear h h2
    go_enter Try.func29, Try.ntmps29
    go_wp2_with (fail)
    refine (bounded_yes a n c f _ ((hS.out.later BA.out).mr HN.out.sq) h1 h160 HN.out.bm).mono ?_
    rintro en w3 ⟨rfl, B3⟩
    have HB3 := Lib.hid (BA.out.trans (B3.mono BA.out.size)); have C3 := Lib.hid ((B3.block _ (Hp.blk_lt CB.out)).trans CB.out)
    have q0 := Hp.blk_cell (o := 0) C3.out rfl; have q1 := Hp.blk_cell (o := 1) C3.out rfl; have q2 := Hp.blk_cell (o := 2) C3.out rfl
    clear B3
    go_wp2_with (fail)
    refine (valid_no HV.out _).mono ?_
    rintro en w4 ⟨rfl, B4⟩
    have HB4 := Lib.hid (bl_next HB3.out B4)
    clear B4 q0 q1 q2
    go_wp2_with (fail)
    go_ret2
    exact ⟨rfl, HB4.out⟩
end Go.Proofs.Ytieggiplbghecaa.BxW
