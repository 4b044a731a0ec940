/- Contracts of layer 51: the reference's Add. -/
import Derived.Test.YtieggiplbghecaaBad
import Derived.Test.YtieggiplbghecaaBs
import Derived.StillTailTactics
set_option linter.unusedVariables false
set_option linter.unusedSimpArgs false
namespace Go.Proofs.Ytieggiplbghecaa.BxW
open Go.RowKit Ls Orw Rv Rw
theorem right_no {n A B W : Int} (h : okB n A B W = false) (w : World) : Calls Try.prog 35 #[.int .i64 n, .agg #[.int .i64 A, .int .i64 B, .int .i64 W]] w fun e w' => e = .returned (.bool false) ∧ Below w.heap.size w w' := by
  have := right_any n A B W w
  rw [h] at this; exact this
theorem right_yes {n A B W : Int} (h : okB n A B W = true) (w : World) : Calls Try.prog 35 #[.int .i64 n, .agg #[.int .i64 A, .int .i64 B, .int .i64 W]] w fun e w' => e = .returned (.bool true) ∧ Below w.heap.size w w' := by
  have := right_any n A B W w
  rw [h] at this; exact this
theorem parts4 (n : Nat) (A B W : Int) (L : Nat → Nat) (f : Nat → Nat → Int) (h : ¬ (OkM n L f ∧ okB n A B W = true)) :
    (n : Int) < 1 ∨ (1 ≤ (n : Int) ∧ 160 < (n : Int)) ∨ (1 ≤ (n : Int) ∧ ¬ 160 < (n : Int) ∧ okB n A B W = false) ∨ (1 ≤ (n : Int) ∧ ¬ 160 < (n : Int) ∧ okB n A B W = true ∧ ¬ OkM n L f) := by
  by_cases h1 : (n : Int) < 1
  · exact .inl h1
  by_cases h2 : 160 < (n : Int)
  · exact .inr (.inl ⟨by omega, h2⟩)
  cases h3 : okB n A B W with
  | false => exact .inr (.inr (.inl ⟨by omega, h2, rfl⟩))
  | true => exact .inr (.inr (.inr ⟨by omega, h2, rfl, fun g => h ⟨g, h3⟩⟩))
set_option maxHeartbeats 8000000 in
set_option maxRecDepth 4000 in
/-- the checks of the matrix: they end with an error, or go on to the end -/
theorem radd_arg (a : Option Addr) (n c : Nat) (L : Nat → Nat) (f : Nat → Nat → Int) (A B W : Int) (w : World) (S : Mg w a n L f) (hn : n ≤ 200) (h : ¬ (OkM n L f ∧ okB n A B W = true)) :
    Calls Try.prog 30 #[.slice a n c, .agg #[.int .i64 A, .int .i64 B, .int .i64 W]] w (ErrPost 2 w) := by
  have hS := Lib.hid S
  have BA := Lib.hid (Below.alloc (Below.refl w.heap.size w) (Nat.le_refl _) (.cells #[.int .i64 A, .int .i64 B, .int .i64 W] 40))
  have CB : Hid ((w.alloc (.cells #[.int .i64 A, .int .i64 B, .int .i64 W] 40)).heap[w.heap.size]? = some (.cells #[.int .i64 A, .int .i64 B, .int .i64 W] 40 (0, 0))) := Lib.hid (Hp.blk_new _ _)
  clear S
  rcases parts4 n A B W L f h with h1 | ⟨h1, h2⟩ | ⟨h1, h2, h3⟩ | ⟨h1, h2, h3, h4⟩
  · clear h
    go_enter Try.func30, Try.ntmps30
    go_wp2_with (fail)
    go_ret2
    exact ⟨rfl, BA.out⟩
  · clear h
    have h1' : ¬ (n : Int) < 1 := by omega
    go_enter Try.func30, Try.ntmps30
    go_wp2_with (fail)
    go_ret2
    exact ⟨rfl, BA.out⟩
  · have HV := Lib.hid h3
    have h1' : ¬ (n : Int) < 1 := by omega
    clear h h3
    go_enter Try.func30, Try.ntmps30
    go_wp2_with (fail)
    refine (right_no HV.out _).mono ?_
    rintro en w3 ⟨rfl, B3⟩
    have HB3 := Lib.hid (BA.out.trans (B3.mono BA.out.size))
    clear B3
    go_wp2_with (fail)
    go_ret2
    exact ⟨rfl, HB3.out⟩
  have HV := Lib.hid h3; have HN := Lib.hid h4
  have h1' : ¬ (n : Int) < 1 := by omega
  clear h h3 h4
  go_enter Try.func30, Try.ntmps30
  go_wp2_with (fail)
  refine (right_yes HV.out _).mono ?_
  rintro en w3 ⟨rfl, B3⟩
  have HB3 := Lib.hid (BA.out.trans (B3.mono BA.out.size))
  clear B3
  have S3 := Lib.hid (hS.out.later HB3.out)
  go_wp2_with (fail)
  go_loopw [7] (fun c wr => w3 = wr ∧ ∃ k : Nat, k ≤ n ∧ c = .int .i64 k ∧ ∀ i, i < k → L i = n ∧ f i i = 0 ∧ ∀ j, j < n → tri (f i j)) (fun c _ => n - (intOf c).toNat)
  case atStart => exact ⟨rfl, 0, by omega, rfl, fun i hi => by omega⟩
  case round =>
    obtain ⟨rfl, k, hk, rfl, hr⟩ := hrel
    have HR := Lib.hid hr
    clear hr
    by_cases hlt : k < n
    · obtain ⟨b, o, RA, RC, rfl, hbl, r1, I⟩ := S3.out.row hlt
      obtain ⟨l, hl⟩ : ∃ l, L k = l := ⟨_, rfl⟩
      have HL := Lib.hid hl
      rw [hl] at r1 I
      clear hl
      by_cases hln : l = n
      · subst hln
        obtain ⟨b2, o2, rfl, hb2, hc⟩ := I.addr (by omega)
        have HC := Lib.hid hc
        clear I hc
        go_wp2_with (fail)
        go_loopw [8] (fun c wr => w3 = wr ∧ ∃ j : Nat, j ≤ l ∧ c = .int .i64 j ∧ ∀ j', j' < j → tri (f k j') ∧ (j' = k → f k j' = 0)) (fun c _ => l - (intOf c).toNat)
        case atStart => exact ⟨rfl, 0, by omega, rfl, fun j hj => by omega⟩
        case round =>
          obtain ⟨rfl, j, hj, rfl, ht⟩ := hrel
          have HT := Lib.hid ht
          clear ht
          by_cases hlt2 : j < l
          · have c1 := HC.out j hlt2
            obtain ⟨P, eP⟩ : ∃ P, f k j = P := ⟨_, rfl⟩
            have HQ := Lib.hid eP
            rw [eP] at c1
            clear eP
            have kk : (((k : Int)) == (j : Int)) = false ∧ k ≠ j ∨ (((k : Int)) == (j : Int)) = true ∧ k = j := by
              by_cases e : k = j
              · exact .inr ⟨by simp [e], e⟩
              · exact .inl ⟨by simp; omega, e⟩
            have pp : ((P != 4611686018427387904) = true ∧ P < -2305843009213693952) ∨ ((P != 4611686018427387904) = true ∧ ¬ P < -2305843009213693952 ∧ 2305843009213693952 < P) ∨ (tri P ∧ ((P != 4611686018427387904) = false ∨ ((P != 4611686018427387904) = true ∧ ¬ P < -2305843009213693952 ∧ ¬ 2305843009213693952 < P))) := by
              unfold tri
              by_cases a1 : P = 4611686018427387904
              · exact .inr (.inr ⟨.inl a1, .inl (by simpa using a1)⟩)
              · have a1' : (P != 4611686018427387904) = true := by simpa using a1
                by_cases a3 : P < -2305843009213693952
                · exact .inl ⟨a1', a3⟩
                by_cases a4 : 2305843009213693952 < P
                · exact .inr (.inl ⟨a1', a3, a4⟩)
                exact .inr (.inr ⟨.inr (by omega), .inr ⟨a1', a3, a4⟩⟩)
            have zz : (P != 0) = true ∨ ((P != 0) = false ∧ P = 0) := by
              by_cases e : P = 0
              · exact .inr ⟨by simpa using e, e⟩
              · exact .inl (by simpa using e)
            rcases pp with ⟨k1, k2⟩ | ⟨k1, k2, k3⟩ | ⟨T, k4⟩
            · go_wp2_with (fail)
              go_ret2
              exact ⟨rfl, HB3.out⟩
            · go_wp2_with (fail)
              go_ret2
              exact ⟨rfl, HB3.out⟩
            · have HT2 := Lib.hid T
              clear T
              rcases kk with ⟨kk, ke⟩ | ⟨kk, ke⟩
              · have NX := Lib.hid (show ∀ j', j' < j + 1 → tri (f k j') ∧ (j' = k → f k j' = 0) from fun j' h' => by
                  by_cases e : j' = j
                  · rw [e, HQ.out]; exact ⟨HT2.out, fun g => absurd g.symm ke⟩
                  · exact HT.out j' (by omega))
                clear zz ke
                rcases k4 with k4 | ⟨k4, k5, k6⟩
                all_goals
                  go_wp2_with (fail)
                  go_roundw
                  case rel => exact ⟨by first | rfl | trivial, j + 1, by omega, by go_num, NX.out⟩
                  case measure => (simp [intOf] <;> omega)
              · rcases zz with zz | ⟨zz, ze⟩
                · clear ke
                  rcases k4 with k4 | ⟨k4, k5, k6⟩
                  all_goals
                    go_wp2_with (fail)
                    go_ret2
                    exact ⟨rfl, HB3.out⟩
                · have NX := Lib.hid (show ∀ j', j' < j + 1 → tri (f k j') ∧ (j' = k → f k j' = 0) from fun j' h' => by
                    by_cases e : j' = j
                    · rw [e, HQ.out]; exact ⟨HT2.out, fun _ => ze⟩
                    · exact HT.out j' (by omega))
                  clear ke ze
                  rcases k4 with k4 | ⟨k4, k5, k6⟩
                  all_goals
                    go_wp2_with (fail)
                    go_roundw
                    case rel => exact ⟨by first | rfl | trivial, j + 1, by omega, by go_num, NX.out⟩
                    case measure => (simp [intOf] <;> omega)
          · obtain rfl : l = j := by omega
            go_wp2_with (fail)
            go_roundw
            case rel => exact ⟨by first | rfl | trivial, k + 1, by omega, by go_num, fun i hi => by
              by_cases e : i = k
              · rw [e]; exact ⟨HL.out, (HT.out k hlt).2 rfl, fun j hj => (HT.out j hj).1⟩
              · exact HR.out i (by omega)⟩
            case measure => (simp [intOf] <;> omega)
      · have hne := int_ne hln
        clear hln I
        go_wp2_with (fail)
        go_ret2
        exact ⟨rfl, HB3.out⟩
    · obtain rfl : n = k := by omega
      exact absurd ⟨by omega, by omega, HR.out⟩ HN.out
end Go.Proofs.Ytieggiplbghecaa.BxW
