/- The law DiffconAdds of layer 51. -/
import Derived.Test.YtieggiplbghecaaBp
import Derived.Test.YtieggiplbghecaaBaf
import Derived.Deep.DeepCutAuto
import Derived.Outline
set_option linter.unusedVariables false
set_option linter.unusedSimpArgs false
namespace Go.Proofs.Ytieggiplbghecaa.BxW
open Go.RowKit Ls Orw Rv Rw
theorem mr_none (w : World) (f : Nat → Nat → Int) : Mr w none 0 f := ⟨.inl rfl⟩
set_option maxHeartbeats 16000000 in
set_option maxRecDepth 4000 in
theorem adds_walk (a : Option Addr) (n c : Nat) (L : Nat → Nat) (f : Nat → Nat → Int) (A B W : Int) (w : World) (S : Mg w a n L f) :
    Calls Try.prog 9 #[.slice a n c, .agg #[.int .i64 A, .int .i64 B, .int .i64 W]] w fun e w' => e = .returned (.bool true) ∧ Below w.heap.size w w' := by
  have BA := Lib.hid (Below.alloc (Below.refl w.heap.size w) (Nat.le_refl _) (.cells #[.int .i64 A, .int .i64 B, .int .i64 W] 40))
  have CB : Hid ((w.alloc (.cells #[.int .i64 A, .int .i64 B, .int .i64 W] 40)).heap[w.heap.size]? = some (.cells #[.int .i64 A, .int .i64 B, .int .i64 W] 40 (0, 0))) := Lib.hid (Hp.blk_new _ _)
  have hS := Lib.hid (S.later BA.out)
  clear S
  by_cases h200 : 200 < (n : Int)
  · go_enter Try.func9, Try.ntmps9
    go_wp2_with (fail)
    refine (awake51_any _).mono ?_
    rintro en w3 ⟨rfl, B3⟩
    have HB3 := Lib.hid (bl_next BA.out B3)
    clear B3
    go_wp2_with (fail)
    go_ret
    exact ⟨rfl, HB3.out⟩
  have n200 : n ≤ 200 := by omega
  obtain ⟨wa, hwa⟩ : ∃ wa, w.alloc (.cells #[.int .i64 A, .int .i64 B, .int .i64 W] 40) = wa := ⟨_, rfl⟩
  rw [hwa] at BA CB hS
  have c0 := Hp.blk_cell (o := 0) CB.out rfl; have c1 := Hp.blk_cell (o := 1) CB.out rfl; have c2 := Hp.blk_cell (o := 2) CB.out rfl
  go_enter Try.func9, Try.ntmps9
  go_upto_region 1 with (fail)
  clear hwa
  go_wp2_with (fail)
  go_loopw [17] (fun c wr => wa = wr ∧ ∃ k : Nat, k ≤ n ∧ c = .int .i64 k) (fun c _ => n - (intOf c).toNat)
  case atStart => exact ⟨rfl, 0, by omega, rfl⟩
  case round =>
    obtain ⟨rfl, k, hk, rfl⟩ := hrel
    by_cases hlt : k < n
    · obtain ⟨b, o, RA, RC, rfl, hbl, r1, I⟩ := hS.out.row hlt
      obtain ⟨l, hl⟩ : ∃ l, L k = l := ⟨_, rfl⟩
      rw [hl] at r1
      clear hl I
      by_cases hl2 : 200 < (l : Int)
      · go_wp2_with (fail)
        refine (awake51_any _).mono ?_
        rintro en w3 ⟨rfl, B3⟩
        have HB3 := Lib.hid (bl_next BA.out B3)
        clear B3
        go_wp2_with (fail)
        go_ret
        exact ⟨rfl, HB3.out⟩
      · go_wp2_with (fail)
        go_roundw
        case rel => exact ⟨by first | rfl | trivial, k + 1, by omega, by go_num⟩
        case measure => (simp [intOf] <;> omega)
    · obtain rfl : n = k := by omega
      by_cases hok : OkM n L f ∧ okB n A B W = true
      · obtain ⟨hM, hV⟩ := hok
        have nn2 : n ≤ 160 := hM.2.1
        have okc := okB_iff.1 hV
        have HM := Lib.hid hM
        obtain ⟨A', rfl⟩ := Int.eq_ofNat_of_zero_le okc.1
        obtain ⟨B', rfl⟩ := Int.eq_ofNat_of_zero_le okc.2.2.1
        have hA' : A' < n := by omega
        have hB' : B' < n := by omega
        have v1 := okc.2.2.2.2.1; have v2 := okc.2.2.2.2.2
        clear hM hV okc
        go_wp2_with (fail)
        refine (add_two a n c f A' B' W hA' hB' v1 v2 _ (hS.out.mr HM.out.sq) nn2 HM.out.bm).mono ?_
        rintro en w3 (⟨cy, rfl, B3⟩ | ⟨nc, g3, rfl, M3, hg3, B3⟩)
        · have HB3 := Lib.hid (bl_next BA.out B3); have HC := Lib.hid cy; have S3 := Lib.hid (hS.out.later B3); have C3 := Lib.hid ((B3.block _ (Hp.blk_lt CB.out)).trans CB.out)
          have d0 := Hp.blk_cell (o := 0) C3.out rfl; have d1 := Hp.blk_cell (o := 1) C3.out rfl; have d2 := Hp.blk_cell (o := 2) C3.out rfl
          clear B3 cy c0 c1 c2
          go_wp2_with (fail)
          refine (radd_two a n c L f A' B' W hA' hB' v1 v2 _ S3.out HM.out).mono ?_
          rintro en w4 (⟨_, rfl, B4⟩ | ⟨nc, _⟩)
          rotate_left
          · exact absurd HC.out nc
          have HB4 := Lib.hid (bl_next HB3.out B4)
          clear B4 d0 d1 d2
          go_wp2_with (fail)
          refine (same_eq _ (mr_none _ exw) (mr_none _ exw) (by omega)).mono ?_
          rintro en w5 ⟨rfl, q, rfl⟩
          have HB5 := Lib.hid (Hp.drewN HB4.out q)
          go_wp2_with (fail)
          refine (awake51_any _).mono ?_
          rintro en w6 ⟨rfl, B6⟩
          have HB6 := Lib.hid (bl_next HB5.out B6)
          clear B6
          go_wp2_with (fail)
          go_ret
          exact ⟨rfl, HB6.out⟩
        · have HB3 := Lib.hid (bl_next BA.out B3); have HC := Lib.hid nc; have S3 := Lib.hid (hS.out.later B3); have C3 := Lib.hid ((B3.block _ (Hp.blk_lt CB.out)).trans CB.out); have R3 := Lib.hid M3.mr
          have d0 := Hp.blk_cell (o := 0) C3.out rfl; have d1 := Hp.blk_cell (o := 1) C3.out rfl; have d2 := Hp.blk_cell (o := 2) C3.out rfl
          clear B3 nc c0 c1 c2 M3
          go_wp2_with (fail)
          refine (radd_two a n c L f A' B' W hA' hB' v1 v2 _ S3.out HM.out).mono ?_
          rintro en w4 (⟨cy, _⟩ | ⟨_, g4, rfl, M4, B4⟩)
          · exact absurd cy HC.out
          have HB4 := Lib.hid (bl_next HB3.out B4); have R4 := Lib.hid (R3.out.later B4); have Q4 := Lib.hid M4
          clear B4 d0 d1 d2 M4
          go_wp2_with (fail)
          refine (same_eq _ R4.out Q4.out (by omega)).mono ?_
          rintro en w5 ⟨rfl, q, rfl⟩
          have HB5 := Lib.hid (Hp.drewN HB4.out q)
          go_wp2_with (fail)
          refine (awake51_any _).mono ?_
          rintro en w6 ⟨rfl, B6⟩
          have HB6 := Lib.hid (bl_next HB5.out B6)
          clear B6
          go_wp2_with (fail)
          go_ret
          exact ⟨rfl, HB6.out⟩
      · have HN := Lib.hid hok
        have HN2 : Hid (¬ OkM n L f ∨ (OkM n L f ∧ okB n A B W = false)) := Lib.hid (by
          by_cases h : OkM n L f
          · cases hb : okB n A B W with
            | true => exact absurd ⟨h, hb⟩ hok
            | false => exact .inr ⟨h, rfl⟩
          · exact .inl h)
        clear hok
        go_wp2_with (fail)
        refine (add_arg a n c L f A B W _ hS.out n200 HN2.out).mono ?_
        rintro en w3 ⟨rfl, B3⟩
        have HB3 := Lib.hid (bl_next BA.out B3); have S3 := Lib.hid (hS.out.later B3); have C3 := Lib.hid ((B3.block _ (Hp.blk_lt CB.out)).trans CB.out)
        have d0 := Hp.blk_cell (o := 0) C3.out rfl; have d1 := Hp.blk_cell (o := 1) C3.out rfl; have d2 := Hp.blk_cell (o := 2) C3.out rfl
        clear B3 c0 c1 c2
        go_wp2_with (fail)
        refine (radd_arg a n c L f A B W _ S3.out n200 HN.out).mono ?_
        rintro en w4 ⟨rfl, B4⟩
        have HB4 := Lib.hid (bl_next HB3.out B4)
        clear B4 d0 d1 d2
        go_wp2_with (fail)
        refine (same_eq _ (mr_none _ exw) (mr_none _ exw) (by omega)).mono ?_
        rintro en w5 ⟨rfl, q, rfl⟩
        have HB5 := Lib.hid (Hp.drewN HB4.out q)
        go_wp2_with (fail)
        refine (awake51_any _).mono ?_
        rintro en w6 ⟨rfl, B6⟩
        have HB6 := Lib.hid (bl_next HB5.out B6)
        clear B6
        go_wp2_with (fail)
        go_ret
        exact ⟨rfl, HB6.out⟩
theorem law_DiffconAdds (a : Option Addr) (n c : Nat) (L : Nat → Nat) (f : Nat → Nat → Int) (A B W : Int) (w : World) (S : In.IsRows .i64 w a n L f) :
    Calls Try.prog 9 #[.slice a n c, .agg #[.int .i64 A, .int .i64 B, .int .i64 W]] w fun e w' => e = .returned (.bool true) ∧ Below w.heap.size w w' :=
  adds_walk a n c L f A B W w (mg_of S)
end Go.Proofs.Ytieggiplbghecaa.BxW
