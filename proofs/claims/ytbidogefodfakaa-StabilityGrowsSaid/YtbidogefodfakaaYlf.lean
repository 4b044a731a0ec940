/- The law StabilityGrows of layer 48. -/
import Derived.Test.YtbidogefodfakaaYld
import Derived.Test.YtbidogefodfakaaYg
set_option linter.unusedVariables false
set_option linter.unusedSimpArgs false
namespace Go.Proofs.Ytbidogefodfakaa.YxW
open Go.RowKit Ls Orw Rw
set_option maxHeartbeats 2000000 in
theorem max_any (a : Option Addr) (n cap : Nat) (x : Nat → Int) (hn : 1 ≤ n) (hn2 : n ≤ 1000) (w : World) (S : Is w a n x) :
    Calls Try.prog 31 #[.slice a n cap] w fun e w' => e = .returned (.int .i64 (Yx.hiW x 0 n)) ∧ w = w' := by
  obtain ⟨b, o, rfl, hb, hc⟩ := S.addr (by omega)
  have HC := Lib.hid hc
  have c0 := hc 0 (by omega)
  have n1 : (1 : Int) ≤ (n : Int) := by omega
  have n3 : (n : Int) ≤ 1000 := by omega
  have H1 := Lib.hid (show Yx.hiW x 0 1 = x 0 by simp [Yx.hiW])
  obtain ⟨v, hv⟩ : ∃ v, x 0 = v := ⟨_, rfl⟩
  have HV := Lib.hid hv
  rw [hv, Nat.add_zero] at c0
  clear S hc hv
  go_enter Try.func31, Try.ntmps31
  go_wp2_with (fail)
  go_loop [4, 3] (fun c m => ∃ k : Nat, 1 ≤ k ∧ k ≤ n ∧ c = .int .i64 k ∧ m = .int .i64 (Yx.hiW x 0 k)) (fun c _ => n - (intOf c).toNat)
  case atStart => exact ⟨1, by omega, by omega, rfl, by rw [H1.out, HV.out]⟩
  case round =>
    obtain ⟨k, hk1, hk, rfl, rfl⟩ := hrel
    by_cases hlt : k < n
    · have ck := HC.out k hlt
      have HS := Lib.hid (show Yx.hiW x 0 (k + 1) = max (Yx.hiW x 0 k) (x (0 + k)) from rfl)
      obtain ⟨u, hu⟩ : ∃ v, x k = v := ⟨_, rfl⟩
      have HU := Lib.hid (show x (0 + k) = u by rw [Nat.zero_add]; exact hu)
      obtain ⟨m, hm⟩ : ∃ v, Yx.hiW x 0 k = v := ⟨_, rfl⟩
      have HM := Lib.hid hm
      rw [hu] at ck
      rw [hm]
      clear hu hm
      go_wp2_with (fail)
      go_round
      case rel => exact ⟨k + 1, by omega, by omega, by go_num, by rw [HS.out, HM.out, HU.out]⟩
      case measure => simp [intOf]; omega
    · obtain rfl : k = n := by omega
      go_wp2_with (fail)
      go_ret
      exact ⟨rfl, rfl⟩
set_option maxHeartbeats 2000000 in
theorem min_any (a : Option Addr) (n cap : Nat) (x : Nat → Int) (hn : 1 ≤ n) (hn2 : n ≤ 1000) (w : World) (S : Is w a n x) :
    Calls Try.prog 32 #[.slice a n cap] w fun e w' => e = .returned (.int .i64 (Yx.loW x 0 n)) ∧ w = w' := by
  obtain ⟨b, o, rfl, hb, hc⟩ := S.addr (by omega)
  have HC := Lib.hid hc
  have c0 := hc 0 (by omega)
  have n1 : (1 : Int) ≤ (n : Int) := by omega
  have n3 : (n : Int) ≤ 1000 := by omega
  have H1 := Lib.hid (show Yx.loW x 0 1 = x 0 by simp [Yx.loW])
  obtain ⟨v, hv⟩ : ∃ v, x 0 = v := ⟨_, rfl⟩
  have HV := Lib.hid hv
  rw [hv, Nat.add_zero] at c0
  clear S hc hv
  go_enter Try.func32, Try.ntmps32
  go_wp2_with (fail)
  go_loop [4, 3] (fun c m => ∃ k : Nat, 1 ≤ k ∧ k ≤ n ∧ c = .int .i64 k ∧ m = .int .i64 (Yx.loW x 0 k)) (fun c _ => n - (intOf c).toNat)
  case atStart => exact ⟨1, by omega, by omega, rfl, by rw [H1.out, HV.out]⟩
  case round =>
    obtain ⟨k, hk1, hk, rfl, rfl⟩ := hrel
    by_cases hlt : k < n
    · have ck := HC.out k hlt
      have HS := Lib.hid (show Yx.loW x 0 (k + 1) = min (Yx.loW x 0 k) (x (0 + k)) from rfl)
      obtain ⟨u, hu⟩ : ∃ v, x k = v := ⟨_, rfl⟩
      have HU := Lib.hid (show x (0 + k) = u by rw [Nat.zero_add]; exact hu)
      obtain ⟨m, hm⟩ : ∃ v, Yx.loW x 0 k = v := ⟨_, rfl⟩
      have HM := Lib.hid hm
      rw [hu] at ck
      rw [hm]
      clear hu hm
      go_wp2_with (fail)
      go_round
      case rel => exact ⟨k + 1, by omega, by omega, by go_num, by rw [HS.out, HM.out, HU.out]⟩
      case measure => simp [intOf]; omega
    · obtain rfl : k = n := by omega
      go_wp2_with (fail)
      go_ret
      exact ⟨rfl, rfl⟩
theorem rng_at {K N : Nat} {y : Nat → Int} (hc : Yx.chk K y = 0) (h1 : 1 ≤ N) (h2 : N < K) : Yx.rng K y N = Yx.gr y N (K - N) ∧ Yx.rngE K y N = 0 := by
  unfold Yx.rng Yx.rngE
  rw [if_pos ⟨hc, by omega, by omega⟩, if_pos hc, if_neg (by omega)]; simp
theorem rng_end {K : Nat} {y : Nat → Int} {m : Int} (hc : Yx.chk K y = 0) (h : (K : Int) ≤ m) : Yx.rng K y m = 0 ∧ Yx.rngE K y m = 3 := by
  unfold Yx.rng Yx.rngE
  rw [if_neg (by omega), if_pos hc, if_pos (by omega)]; exact ⟨rfl, rfl⟩
set_option maxHeartbeats 8000000 in
theorem law_StabilityGrows (a : Option Addr) (n cap : Nat) (zs : List Int) (w : World) (S : In.IsInts .i32 w a n cap zs) :
    Calls Try.prog 10 #[.slice a n cap] w fun e w' => e = .returned (.bool true) ∧ Below w.heap.size w w' := by
  obtain ⟨l1, l2⟩ := S.lens
  have h0 : a = none → n = 0 ∧ cap = 0 := fun h => by
    rcases S with ⟨_, p, q, _⟩ | ⟨x, hx, _⟩
    · exact ⟨p, q⟩
    · rw [h] at hx; cases hx
  have hx := xs_bd S
  obtain ⟨K, hK⟩ : ∃ K, min n 60 = K := ⟨_, rfl⟩
  have hKm : K ≤ 60 := by omega
  have hKn : K ≤ n := by omega
  have hmin : min (n : Int) 60 = (K : Int) := by omega
  have hx2 : ∀ i, i < K → -2147483648 ≤ xs zs i ∧ xs zs i ≤ 2147483647 := fun i hi => hx i (by omega)
  have ch1 := Yx.lin_chk (a := 0) (b := 0) (show K ≤ 1000 by omega) hx2 (by omega) (by omega) (by omega) (by omega)
  have bd := Yx.lin_bd (a := 0) (b := 0) (show K ≤ 1000 by omega) hx2 (by omega) (by omega) (by omega) (by omega)
  obtain ⟨y, hy⟩ : ∃ y, Yx.lin (xs zs) 0 0 = y := ⟨_, rfl⟩
  rw [hy] at ch1 bd
  have HY := Lib.hid hy; have BD := Lib.hid bd; have CH := Lib.hid ch1; have HX := Lib.hid hx2; have H0 := Lib.hid h0
  have HM : Hid (min K 1000 = K) := Lib.hid (by omega)
  have HI : Hid (I32 w a K (xs zs)) := Lib.hid ⟨fun i hi => (I32.of S).cells i (by omega)⟩
  have k1 : (K : Int) ≤ (cap : Int) := by omega
  have k2 : (cap : Int) ≤ 9223372036854775807 := by omega
  have k3 : (K : Int) ≤ 60 := by omega
  clear S h0 hx hx2 ch1 bd hK hy
  go_enter Try.func10, Try.ntmps10
  rcases a with _ | ad
  · obtain ⟨rfl, rfl⟩ := H0.out rfl
    obtain rfl : K = 0 := by omega
    have hm0 : min (0 : Int) 60 = 0 := by decide
    clear hmin
    go_wp2_with (fail)
    refine (line_any none 0 0 (xs zs) 0 0 _ ⟨fun i hi => by omega⟩ (by omega) (by omega) (fun _ => ⟨rfl, rfl⟩) (fun i hi => by omega) (by omega) (by omega) (by omega) (by omega)).mono ?_
    have hm00 : Hid (min 0 1000 = 0) := Lib.hid (by omega)
    rw [hm00.out, HY.out]
    rintro en w1 ⟨v1, c1, rfl, hcp, I1, _, B1⟩
    have HB1 := Lib.hid B1; have HL1 := Lib.hid I1
    have c0 : (0 : Int) ≤ (c1 : Int) := by omega
    clear I1 B1
    go_wp2_with (fail)
    go_loopw [5, 4] (fun c l wr => c = .int .i64 1 ∧ l = .int .i64 (Yx.lastR y 0 1) ∧ wr = w1) (fun _ _ _ => 0)
    case atStart => exact ⟨rfl, rfl, rfl⟩
    case round =>
      obtain ⟨rfl, rfl, rfl⟩ := hrel
      have HR1 := Lib.hid (rng_end (K := 0) (m := 1) CH.out (by decide)).1; have HR2 := Lib.hid (rng_end (K := 0) (m := 1) CH.out (by decide)).2
      go_wp2_with (fail)
      refine (range_any v1 0 c1 y 1 _ HL1.out hcp.1 hcp.2).mono ?_
      rw [HR1.out, HR2.out]
      rintro e w' ⟨rfl, nq, rfl⟩
      go_wp2_with (fail)
      refine (awake48_any _).mono ?_
      rintro en w4 ⟨rfl, B4⟩
      have HB4 := Lib.hid (bl_next HB1.out (Hp.step (w := wr) (by (repeat (first | exact Below.refl _ _ | refine Below.drew ?_ | refine Hp.drewN ?_ _ | refine Below.setCell ?_ (by first | (simp; done) | (simp; omega) | omega) _ | refine Below.alloc ?_ (by first | (simp; done) | (simp; omega) | omega) _ | (refine Hp.step ?_ (by assumption))))) B4))
      clear B4
      go_wp2_with (fail)
      go_ret
      exact ⟨rfl, HB4.out⟩
  · go_wp2_with (fail)
    refine (line_any (some ad) K cap (xs zs) 0 0 _ HI.out (by omega) l2 (fun h => by cases h) HX.out (by omega) (by omega) (by omega) (by omega)).mono ?_
    rw [HM.out, HY.out]
    rintro en w1 ⟨v1, c1, rfl, hcp, I1, _, B1⟩
    have HB1 := Lib.hid B1; have HL1 := Lib.hid I1
    clear I1 B1
    go_wp2_with (fail)
    go_loopw [5, 4] (fun c l wr => ∃ N : Nat, 1 ≤ N ∧ (N ≤ K ∨ N = 1) ∧ c = .int .i64 N ∧ l = .int .i64 (Yx.lastR y K N) ∧ ∃ q, wr = w1.drewN q) (fun c _ _ => K - (intOf c).toNat)
    case atStart => exact ⟨1, by omega, by omega, rfl, rfl, 0, rfl⟩
    case round =>
      obtain ⟨N, hN1, hN, rfl, rfl, q, rfl⟩ := hrel
      by_cases hlt : N < K
      · have R := rng_at CH.out hN1 hlt
        have hle := Yx.lastR_le y (len := K) hN1 hlt
        have HLs := Lib.hid (Yx.lastR_succ y (len := K) hN1)
        have HR1 := Lib.hid R.1; have HR2 := Lib.hid R.2
        obtain ⟨g, hg⟩ : ∃ g, Yx.gr y N (K - N) = g := ⟨_, rfl⟩
        obtain ⟨l, hl⟩ : ∃ g, Yx.lastR y K N = g := ⟨_, rfl⟩
        have HG := Lib.hid hg
        rw [hg, hl] at hle
        rw [hl]
        have nlt : ¬ g < l := by omega
        clear R hg hl hle
        go_wp2_with (fail)
        refine (range_any v1 K c1 y N _ (HL1.out.drewN _) hcp.1 hcp.2).mono ?_
        rw [HR1.out, HR2.out, HG.out]
        rintro e w' ⟨rfl, nq, rfl⟩
        go_wp2_with (fail)
        go_roundw
        case rel => exact ⟨N + 1, by omega, by omega, by go_num, by rw [HLs.out, HG.out], q + nq, by first | rfl | rw [World.drewN_drewN]⟩
        case measure => simp [intOf]; omega
      · obtain ⟨M, hM⟩ : ∃ M, max (K : Int) 1 = M := ⟨_, rfl⟩
        have hM2 : (K : Int) ≤ M := by omega
        have HR1 := Lib.hid (rng_end CH.out hM2).1; have HR2 := Lib.hid (rng_end CH.out hM2).2
        clear hM2
        go_wp2_with (fail)
        refine (range_any v1 K c1 y M _ (HL1.out.drewN _) hcp.1 hcp.2).mono ?_
        rw [HR1.out, HR2.out]
        rintro e w' ⟨rfl, nq, rfl⟩
        by_cases hK2 : K < 2
        · have k5 : (K : Int) < 2 := by omega
          go_wp2_with (fail)
          refine (awake48_any _).mono ?_
          rintro en w4 ⟨rfl, B4⟩
          have HB4 := Lib.hid (bl_next HB1.out (Hp.step (w := w1) (by (repeat (first | exact Below.refl _ _ | refine Below.drew ?_ | refine Hp.drewN ?_ _ | refine Below.setCell ?_ (by first | (simp; done) | (simp; omega) | omega) _ | refine Below.alloc ?_ (by first | (simp; done) | (simp; omega) | omega) _ | (refine Hp.step ?_ (by assumption))))) B4))
          clear B4
          go_wp2_with (fail)
          go_ret
          exact ⟨rfl, HB4.out⟩
        · obtain rfl : N = K := by omega
          have k5 : ¬ (N : Int) < 2 := by omega
          have HE := Lib.hid (Yx.lastR_end y (len := N) (by omega))
          have wb := Yx.win_bd BD.out (i := 0) (by omega) N (by omega)
          obtain ⟨p, hp⟩ : ∃ g, Yx.hiW y 0 N = g := ⟨_, rfl⟩
          obtain ⟨u, hu⟩ : ∃ g, Yx.loW y 0 N = g := ⟨_, rfl⟩
          have HP := Lib.hid hp; have HU := Lib.hid hu
          rw [hp, hu] at wb
          rw [HE.out, hp, hu]
          have w1a := wb.1; have w1b := wb.2.1; have w1c := wb.2.2.1; have w1d := wb.2.2.2
          clear hp hu wb
          go_wp2_with (fail)
          refine (max_any v1 N c1 y (by omega) (by omega) _ (HL1.out.drewN _)).mono ?_
          rw [HP.out]
          rintro e w' ⟨rfl, rfl⟩
          go_wp2_with (fail)
          refine (min_any v1 N c1 y (by omega) (by omega) _ (HL1.out.drewN _)).mono ?_
          rw [HU.out]
          rintro e w' ⟨rfl, rfl⟩
          go_wp2_with (fail)
          refine (awake48_any _).mono ?_
          rintro en w4 ⟨rfl, B4⟩
          have HB4 := Lib.hid (bl_next HB1.out (Hp.step (w := w1) (by (repeat (first | exact Below.refl _ _ | refine Below.drew ?_ | refine Hp.drewN ?_ _ | refine Below.setCell ?_ (by first | (simp; done) | (simp; omega) | omega) _ | refine Below.alloc ?_ (by first | (simp; done) | (simp; omega) | omega) _ | (refine Hp.step ?_ (by assumption))))) B4))
          clear B4
          go_wp2_with (fail)
          go_ret
          exact ⟨rfl, HB4.out⟩
end Go.Proofs.Ytbidogefodfakaa.YxW
