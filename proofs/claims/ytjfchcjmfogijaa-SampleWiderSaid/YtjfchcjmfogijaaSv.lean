/- Contracts of package sample and its reference: Distance, Bounds, small ones. -/
import Derived.Test.YtjfchcjmfogijaaSw
import Derived.Test.YtjfchcjmfogijaaRm
set_option linter.unusedVariables false
set_option linter.unusedSimpArgs false
namespace Go.Proofs.Ytjfchcjmfogijaa.FxW
open Go.RowKit

set_option maxHeartbeats 400000 in
theorem istime_any (t : Int) (w : World) : Calls Try.prog 22 #[.int .i64 t] w fun e w' => e = .returned (.bool (Sx.timeB t)) ∧ w = w' := by
  by_cases h : -4503599627370496 ≤ t
  · by_cases h' : t ≤ 4503599627370496
    · have F := Lib.hid (Sx.timeB_iff.2 ⟨h, h'⟩)
      go_enter Try.func22, Try.ntmps22
      go_wp2
      go_ret
      exact ⟨ret_bool F.out.symm, rfl⟩
    · have F := Lib.hid (show Sx.timeB t = false from decide_eq_false (by omega))
      go_enter Try.func22, Try.ntmps22
      go_wp2
      go_ret
      exact ⟨ret_bool F.out.symm, rfl⟩
  · have F := Lib.hid (show Sx.timeB t = false from decide_eq_false (by omega))
    go_enter Try.func22, Try.ntmps22
    go_wp2
    go_ret
    exact ⟨ret_bool F.out.symm, rfl⟩
set_option maxHeartbeats 400000 in
theorem ristime_any (t : Int) (w : World) : Calls Try.prog 26 #[.int .i64 t] w fun e w' => e = .returned (.bool (Sx.timeB t)) ∧ w = w' := by
  by_cases h : -4503599627370496 ≤ t
  · by_cases h' : t ≤ 4503599627370496
    · have F := Lib.hid (Sx.timeB_iff.2 ⟨h, h'⟩)
      go_enter Try.func26, Try.ntmps26
      go_wp2
      go_ret
      exact ⟨ret_bool F.out.symm, rfl⟩
    · have F := Lib.hid (show Sx.timeB t = false from decide_eq_false (by omega))
      go_enter Try.func26, Try.ntmps26
      go_wp2
      go_ret
      exact ⟨ret_bool F.out.symm, rfl⟩
  · have F := Lib.hid (show Sx.timeB t = false from decide_eq_false (by omega))
    go_enter Try.func26, Try.ntmps26
    go_wp2
    go_ret
    exact ⟨ret_bool F.out.symm, rfl⟩
set_option maxHeartbeats 400000 in
theorem istol_any (t : Int) (w : World) : Calls Try.prog 23 #[.int .i64 t] w fun e w' => e = .returned (.bool (Sx.tolB t)) ∧ w = w' := by
  by_cases h : 0 ≤ t
  · by_cases h' : t ≤ 500000
    · have F := Lib.hid (Sx.tolB_iff.2 ⟨h, h'⟩)
      go_enter Try.func23, Try.ntmps23
      go_wp2
      go_ret
      exact ⟨ret_bool F.out.symm, rfl⟩
    · have F := Lib.hid (show Sx.tolB t = false from decide_eq_false (by omega))
      go_enter Try.func23, Try.ntmps23
      go_wp2
      go_ret
      exact ⟨ret_bool F.out.symm, rfl⟩
  · have F := Lib.hid (show Sx.tolB t = false from decide_eq_false (by omega))
    go_enter Try.func23, Try.ntmps23
    go_wp2
    go_ret
    exact ⟨ret_bool F.out.symm, rfl⟩
set_option maxHeartbeats 400000 in
theorem ristol_any (t : Int) (w : World) : Calls Try.prog 27 #[.int .i64 t] w fun e w' => e = .returned (.bool (Sx.tolB t)) ∧ w = w' := by
  by_cases h : 0 ≤ t
  · by_cases h' : t ≤ 500000
    · have F := Lib.hid (Sx.tolB_iff.2 ⟨h, h'⟩)
      go_enter Try.func27, Try.ntmps27
      go_wp2
      go_ret
      exact ⟨ret_bool F.out.symm, rfl⟩
    · have F := Lib.hid (show Sx.tolB t = false from decide_eq_false (by omega))
      go_enter Try.func27, Try.ntmps27
      go_wp2
      go_ret
      exact ⟨ret_bool F.out.symm, rfl⟩
  · have F := Lib.hid (show Sx.tolB t = false from decide_eq_false (by omega))
    go_enter Try.func27, Try.ntmps27
    go_wp2
    go_ret
    exact ⟨ret_bool F.out.symm, rfl⟩
set_option maxHeartbeats 400000 in
theorem sgrowth_any (d t : Int) (h0 : 0 ≤ d) (h1 : d ≤ 9007199254740992) (t0 : 0 ≤ t) (t1 : t ≤ 500000) (w : World) :
    Calls Try.prog 25 #[.int .i64 d, .int .i64 t] w fun e w' => e = .returned (.int .i64 (Sx.gr d t)) ∧ ∃ n, w' = w.drewN n := by
  obtain ⟨g1, g2, g3, _, _⟩ := Sx.gr_facts d t h0 h1 t0 t1
  have G := Lib.hid g1
  clear g1
  go_enter Try.func25, Try.ntmps25
  go_wp2_with (go_at_call 33; refine (muldiv_any _ _ _ (by omega) (by omega) (by omega) (by omega) (by omega) (by omega) _).mono ?_; rw [G.out]; rintro e w' ⟨rfl, nq, rfl⟩)
  go_ret
  exact ⟨rfl, nq, rfl⟩
set_option maxHeartbeats 400000 in
theorem rgrowth_any (d t : Int) (h0 : 0 ≤ d) (h1 : d ≤ 9007199254740992) (t0 : 0 ≤ t) (t1 : t ≤ 500000) (w : World) :
    Calls Try.prog 29 #[.int .i64 d, .int .i64 t] w fun e w' => e = .returned (.int .i64 (Sx.gr d t)) ∧ w = w' := by
  obtain ⟨g1, g2, g3, _, _⟩ := Sx.gr_facts d t h0 h1 t0 t1
  have G := Lib.hid g1
  clear g1
  go_enter Try.func29, Try.ntmps29
  go_wp2_with (go_at_call 34; refine (rmuldiv_any _ _ _ (by omega) (by omega) (by omega) (by omega) (by omega) (by omega) _).mono ?_; rw [G.out]; rintro e w' ⟨rfl, rfl⟩)
  go_ret
  exact ⟨rfl, rfl⟩
set_option maxHeartbeats 2000000 in
theorem sdist_any (o d p t : Int) (w : World) :
    Calls Try.prog 15 #[.agg #[.int .i64 o, .int .i64 d, .int .i64 p, .int .i64 t]] w fun e w' => e = .returned (.int .i64 (Sx.dist o d p t)) ∧ Below w.heap.size w w' := by
  by_cases h : Sx.okS o d p t = true
  · obtain ⟨h1, h2, h3, h4, h5, h6, h7, h8⟩ := Sx.okS_iff.1 h
    have D := Lib.hid (Sx.dist_ok h)
    have C := Lib.hid (Sx.chk_ok h)
    have e1 := Sx.ce_half d h3 h4
    clear h
    go_enter Try.func15, Try.ntmps15
    go_wp2_with (first | (go_at_call 13; refine (scheck_any _ _ _ _ _).mono ?_; rw [C.out]; rintro e w1 ⟨rfl, hb⟩; obtain ⟨hc, hf⟩ := Hp.bcell hb; have hz := hb.size; simp at hz; have hz0 : w.heap.size < w1.heap.size := (by omega); try (have hz1 : w.heap.size + 1 < w1.heap.size := by omega)) | (go_at_call 31; refine (ceil_any _ _ (by omega) (by omega) (by omega) (by omega) _).mono ?_; rintro e w2 ⟨rfl, nq, rfl⟩))
    go_ret
    refine ⟨ret_int D.out.symm, ?_⟩
    (repeat (first | exact Below.refl _ _ | refine Below.drew ?_ | refine Hp.drewN ?_ _ | refine Below.setCell ?_ (by simp) _ | refine Below.alloc ?_ (by simp) _ | (refine Hp.step ?_ (by assumption))))
  · have h : Sx.okS o d p t = false := by simpa using h
    have D := Lib.hid (Sx.dist_no h)
    have C := Lib.hid (Sx.chk_no h)
    clear h
    go_enter Try.func15, Try.ntmps15
    go_wp2_with (first | (go_at_call 13; refine (scheck_any _ _ _ _ _).mono ?_; rw [C.out]; rintro e w1 ⟨rfl, hb⟩; obtain ⟨hc, hf⟩ := Hp.bcell hb; have hz := hb.size; simp at hz; have hz0 : w.heap.size < w1.heap.size := (by omega); try (have hz1 : w.heap.size + 1 < w1.heap.size := by omega)))
    go_ret
    refine ⟨ret_int D.out.symm, ?_⟩
    (repeat (first | exact Below.refl _ _ | refine Below.drew ?_ | refine Hp.drewN ?_ _ | refine Below.setCell ?_ (by simp) _ | refine Below.alloc ?_ (by simp) _ | (refine Hp.step ?_ (by assumption))))
set_option maxHeartbeats 2000000 in
theorem sbounds_any (o d p t : Int) (w : World) :
    Calls Try.prog 17 #[.agg #[.int .i64 o, .int .i64 d, .int .i64 p, .int .i64 t]] w fun e w' => e = .returned (.agg #[.int .i64 (Sx.bLo o d p t), .int .i64 (Sx.bHi o d p t)]) ∧ Below w.heap.size w w' := by
  by_cases h : Sx.okS o d p t = true
  · obtain ⟨h1, h2, h3, h4, h5, h6, h7, h8⟩ := Sx.okS_iff.1 h
    have D := Sx.dist_ok h
    have d0 : 0 ≤ Sx.dist o d p t := by omega
    have d1 : Sx.dist o d p t ≤ 18014398509481984 := by omega
    have C := Lib.hid (Sx.chk_ok h)
    have L := Lib.hid (Sx.bLo_ok h)
    have H := Lib.hid (Sx.bHi_ok h)
    clear h D
    go_enter Try.func17, Try.ntmps17
    go_wp2_with (first | (go_at_call 13; refine (scheck_any _ _ _ _ _).mono ?_; rw [C.out]; rintro e w1 ⟨rfl, hb⟩; obtain ⟨hc, hf⟩ := Hp.bcell hb; have hz := hb.size; simp at hz; have hz0 : w.heap.size < w1.heap.size := (by omega); try (have hz1 : w.heap.size + 1 < w1.heap.size := by omega)) | (go_at_call 15; refine (sdist_any _ _ _ _ _).mono ?_; rintro e w2 ⟨rfl, hb2⟩; obtain ⟨hc2, hf2⟩ := Hp.bcell hb2; have hy := hb2.size; have hy0 : w.heap.size < w2.heap.size := (by omega); have hy1 : w.heap.size + 1 < w2.heap.size := by omega))
    refine bodyPost_ret (v := .agg #[.int .i64 (o - Sx.dist o d p t), .int .i64 (o + Sx.dist o d p t)]) (by simp [results, Try.results17, go_sem, hc, hz0, hc2, hy0, hz1, hy1]) rfl ⟨by rw [L.out, H.out], ?_⟩
    (repeat (first | exact Below.refl _ _ | refine Below.drew ?_ | refine Hp.drewN ?_ _ | refine Below.setCell ?_ (by simp) _ | refine Below.alloc ?_ (by simp) _ | (refine Hp.step ?_ (by assumption))))
  · have h : Sx.okS o d p t = false := by simpa using h
    have C := Lib.hid (Sx.chk_no h)
    have L := Lib.hid (Sx.bLo_no h)
    have H := Lib.hid (Sx.bHi_no h)
    clear h
    go_enter Try.func17, Try.ntmps17
    go_wp2_with (first | (go_at_call 13; refine (scheck_any _ _ _ _ _).mono ?_; rw [C.out]; rintro e w1 ⟨rfl, hb⟩; obtain ⟨hc, hf⟩ := Hp.bcell hb; have hz := hb.size; simp at hz; have hz0 : w.heap.size < w1.heap.size := (by omega); have hz1 : w.heap.size + 1 < w1.heap.size := by omega))
    refine bodyPost_ret (v := .agg #[.int .i64 0, .int .i64 0]) (by simp [results, Try.results17, go_sem, hc, hz0, hz1]) rfl ⟨by rw [L.out, H.out], ?_⟩
    (repeat (first | exact Below.refl _ _ | refine Below.drew ?_ | refine Hp.drewN ?_ _ | refine Below.setCell ?_ (by simp) _ | refine Below.alloc ?_ (by simp) _ | (refine Hp.step ?_ (by assumption))))
end Go.Proofs.Ytjfchcjmfogijaa.FxW
