/- Contracts of the reference of layer 21: Check, Distance, Bounds. -/
import Derived.Test.YtjfchcjmfogijaaSv
set_option linter.unusedVariables false
set_option linter.unusedSimpArgs false
namespace Go.Proofs.Ytjfchcjmfogijaa.FxW
open Go.RowKit

set_option maxHeartbeats 4000000 in
theorem rcheck_any (o d p t : Int) (w : World) :
    Calls Try.prog 14 #[.agg #[.int .i64 o, .int .i64 d, .int .i64 p, .int .i64 t]] w fun e w' => e = .returned (.int .i64 (Sx.chk o d p t)) ∧ Below w.heap.size w w' := by
  have cases : (Sx.chk o d p t = 0 ∧ Sx.timeB o = true ∧ Sx.timeB t = true ∧ ¬ d < 0 ∧ ¬ 9007199254740992 < d ∧ ¬ p < 0 ∧ ¬ 9007199254740992 < p) ∨
      (Sx.chk o d p t = 3 ∧ (Sx.timeB o = false ∨ (Sx.timeB o = true ∧ Sx.timeB t = false) ∨ (Sx.timeB o = true ∧ Sx.timeB t = true ∧ d < 0) ∨ (Sx.timeB o = true ∧ Sx.timeB t = true ∧ ¬ d < 0 ∧ 9007199254740992 < d) ∨
        (Sx.timeB o = true ∧ Sx.timeB t = true ∧ ¬ d < 0 ∧ ¬ 9007199254740992 < d ∧ p < 0) ∨ (Sx.timeB o = true ∧ Sx.timeB t = true ∧ ¬ d < 0 ∧ ¬ 9007199254740992 < d ∧ ¬ p < 0 ∧ 9007199254740992 < p))) := by
    by_cases h : Sx.okS o d p t = true
    · left
      obtain ⟨h1, h2, h3, h4, h5, h6, h7, h8⟩ := Sx.okS_iff.1 h
      exact ⟨Sx.chk_ok h, Sx.timeB_iff.2 ⟨h1, h2⟩, Sx.timeB_iff.2 ⟨h7, h8⟩, by omega, by omega, by omega, by omega⟩
    · right
      have h' : Sx.okS o d p t = false := by simpa using h
      refine ⟨Sx.chk_no h', ?_⟩
      rw [Sx.okS_iff] at h
      by_cases a1 : Sx.timeB o = true
      · by_cases a2 : Sx.timeB t = true
        · have b1 := Sx.timeB_iff.1 a1
          have b2 := Sx.timeB_iff.1 a2
          by_cases a3 : d < 0
          · exact .inr (.inr (.inl ⟨a1, a2, a3⟩))
          · by_cases a4 : 9007199254740992 < d
            · exact .inr (.inr (.inr (.inl ⟨a1, a2, a3, a4⟩)))
            · by_cases a5 : p < 0
              · exact .inr (.inr (.inr (.inr (.inl ⟨a1, a2, a3, a4, a5⟩))))
              · exact .inr (.inr (.inr (.inr (.inr ⟨a1, a2, a3, a4, a5, by omega⟩))))
        · exact .inr (.inl ⟨a1, by simpa using a2⟩)
      · exact .inl (by simpa using a1)
  rcases cases with ⟨k, x1, x2, x3, x4, x5, x6⟩ | ⟨k, x1 | ⟨x1, x2⟩ | ⟨x1, x2, x3⟩ | ⟨x1, x2, x3, x4⟩ | ⟨x1, x2, x3, x4, x5⟩ | ⟨x1, x2, x3, x4, x5, x6⟩⟩
  all_goals
    have K := Lib.hid k
    clear k
    go_enter Try.func14, Try.ntmps14
    go_wp2_with (go_at_call 26; refine (ristime_any _ _).mono ?_; rintro e w' ⟨rfl, rfl⟩)
    go_ret
    refine ⟨ret_int K.out.symm, ?_⟩
    (repeat (first | exact Below.refl _ _ | refine Below.drew ?_ | refine Hp.drewN ?_ _ | refine Below.setCell ?_ (by simp) _ | refine Below.alloc ?_ (by simp) _ | (refine Hp.step ?_ (by assumption))))
set_option maxHeartbeats 2000000 in
theorem rdist_any (o d p t : Int) (w : World) :
    Calls Try.prog 16 #[.agg #[.int .i64 o, .int .i64 d, .int .i64 p, .int .i64 t]] w fun e w' => e = .returned (.int .i64 (Sx.dist o d p t)) ∧ Below w.heap.size w w' := by
  by_cases h : Sx.okS o d p t = true
  · obtain ⟨h1, h2, h3, h4, h5, h6, h7, h8⟩ := Sx.okS_iff.1 h
    have D := Lib.hid (Sx.dist_ok h)
    have C := Lib.hid (Sx.chk_ok h)
    clear h
    go_enter Try.func16, Try.ntmps16
    go_wp2_with (first | (go_at_call 14; refine (rcheck_any _ _ _ _ _).mono ?_; rw [C.out]; rintro e w1 ⟨rfl, hb⟩; obtain ⟨hc, hf⟩ := Hp.bcell hb; have hz := hb.size; simp at hz; have hz0 : w.heap.size < w1.heap.size := (by omega); try (have hz1 : w.heap.size + 1 < w1.heap.size := (by omega))))
    go_ret
    refine ⟨ret_int D.out.symm, ?_⟩
    (repeat (first | exact Below.refl _ _ | refine Below.drew ?_ | refine Hp.drewN ?_ _ | refine Below.setCell ?_ (by simp) _ | refine Below.alloc ?_ (by simp) _ | (refine Hp.step ?_ (by assumption))))
  · have h : Sx.okS o d p t = false := by simpa using h
    have D := Lib.hid (Sx.dist_no h)
    have C := Lib.hid (Sx.chk_no h)
    clear h
    go_enter Try.func16, Try.ntmps16
    go_wp2_with (first | (go_at_call 14; refine (rcheck_any _ _ _ _ _).mono ?_; rw [C.out]; rintro e w1 ⟨rfl, hb⟩; obtain ⟨hc, hf⟩ := Hp.bcell hb; have hz := hb.size; simp at hz; have hz0 : w.heap.size < w1.heap.size := (by omega); try (have hz1 : w.heap.size + 1 < w1.heap.size := (by omega))))
    go_ret
    refine ⟨ret_int D.out.symm, ?_⟩
    (repeat (first | exact Below.refl _ _ | refine Below.drew ?_ | refine Hp.drewN ?_ _ | refine Below.setCell ?_ (by simp) _ | refine Below.alloc ?_ (by simp) _ | (refine Hp.step ?_ (by assumption))))
set_option maxHeartbeats 4000000 in
theorem rbounds_any (o d p t : Int) (w : World) :
    Calls Try.prog 18 #[.agg #[.int .i64 o, .int .i64 d, .int .i64 p, .int .i64 t]] w fun e w' => e = .returned (.agg #[.int .i64 (Sx.bLo o d p t), .int .i64 (Sx.bHi o d p t)]) ∧ Below w.heap.size w w' := by
  by_cases h : Sx.okS o d p t = true
  · obtain ⟨h1, h2, h3, h4, h5, h6, h7, h8⟩ := Sx.okS_iff.1 h
    have D := Sx.dist_ok h
    have d0 : 0 ≤ Sx.dist o d p t := by omega
    have d1 : Sx.dist o d p t ≤ 18014398509481984 := by omega
    have C := Lib.hid (Sx.chk_ok h)
    have L := Lib.hid (Sx.bLo_ok h)
    have H := Lib.hid (Sx.bHi_ok h)
    clear h D
    go_enter Try.func18, Try.ntmps18
    go_wp2_with (first | (go_at_call 14; refine (rcheck_any _ _ _ _ _).mono ?_; rw [C.out]; rintro e w1 ⟨rfl, hb⟩; obtain ⟨hc, hf⟩ := Hp.bcell hb; have hz := hb.size; simp at hz; have hz0 : w.heap.size < w1.heap.size := (by omega); try (have hz1 : w.heap.size + 1 < w1.heap.size := (by omega))))
    have c0 : w1.cell? ⟨w.heap.size, 0, none⟩ = some (.int .i64 o) := by rw [hc _ _ (by simp; try omega)]; simp
    have c1 : w1.cell? ⟨w.heap.size, 1, none⟩ = some (.int .i64 d) := by rw [hc _ _ (by simp; try omega)]; simp
    have c2 : w1.cell? ⟨w.heap.size, 2, none⟩ = some (.int .i64 p) := by rw [hc _ _ (by simp; try omega)]; simp
    have c3 : w1.cell? ⟨w.heap.size, 3, none⟩ = some (.int .i64 t) := by rw [hc _ _ (by simp; try omega)]; simp
    have c4 : w1.cell? ⟨w.heap.size + 1, 0, none⟩ = some (.int .i64 0) := by rw [hc _ _ (by simp; try omega)]; simp
    have c5 : w1.cell? ⟨w.heap.size + 1, 1, none⟩ = some (.int .i64 0) := by rw [hc _ _ (by simp; try omega)]; simp
    have f0 : w1.frozen? ⟨w.heap.size + 1, 0, none⟩ = false := by rw [hf _ _ (by simp; try omega)]; simp
    have f1 : w1.frozen? ⟨w.heap.size + 1, 1, none⟩ = false := by rw [hf _ _ (by simp; try omega)]; simp
    have B1 : Below w.heap.size w w1 := by (repeat (first | exact Below.refl _ _ | refine Below.drew ?_ | refine Hp.drewN ?_ _ | refine Below.setCell ?_ (by simp) _ | refine Below.alloc ?_ (by simp) _ | (refine Hp.step ?_ (by assumption))))
    have HB1 := Lib.hid B1
    clear hc hf hb B1 hz
    go_region_held3 (fun w' => w'.cell? ⟨w.heap.size, 0, none⟩ = some (.int .i64 o) ∧ w'.cell? ⟨w.heap.size, 1, none⟩ = some (.int .i64 d) ∧ w'.cell? ⟨w.heap.size, 2, none⟩ = some (.int .i64 p) ∧ w'.cell? ⟨w.heap.size, 3, none⟩ = some (.int .i64 t)) (go_keep)
      (first | (go_at_call 16; refine (rdist_any _ _ _ _ _).mono ?_; rintro e w2 ⟨rfl, hb2⟩; obtain ⟨hc2, hf2⟩ := Hp.bcell hb2; have hy := hb2.size; (try simp at hy); have hy0 : w.heap.size < w2.heap.size := (by omega); have hy1 : w.heap.size + 1 < w2.heap.size := (by omega); have g0 : w2.cell? ⟨w.heap.size, 0, none⟩ = some (.int .i64 o) := (by rw [hc2 _ _ (by (try simp); omega)]; first | exact g0 | exact c0); have g1 : w2.cell? ⟨w.heap.size, 1, none⟩ = some (.int .i64 d) := (by rw [hc2 _ _ (by (try simp); omega)]; first | exact g1 | exact c1); have g2 : w2.cell? ⟨w.heap.size, 2, none⟩ = some (.int .i64 p) := (by rw [hc2 _ _ (by (try simp); omega)]; first | exact g2 | exact c2); have g3 : w2.cell? ⟨w.heap.size, 3, none⟩ = some (.int .i64 t) := (by rw [hc2 _ _ (by (try simp); omega)]; first | exact g3 | exact c3); have g4 : w2.cell? ⟨w.heap.size + 1, 0, none⟩ = some (.int .i64 0) := (by rw [hc2 _ _ (by (try simp); omega)]; first | exact g4 | exact c4); have g5 : w2.cell? ⟨w.heap.size + 1, 1, none⟩ = some (.int .i64 0) := (by rw [hc2 _ _ (by (try simp); omega)]; first | exact g5 | exact c5); have k0 : w2.frozen? ⟨w.heap.size + 1, 0, none⟩ = false := (by rw [hf2 _ _ (by (try simp); omega)]; first | exact k0 | exact f0); have k1 : w2.frozen? ⟨w.heap.size + 1, 1, none⟩ = false := (by rw [hf2 _ _ (by (try simp); omega)]; first | exact k1 | exact f1); clear hc2 hf2))
    go_wp2
    refine bodyPost_ret (v := .agg #[.int .i64 (o - Sx.dist o d p t), .int .i64 (o + Sx.dist o d p t)]) (by simp [results, Try.results18, go_sem, g4, g5, hy0, hy1]; exact ⟨IntWalk.i64_in _ (by omega), IntWalk.i64_in _ (by omega)⟩) rfl ⟨by rw [L.out, H.out], ?_⟩
    have HB1' := HB1.out
    (repeat (first | exact Below.refl _ _ | refine Below.drew ?_ | refine Hp.drewN ?_ _ | refine Below.setCell ?_ (by simp) _ | refine Below.alloc ?_ (by simp) _ | exact HB1' | (refine Hp.step ?_ (by assumption))))
  · have h : Sx.okS o d p t = false := by simpa using h
    have C := Lib.hid (Sx.chk_no h)
    have L := Lib.hid (Sx.bLo_no h)
    have H := Lib.hid (Sx.bHi_no h)
    clear h
    go_enter Try.func18, Try.ntmps18
    go_wp2_with (first | (go_at_call 14; refine (rcheck_any _ _ _ _ _).mono ?_; rw [C.out]; rintro e w1 ⟨rfl, hb⟩; obtain ⟨hc, hf⟩ := Hp.bcell hb; have hz := hb.size; simp at hz; have hz0 : w.heap.size < w1.heap.size := (by omega); try (have hz1 : w.heap.size + 1 < w1.heap.size := (by omega))))
    refine bodyPost_ret (v := .agg #[.int .i64 0, .int .i64 0]) (by simp [results, Try.results18, go_sem, hc, hz0, hz1]) rfl ⟨by rw [L.out, H.out], ?_⟩
    (repeat (first | exact Below.refl _ _ | refine Below.drew ?_ | refine Hp.drewN ?_ _ | refine Below.setCell ?_ (by simp) _ | refine Below.alloc ?_ (by simp) _ | (refine Hp.step ?_ (by assumption))))
end Go.Proofs.Ytjfchcjmfogijaa.FxW
