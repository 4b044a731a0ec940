/- The law ClusterSorted of layer 25. -/
import Derived.Test.YtbbdeagllhmdiaaKu
set_option linter.unusedVariables false
set_option linter.unusedSimpArgs false
namespace Go.Proofs.Ytbbdeagllhmdiaa.CxW
open Go.RowKit
open Go.Proofs.Ytbbdeagllhmdiaa.Kx
theorem cs_of {w : World} {a : Option Addr} {n cap : Nat} {z : Nat → Nat → Int} (h : In.IsStructs [.i64, .i64, .i64, .i64, .i64] w a n cap z) : Cs w a n z := by
  by_cases h0 : n = 0
  · exact ⟨.inl h0⟩
  · obtain ⟨b, o, ha, hb, _⟩ := h.elem (by simp) 0 (by omega)
    refine ⟨.inr ⟨b, o, ha, hb, fun i j hi hj => ?_⟩⟩
    obtain ⟨b', o', ha', hb', hc⟩ := h.elem (by simp) i hi
    obtain ⟨rfl, rfl⟩ : b' = b ∧ o' = o := by rw [ha] at ha'; simpa [eq_comm] using ha'
    have hk : ([.i64, .i64, .i64, .i64, .i64] : List IntKind)[j]? = some .i64 := by
      have hj' : j = 0 ∨ j = 1 ∨ j = 2 ∨ j = 3 ∨ j = 4 := by omega
      rcases hj' with rfl | rfl | rfl | rfl | rfl <;> rfl
    exact (hc j .i64 hk).1
/-- a list that came in -/
theorem in_list {w : World} {a : Option Addr} {n cap : Nat} {z : Nat → Nat → Int} (h : In.IsStructs [.i64, .i64, .i64, .i64, .i64] w a n cap z) : ∃ l : List Cd, l.length = n ∧ Cs w a l.length (zof l) ∧ (a = none → l.length = 0 ∧ cap = 0) := by
  refine ⟨lst n z, lst_len n z, ?_, fun ha => ?_⟩
  · rw [lst_len]; exact (cs_of h).congr fun i j hi hj => (lst_zof hi hj).symm
  · rw [lst_len]
    rcases h with ⟨_, h1, h2⟩ | ⟨x, hx, _⟩
    · exact ⟨h1, h2⟩
    · rw [ha] at hx; cases hx
theorem ids_ne {l : List Cd} (V : Val l) {i j : Nat} (h : i < j) (hj : j < l.length) : (nth l i).a ≠ (nth l j).a := by
  rw [nth_eq (by omega), nth_eq hj]; exact List.pairwise_iff_getElem.1 V.ids i j (by omega) hj h
/-- an element known by its cells in all later worlds -/
theorem rank_call {w : World} {y : Qb.Later w} {xa xb xc xd xe ya yb yc yd ye : Int} (h : bef ⟨xa, xb, xc, xd, xe⟩ ⟨ya, yb, yc, yd, ye⟩) :
    Calls Try.prog 21 #[.agg #[.int .i64 xa, .int .i64 xb, .int .i64 xc, .int .i64 xd, .int .i64 xe], .agg #[.int .i64 ya, .int .i64 yb, .int .i64 yc, .int .i64 yd, .int .i64 ye]] y.1 fun e w'' => e = .returned (.int .i64 1) ∧ ∃ y' : Qb.Later w, w'' = y'.1 :=
  Qb.call (rank_one ⟨xa, xb, xc, xd, xe⟩ ⟨ya, yb, yc, yd, ye⟩ h _)
set_option maxHeartbeats 8000000 in
theorem sorted_no (l : List Cd) (a : Option Addr) (c : Nat) (h0 : a = none → l.length = 0 ∧ c = 0) (w : World) (S : Cs w a l.length (zof l)) {r : Int} (hr : Hid (Cx.chk l.length (zof l) = r)) (h : 30 < l.length ∨ (l.length ≤ 30 ∧ (r != 0) = true)) :
    Calls Try.prog 5 #[.slice a l.length c] w fun e w' => e = .returned (.bool true) ∧ Below w.heap.size w w' := by
  have hS := Lib.hid S; have H0 := Lib.hid h0
  clear S h0
  rcases h with h | ⟨h, h2⟩
  · have F := Lib.hid (show decide (l.length ≤ 30) = false from decide_eq_false (by omega))
    clear h
    go_enter Try.func5, Try.ntmps5
    go_wp2_with (fail)
    refine (few_at F _).mono ?_
    rintro en w1 ⟨rfl, rfl⟩
    go_wp2_with (fail)
    refine (awake25_any _).mono ?_
    rintro en w2 ⟨rfl, B2⟩
    have HB := Lib.hid B2
    clear B2
    go_wp2_with (fail)
    go_ret
    exact ⟨rfl, HB.out⟩
  · have F := Lib.hid (show decide (l.length ≤ 30) = true from decide_eq_true h)
    have E := Lib.hid (show sysV l = 0 ∧ sysB l = false from by
      have hc : ¬ Cx.chk l.length (zof l) = 0 := by rw [hr.out]; simpa using h2
      exact ⟨by unfold sysV; rw [if_neg (fun h => hc h.1)], by unfold sysB; simp [hc]⟩)
    clear h
    go_enter Try.func5, Try.ntmps5
    go_wp2_with (fail)
    refine (few_at F _).mono ?_
    rintro en w1 ⟨rfl, rfl⟩
    go_wp2_with (fail)
    refine (order_bad l a c hr h2 _ hS.out).mono ?_
    rintro en w2 ⟨rfl, B2⟩
    have HB2 := Lib.hid B2; have S2 := Lib.hid (hS.out.later B2)
    clear B2
    go_wp2_with (fail)
    refine (system_any l a c _ S2.out H0.out).mono ?_
    rw [E.out.1, E.out.2]
    rintro en w3 ⟨rfl, B3⟩
    have HB3 := Lib.hid (bl_next HB2.out B3); have S3 := Lib.hid (S2.out.later B3)
    clear B3
    go_wp2_with (fail)
    refine (check_at hr S3.out).mono ?_
    rintro en w4 ⟨rfl, B4⟩
    have HB4 := Lib.hid (bl_next HB3.out B4)
    clear B4
    go_wp2_with (fail)
    refine (awake25_any _).mono ?_
    rintro en w5 ⟨rfl, B5⟩
    have HB5 := Lib.hid (bl_next HB4.out B5)
    clear B5
    go_wp2_with (fail)
    go_ret
    exact ⟨rfl, HB5.out⟩
set_option maxHeartbeats 16000000 in
set_option maxRecDepth 4000 in
theorem sorted_yes (l : List Cd) (a : Option Addr) (c : Nat) (h0 : a = none → l.length = 0 ∧ c = 0) (V : Val l) (w : World) (S : Cs w a l.length (zof l)) :
    Calls Try.prog 5 #[.slice a l.length c] w fun e w' => e = .returned (.bool true) ∧ Below w.heap.size w w' := by
  have hS := Lib.hid S; have H0 := Lib.hid h0; have HV := Lib.hid V
  have hc := (val_iff l).2 V
  have HC := Lib.hid hc
  have n12 := V.len
  have F := Lib.hid (show decide (l.length ≤ 30) = true from decide_eq_true (by omega))
  have E := Lib.hid (show (l.length = 0 ∧ sysV l = 0 ∧ sysB l = false) ∨ (0 < l.length ∧ sysV l = (nth (ord l) 0).a ∧ sysB l = true) from by
    by_cases hn : 0 < l.length
    · exact .inr ⟨hn, by unfold sysV; rw [if_pos ⟨hc, hn⟩], by unfold sysB; simp [hc, hn]⟩
    · exact .inl ⟨by omega, by unfold sysV; rw [if_neg (fun h => hn h.2)], by unfold sysB; simp [hn]⟩)
  have on := ord_len l
  have OV := Lib.hid V.ord
  have MEM := Lib.hid (show ∀ i, i < (ord l).length → ∃ k, k < l.length ∧ nth l k = nth (ord l) i from fun i hi => mem_nth ((ord_perm l).mem_iff.1 (nth_mem hi)))
  have STR := Lib.hid (show ∀ i, i + 1 < (ord l).length → bef (nth (ord l) i) (nth (ord l) (i + 1)) from fun i hi => strict V.ord (ord_sorted l) hi)
  clear S h0 V hc
  go_enter Try.func5, Try.ntmps5
  go_wp2_with (fail)
  refine (few_at F _).mono ?_
  rintro en w1 ⟨rfl, rfl⟩
  go_wp2_with (fail)
  refine (order_ok l a c HV.out _ hS.out H0.out).mono ?_
  rintro en w2 ⟨v, rfl, o, B2⟩
  have HB2 := Lib.hid B2; have S2 := Lib.hid (hS.out.later B2)
  obtain ⟨a1, c1, rfl, s1⟩ := o.rd
  have O2 := Lib.hid s1
  clear B2 o s1
  obtain ⟨q, hq⟩ : ∃ q, ord l = q := ⟨_, rfl⟩
  rw [hq] at E on OV MEM STR O2
  rw [hq]
  go_wp2_with (fail)
  refine (system_any l a c _ S2.out H0.out).mono ?_
  rintro en w3 ⟨rfl, B3⟩
  have HB3 := Lib.hid (bl_next HB2.out B3); have S3 := Lib.hid (S2.out.later B3); have O3 := Lib.hid (O2.out.later B3)
  clear B3
  obtain ⟨sv, hsv⟩ : ∃ q, sysV l = q := ⟨_, rfl⟩
  obtain ⟨sb, hsb⟩ : ∃ q, sysB l = q := ⟨_, rfl⟩
  rw [hsv, hsb] at E
  rw [hsv, hsb]
  clear hsv hsb hq
  go_wp2_with (fail)
  refine (check_at HC S3.out).mono ?_
  rintro en w4 ⟨rfl, B4⟩
  have HB4 := Lib.hid (bl_next HB3.out B4); have S4 := Lib.hid (S3.out.later B4); have O4 := Lib.hid (O3.out.later B4)
  clear B4
  obtain ⟨n, hn⟩ : ∃ n, l.length = n := ⟨_, rfl⟩
  have HN := Lib.hid hn
  rw [hn] at E on n12 S4 MEM
  rw [on] at O4 MEM STR
  rw [hn]
  clear hn on
  rcases E.out with ⟨e1, e2, e3⟩ | ⟨e1, e2, e3⟩
  · subst e1; subst e2; subst e3
    go_wp2_with (fail)
    go_loopw [6] (fun c wr => c = .int .i64 0 ∧ w4 = wr) (fun c _ => 0)
    case atStart => exact ⟨rfl, rfl⟩
    case round =>
      obtain ⟨rfl, rfl⟩ := hrel
      go_wp2_with (fail)
      refine (awake25_any _).mono ?_
      rintro en w5 ⟨rfl, B5⟩
      have HB5 := Lib.hid (bl_next HB4.out B5)
      clear B5
      go_wp2_with (fail)
      go_ret
      exact ⟨rfl, HB5.out⟩
  · subst e2; subst e3
    obtain ⟨b1, o1, rfl, lb1, z0, _, _, _, _⟩ := O4.out.elem (i := 0) e1
    rw [Nat.zero_mul, Nat.add_zero] at z0
    have z0' : w4.cell? ⟨b1, o1, none⟩ = some (.int .i64 (nth q 0).a) := z0
    obtain ⟨X, eX⟩ : ∃ X, (nth q 0).a = X := ⟨_, rfl⟩
    rw [eX] at z0'
    rw [eX]
    have en0 : ¬ (n : Int) ≤ 0 := by omega
    have en1 : (0 : Int) < (n : Int) := by omega
    clear z0 eX
    go_wp2_with (fail)
    go_loopw [6] (fun c wr => ∃ i : Nat, i ≤ n ∧ c = .int .i64 i ∧ Below w4.heap.size w4 wr) (fun c _ => n - (intOf c).toNat)
    case atStart => exact ⟨0, by omega, rfl, Below.refl _ _⟩
    case round =>
      rename World => wb
      obtain ⟨i, hi, rfl, hb⟩ := hrel
      have HBi := Lib.hid (bl_next HB4.out hb); have Si := Lib.hid (S4.out.later hb); have Oi := Lib.hid (O4.out.later hb)
      have HW := Lib.hid hb
      clear hb z0'
      by_cases hlt : i < n
      · obtain ⟨k0, hk0, ek0⟩ := MEM.out i hlt
        have EK := Lib.hid ek0
        clear ek0
        go_wp2_with (fail)
        go_loopw [8, 7] (fun c f wr => ∃ (k q : Nat) (fb : Bool), k ≤ n ∧ c = .int .i64 k ∧ f = .bool fb ∧ (k0 < k → fb = true) ∧ wr = wb.drewN q) (fun c _ _ => n - (intOf c).toNat)
        case atStart => exact ⟨0, 0, false, by omega, rfl, rfl, fun h => by omega, rfl⟩
        case round =>
          obtain ⟨k, q2, fb, hk, rfl, rfl, hf, rfl⟩ := hrel
          have HF := Lib.hid hf
          clear hf
          by_cases hlt2 : k < n
          · obtain ⟨b2, o2, rfl, lb2, x0, x1, x2, x3, x4⟩ := Si.out.elem (i := k) hlt2
            obtain ⟨b1', o1', e', lb3, y0, y1, y2, y3, y4⟩ := Oi.out.elem (i := i) hlt
            obtain ⟨rfl, rfl⟩ : b1 = b1' ∧ o1 = o1' := by injection e' with e'; injection e' with e1 e2; exact ⟨e1, e2⟩
            clear e'
            cases fb with
            | true =>
              clear x0 x1 x2 x3 x4 y0 y1 y2 y3 y4
              go_wp2_with (fail)
              go_quiet (fail)
              go_wp2_with (fail)
              go_roundw
              case rel => exact ⟨k + 1, _, true, by omega, by go_num, rfl, fun _ => rfl, by first | rfl | exact World.drewN_drewN _ _ _⟩
              case measure => (simp [intOf] <;> omega)
            | false =>
              change wb.cell? _ = some (.int .i64 (nth l k).a) at x0
              change wb.cell? _ = some (.int .i64 (nth l k).b) at x1
              change wb.cell? _ = some (.int .i64 (nth l k).c) at x2
              change wb.cell? _ = some (.int .i64 (nth l k).d) at x3
              change wb.cell? _ = some (.int .i64 (nth l k).e) at x4
              change wb.cell? _ = some (.int .i64 (nth q i).a) at y0
              change wb.cell? _ = some (.int .i64 (nth q i).b) at y1
              change wb.cell? _ = some (.int .i64 (nth q i).c) at y2
              change wb.cell? _ = some (.int .i64 (nth q i).d) at y3
              change wb.cell? _ = some (.int .i64 (nth q i).e) at y4
              by_cases hkk : k = k0
              · subst hkk
                rw [EK.out] at x0 x1 x2 x3 x4
                obtain ⟨x, ex⟩ : ∃ x, nth q i = x := ⟨_, rfl⟩
                rw [ex] at x0 x1 x2 x3 x4 y0 y1 y2 y3 y4
                obtain ⟨xa, xb, xc, xd, xe⟩ := x
                simp only at x0 x1 x2 x3 x4 y0 y1 y2 y3 y4
                clear ex
                go_wp2_with (fail)
                go_quiet (fail)
                go_wp2_with (fail)
                go_roundw
                case rel => exact ⟨k + 1, _, true, by omega, by go_num, rfl, fun _ => rfl, by first | rfl | exact World.drewN_drewN _ _ _⟩
                case measure => (simp [intOf] <;> omega)
              · have hk2 : k < k0 := by
                  by_cases g : k0 < k
                  · have := HF.out g; cases this
                  · omega
                obtain ⟨x, ex⟩ : ∃ x, nth q i = x := ⟨_, rfl⟩
                obtain ⟨y, ey⟩ : ∃ x, nth l k = x := ⟨_, rfl⟩
                rw [ey] at x0 x1 x2 x3 x4
                rw [ex] at y0 y1 y2 y3 y4
                obtain ⟨xa, xb, xc, xd, xe⟩ := x
                obtain ⟨ya, yb, yc, yd, ye⟩ := y
                have ne := ids_ne HV.out hk2 (by rw [HN.out]; exact hk0)
                rw [EK.out, ex, ey] at ne
                simp only at x0 x1 x2 x3 x4 y0 y1 y2 y3 y4 ne
                have ne2 : (ya == xa) = false := by simpa using ne
                clear ex ey ne
                go_wp2_with (fail)
                go_quiet (fail)
                go_wp2_with (fail)
                go_roundw
                case rel => exact ⟨k + 1, _, _, by omega, by go_num, rfl, fun h => by omega, by first | rfl | exact World.drewN_drewN _ _ _⟩
                case measure => (simp [intOf] <;> omega)
          · obtain rfl : n = k := by omega
            obtain rfl := HF.out hk0
            obtain ⟨b1', o1', e', lb3, y0, y1, y2, y3, y4⟩ := Oi.out.elem (i := i) hlt
            obtain ⟨rfl, rfl⟩ : b1 = b1' ∧ o1 = o1' := by injection e' with e'; injection e' with e1 e2; exact ⟨e1, e2⟩
            clear e'
            rcases i with _ | j
            · clear y0 y1 y2 y3 y4
              go_wp2_with (fail)
              go_quiet (fail)
              go_wp2_with (fail)
              go_roundw
              case rel => exact ⟨1, by omega, by go_num, Hp.drewN HW.out _⟩
              case measure => (simp [intOf] <;> omega)
            · obtain ⟨b1', o1', e', lb4, x0, x1, x2, x3, x4⟩ := Oi.out.elem (i := j) (by omega)
              obtain ⟨rfl, rfl⟩ : b1 = b1' ∧ o1 = o1' := by injection e' with e'; injection e' with e1 e2; exact ⟨e1, e2⟩
              have be := STR.out j hlt
              change wb.cell? _ = some (.int .i64 (nth q j).a) at x0
              change wb.cell? _ = some (.int .i64 (nth q j).b) at x1
              change wb.cell? _ = some (.int .i64 (nth q j).c) at x2
              change wb.cell? _ = some (.int .i64 (nth q j).d) at x3
              change wb.cell? _ = some (.int .i64 (nth q j).e) at x4
              change wb.cell? _ = some (.int .i64 (nth q (j + 1)).a) at y0
              change wb.cell? _ = some (.int .i64 (nth q (j + 1)).b) at y1
              change wb.cell? _ = some (.int .i64 (nth q (j + 1)).c) at y2
              change wb.cell? _ = some (.int .i64 (nth q (j + 1)).d) at y3
              change wb.cell? _ = some (.int .i64 (nth q (j + 1)).e) at y4
              obtain ⟨x, ex⟩ : ∃ x, nth q j = x := ⟨_, rfl⟩
              obtain ⟨y, ey⟩ : ∃ x, nth q (j + 1) = x := ⟨_, rfl⟩
              rw [ex] at x0 x1 x2 x3 x4 be
              rw [ey] at y0 y1 y2 y3 y4 be
              obtain ⟨xa, xb, xc, xd, xe⟩ := x
              obtain ⟨ya, yb, yc, yd, ye⟩ := y
              simp only at x0 x1 x2 x3 x4 y0 y1 y2 y3 y4
              have BE := Lib.hid be
              have j1 : (0 : Int) < (j : Int) + 1 := by omega
              have j2 : (j : Int) + 1 - 1 = j := by omega
              have j3 : j < n := by omega
              obtain ⟨wq, hwq⟩ : ∃ wq, wb.drewN q2 = wq := ⟨_, rfl⟩
              have HWq : Hid (Below w4.heap.size w4 wq) := Lib.hid (by rw [← hwq]; exact Hp.drewN HW.out _)
              have lq : b1 < wq.heap.size := by rw [← hwq]; exact lb3
              have tr : ∀ p, wb.cell? p = wq.cell? p := fun p => by rw [← hwq]; rfl
              rw [tr] at x0 x1 x2 x3 x4 y0 y1 y2 y3 y4
              rw [hwq]
              clear ex ey e' hwq be tr
              go_wp2_with (fail)
              refine Qb.region (by kernel_rfl) (by kernel_rfl) ?_
              have k0 := Qb.cell x0 lq; have k1 := Qb.cell x1 lq; have k2 := Qb.cell x2 lq; have k3 := Qb.cell x3 lq; have k4 := Qb.cell x4 lq
              have m0 := Qb.cell y0 lq; have m1 := Qb.cell y1 lq; have m2 := Qb.cell y2 lq; have m3 := Qb.cell y3 lq; have m4 := Qb.cell y4 lq
              repeat (go_big_quiet_step (first | (go_at_call 21; exact rank_call BE.out)))
              refine wpQuiet_nil ?_
              rintro _ ⟨⟨w9, hb9⟩, rfl⟩
              have HB9 := Lib.hid (bl_next HWq.out hb9)
              clear hb9 k0 k1 k2 k3 k4 m0 m1 m2 m3 m4 x0 x1 x2 x3 x4 y0 y1 y2 y3 y4
              go_wp2_with (fail)
              go_roundw
              case rel => exact ⟨j + 1 + 1, by omega, by go_num, HB9.out⟩
              case measure => (simp [intOf] <;> omega)
      · obtain rfl : n = i := by omega
        go_wp2_with (fail)
        refine (awake25_any _).mono ?_
        rintro en w5 ⟨rfl, B5⟩
        have HB5 := Lib.hid (bl_next HBi.out B5)
        clear B5
        go_wp2_with (fail)
        go_ret
        exact ⟨rfl, HB5.out⟩
theorem law_ClusterSorted (a : Option Addr) (n c : Nat) (z : Nat → Nat → Int) (w : World) (S : In.IsStructs [.i64, .i64, .i64, .i64, .i64] w a n c z) :
    Calls Try.prog 5 #[.slice a n c] w fun e w' => e = .returned (.bool true) ∧ Below w.heap.size w w' := by
  obtain ⟨l, rfl, s, h0⟩ := in_list S
  by_cases h : 30 < l.length
  · exact sorted_no l a c h0 w s (Lib.hid rfl) (.inl h)
  · by_cases hc : Cx.chk l.length (zof l) = 0
    · exact sorted_yes l a c h0 ((val_iff l).1 hc) w s
    · exact sorted_no l a c h0 w s (Lib.hid rfl) (.inr ⟨by omega, by simpa using hc⟩)
end Go.Proofs.Ytbbdeagllhmdiaa.CxW
