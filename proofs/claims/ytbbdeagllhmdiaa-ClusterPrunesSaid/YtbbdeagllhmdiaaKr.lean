/- cluster.Prune. -/
import Derived.Test.YtbbdeagllhmdiaaKq
set_option linter.unusedVariables false
set_option linter.unusedSimpArgs false
namespace Go.Proofs.Ytbbdeagllhmdiaa.CxW
open Go.RowKit
open Go.Proofs.Ytbbdeagllhmdiaa.Kx
def lenV (v : Value) : Nat := match v with | .slice _ n _ => n | _ => 0
set_option maxHeartbeats 4000000 in
theorem prune_bad (l : List Cd) (a : Option Addr) (c : Nat) {r : Int} (h : Hid (Cx.chk l.length (zof l) = r)) (hr : (r != 0) = true) (keep : Int) (w : World) (S : Cs w a l.length (zof l)) :
    Calls Try.prog 18 #[.slice a l.length c, .int .i64 keep] w fun e w' => e = .returned (.tuple #[.slice none 0 0, .int .i64 r]) ∧ Below w.heap.size w w' := by
  have hS := Lib.hid S
  clear S
  go_enter Try.func18, Try.ntmps18
  go_wp2_with (fail)
  refine (check_at h hS.out).mono ?_
  rintro en w1 ⟨rfl, B1⟩
  have HB := Lib.hid B1
  clear B1
  go_wp2_with (fail)
  go_ret2
  exact ⟨rfl, HB.out⟩
set_option maxHeartbeats 4000000 in
theorem prune_range (l : List Cd) (a : Option Addr) (c : Nat) (V : Val l) (keep : Int) (hk : keep < 1) (w : World) (S : Cs w a l.length (zof l)) :
    Calls Try.prog 18 #[.slice a l.length c, .int .i64 keep] w fun e w' => e = .returned (.tuple #[.slice none 0 0, .int .i64 3]) ∧ Below w.heap.size w w' := by
  have hS := Lib.hid S
  have HC : Hid (Cx.chk l.length (zof l) = 0) := Lib.hid ((val_iff l).2 V)
  clear S
  go_enter Try.func18, Try.ntmps18
  go_wp2_with (fail)
  refine (check_at HC hS.out).mono ?_
  rintro en w1 ⟨rfl, B1⟩
  have HB := Lib.hid B1
  clear B1
  go_wp2_with (fail)
  go_ret2
  exact ⟨rfl, HB.out⟩
theorem prn_step {keep : Int} {m : List Cd} (h : keep < m.length) (h2 : jt m m.length < (far m m.length).2) : prn keep m.length m = prn keep (m.eraseIdx (far m m.length).1).length (m.eraseIdx (far m m.length).1) := by
  by_cases e : m.length = 0
  · have : (far m m.length).2 = 0 := by rw [e]; rfl
    have hm : m = [] := List.eq_nil_of_length_eq_zero e
    subst hm; rfl
  · have hl : (m.eraseIdx (far m m.length).1).length = m.length - 1 := List.length_eraseIdx_of_lt (far_at m _ (by omega)).1
    rw [hl]
    obtain ⟨k, hk⟩ : ∃ k, m.length = k + 1 := ⟨m.length - 1, by omega⟩
    have e2 : prn keep m.length m = prn keep (k + 1) m := by rw [hk]
    rw [e2]
    simp only [prn]
    rw [if_pos ⟨h, h2⟩, hk]
    rfl
set_option maxHeartbeats 8000000 in
theorem prune_ok (l : List Cd) (a : Option Addr) (c : Nat) (V : Val l) (keep : Int) (hk : 1 ≤ keep) (w : World) (S : Cs w a l.length (zof l)) (h0 : a = none → l.length = 0 ∧ c = 0) :
    Calls Try.prog 18 #[.slice a l.length c, .int .i64 keep] w fun e w' => ∃ v, e = .returned (.tuple #[v, .int .i64 0]) ∧ Ol w' w.heap.size v (prune keep l) ∧ Below w.heap.size w w' := by
  have hS := Lib.hid S; have HV := Lib.hid V; have H0 := Lib.hid h0
  have HC : Hid (Cx.chk l.length (zof l) = 0) := Lib.hid ((val_iff l).2 V)
  have hk' : ¬ keep < 1 := by omega
  clear S V h0
  go_enter Try.func18, Try.ntmps18
  go_wp2_with (fail)
  refine (check_at HC hS.out).mono ?_
  rintro en w1 ⟨rfl, B1⟩
  have HB := Lib.hid B1; have S1 := Lib.hid (hS.out.later B1)
  clear B1
  go_wp2_with (fail)
  refine (order_ok l a c HV.out _ S1.out H0.out).mono ?_
  rintro en w2 ⟨v0, rfl, o0, B2⟩
  have HB2 := Lib.hid (bl_next HB.out B2); have O0 := Lib.hid o0
  have sz1 := HB.out.size
  clear B2 o0
  go_wp2_with (fail)
  go_loopw [7] (fun v wr => ∃ m : List Cd, Ol wr w.heap.size v m ∧ Val m ∧ prn keep m.length m = prune keep l ∧ Below w.heap.size w wr) (fun v _ => lenV v)
  case atStart => exact ⟨ord l, O0.out.mono sz1, HV.out.ord, by unfold prune; rw [ord_len], HB2.out⟩
  case round =>
    obtain ⟨m, o, vm, hp, hb⟩ := hrel
    have VM := Lib.hid vm; have HP := Lib.hid hp; have HBr := Lib.hid hb
    have szr := hb.size
    clear vm hp hb
    by_cases hg : keep < (m.length : Int)
    · rcases o with ⟨rfl, _⟩ | ⟨hn, g, c', rfl, hgb, oz, hc'⟩
      · simp at hg; omega
      have OZ := Lib.hid oz; have SM := Lib.hid oz.cs
      have h2 : 2 ≤ m.length := by omega
      have FA := Lib.hid (fun W S => farthest_ok m (some ⟨g, 0, none⟩) c' VM.out h2 W S)
      have JI := Lib.hid (fun W S => jitter_ok m (some ⟨g, 0, none⟩) c' VM.out (by omega) W S)
      have DE := Lib.hid (fun i j hj hi W o => delete_any m g c' i j hj hi hc' W o)
      have fa := far_at m m.length (by omega)
      have ST := Lib.hid (@prn_step keep m hg)
      have SY : Hid (¬ jt m m.length < (far m m.length).2 → m = prune keep l) := Lib.hid (fun h => by
        rw [← HP.out]; exact (prn_stay (fun x => h x.2)).symm)
      have EL := Lib.hid (show (m.eraseIdx (far m m.length).1).length = m.length - 1 from List.length_eraseIdx_of_lt fa.1)
      have VE := Lib.hid (VM.out.sub (List.eraseIdx_sublist m (far m m.length).1))
      obtain ⟨J, eJ⟩ : ∃ J, jt m m.length = J := ⟨_, rfl⟩
      rw [eJ] at JI ST SY
      obtain ⟨⟨fw, fg⟩, eF⟩ : ∃ F, far m m.length = F := ⟨_, rfl⟩
      rw [eF] at FA ST SY fa EL VE
      have f1 := fa.1
      have n12 := VM.out.len
      have f2 : (fw : Int) ≤ 12 := by omega
      simp only at FA ST SY f1 EL VE
      obtain ⟨n, hnn⟩ : ∃ n, m.length = n := ⟨_, rfl⟩
      have HN := Lib.hid hnn
      rw [hnn] at hg hn OZ SM FA JI DE h2 f1 EL hc'
      rw [hnn]
      clear eJ eF fa oz hnn
      have hng : ¬ (n : Int) ≤ keep := by omega
      by_cases hj : fg ≤ J
      · have SE := Lib.hid (SY.out (by omega))
        clear SY ST
        go_wp2_with (fail)
        refine (FA.out _ SM.out).mono ?_
        rintro en w3 ⟨rfl, B3⟩
        have HB3 := Lib.hid (HBr.out.trans (B3.mono szr)); have S3 := Lib.hid (SM.out.later B3); have O3 := Lib.hid (OZ.out.later B3)
        have z3 := B3.size
        clear B3
        go_wp2_with (fail)
        refine (JI.out _ S3.out).mono ?_
        rintro en w4 ⟨rfl, B4⟩
        have HB4 := Lib.hid (HB3.out.trans (B4.mono (by omega))); have O4 := Lib.hid (O3.out.later B4)
        clear B4
        go_wp2_with (fail)
        go_ret2
        exact ⟨_, rfl, by rw [← SE.out]; exact .inr ⟨by rw [HN.out]; exact hn, g, c', by rw [HN.out] <;> rfl, hgb, by rw [HN.out]; exact O4.out, by rw [HN.out]; exact hc'⟩, HB4.out⟩
      · have ST2 := Lib.hid (ST.out (by omega))
        clear SY ST
        go_wp2_with (fail)
        refine (FA.out _ SM.out).mono ?_
        rintro en w3 ⟨rfl, B3⟩
        have HB3 := Lib.hid (HBr.out.trans (B3.mono szr)); have S3 := Lib.hid (SM.out.later B3); have O3 := Lib.hid (OZ.out.later B3)
        have z3 := B3.size
        clear B3
        go_wp2_with (fail)
        refine (JI.out _ S3.out).mono ?_
        rintro en w4 ⟨rfl, B4⟩
        have HB4 := Lib.hid (HB3.out.trans (B4.mono (by omega))); have O4 := Lib.hid (O3.out.later B4)
        clear B4
        go_wp2_with (fail)
        rw [show ((fw : Int) + 1) = ((fw + 1 : Nat) : Int) from rfl]
        refine (DE.out fw (fw + 1) rfl f1 _ O4.out).mono ?_
        rintro en w5 ⟨rfl, o5, B5⟩
        have HB5 := Lib.hid (HB4.out.trans (B5.mono hgb)); have O5 := Lib.hid o5
        clear B5 o5
        go_wp2_with (fail)
        go_roundw
        case rel => exact ⟨m.eraseIdx fw, .inr ⟨by rw [EL.out]; omega, g, c', by rw [EL.out], hgb, by rw [EL.out]; exact O5.out, by rw [EL.out]; omega⟩, VE.out, by rw [← ST2.out]; exact HP.out, HB5.out⟩
        case measure => (simp [lenV] <;> omega)
    · have SE : Hid (m = prune keep l) := Lib.hid (by rw [← HP.out]; exact (prn_stay (fun x => hg x.1)).symm)
      obtain ⟨a1, c1, rfl, s1⟩ := o.rd
      have O1 := Lib.hid o
      obtain ⟨n, hnn⟩ : ∃ n, m.length = n := ⟨_, rfl⟩
      rw [hnn] at hg O1
      rw [hnn]
      clear s1 o hnn
      go_wp2_with (fail)
      go_ret2
      exact ⟨_, rfl, by rw [← SE.out]; exact O1.out, HBr.out⟩
end Go.Proofs.Ytbbdeagllhmdiaa.CxW
