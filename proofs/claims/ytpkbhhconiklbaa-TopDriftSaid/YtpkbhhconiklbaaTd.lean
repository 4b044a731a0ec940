/- Contracts of the oscillator: reading, Read, Bound; of drift: Check, checked, Elapsed, Age, Has. -/
import Derived.Test.YtpkbhhconiklbaaTs
import Derived.Test.YtpkbhhconiklbaaFm
set_option linter.unusedVariables false
set_option linter.unusedSimpArgs false
namespace Go.Proofs.Ytpkbhhconiklbaa.TxW
open Go.RowKit Ls FxW
set_option maxHeartbeats 8000000 in
set_option maxRecDepth 4000 in
theorem reading_any (p : Int) (a : Option Addr) (n c : Nat) (z : Nat → Nat → Int) (V : Tx.Vo p n z) (t : Int) (t0 : 0 ≤ t) (t1 : t ≤ 1125899906842624) (w : World) (S : Ss 3 w a n (spn n z)) :
    Calls Try.prog 12 #[.int .i64 p, .slice a n c, .int .i64 t] w fun e w' => e = .returned (.int .i64 (Tx.rd p n z t)) ∧ Below w.heap.size w w' := by
  have n2 := V.n2
  have HV := Lib.hid V; have hS := Lib.hid S
  clear V S
  go_enter Try.func12, Try.ntmps12
  go_wp2_with (fail)
  go_loopw [16, 7, 8] (fun c h r wr => ∃ k : Nat, k ≤ n ∧ c = .int .i64 k ∧ h = .int .i64 (Tx.wh n z t k) ∧ r = .int .i64 (Tx.re n z t k) ∧ Below w.heap.size w wr) (fun c _ _ _ => n - (intOf c).toNat)
  case atStart => exact ⟨0, by omega, rfl, rfl, rfl, Below.refl _ _⟩
  case round =>
    obtain ⟨k, hk, rfl, rfl, rfl, hB⟩ := hrel
    have HB := Lib.hid hB
    have hbs := hB.size
    have S2 := Lib.hid (hS.out.later hB)
    clear hB
    by_cases hlt : k < n
    · obtain ⟨b, o, rfl, hb, c0, c1, c2⟩ := S2.out.elem3 hlt
      have e0 : spn n z k 0 = z k 0 := rfl
      have e1 : spn n z k 1 = z k 1 := rfl
      have e2 : spn n z k 2 = Tx.en n z k := rfl
      rw [e0] at c0; rw [e1] at c1; rw [e2] at c2
      have ok := HV.out.ok k hlt
      have eb := Tx.en_bd HV.out k
      have el : 0 ≤ Tx.en n z k := by
        unfold Tx.en; split
        · rename_i h; exact (HV.out.ok _ h).1
        · omega
      have wb := Tx.wh_bd HV.out t k (by omega); have rb := Tx.re_bd HV.out t k (by omega)
      have ws := Tx.wh_step HV.out t hlt; have rs := Tx.re_step HV.out t hlt
      have d0 := Tx.du_nn (n := n) (z := z) t k; have d1 := Tx.du_le HV.out t hlt
      have NW := Lib.hid (show Tx.wh n z t (k + 1) = Tx.wh n z t k + z k 1 * (Tx.du n z t k).tdiv 1000000000 from rfl)
      have NR := Lib.hid (show Tx.re n z t (k + 1) = Tx.re n z t k + z k 1 * (Tx.du n z t k).tmod 1000000000 from rfl)
      have hD0 : max 0 (min t (Tx.en n z k) - z k 0) = Tx.du n z t k := rfl
      obtain ⟨D, hD⟩ : ∃ D, Tx.du n z t k = D := ⟨_, rfl⟩
      obtain ⟨P, eP⟩ : ∃ P, z k 0 = P := ⟨_, rfl⟩
      obtain ⟨Q, eQ⟩ : ∃ Q, z k 1 = Q := ⟨_, rfl⟩
      obtain ⟨E, eE⟩ : ∃ E, Tx.en n z k = E := ⟨_, rfl⟩
      obtain ⟨W, eW⟩ : ∃ E, Tx.wh n z t k = E := ⟨_, rfl⟩
      obtain ⟨R, eR⟩ : ∃ E, Tx.re n z t k = E := ⟨_, rfl⟩
      rw [hD] at ws rs d0 d1 NW NR hD0
      rw [eP] at c0 ok hD0; rw [eQ] at c1 ok ws rs NW NR; rw [eE] at c2 eb el hD0; rw [eW] at wb NW; rw [eR] at rb NR
      rw [eW, eR]
      have qb := (Tx.tq d0).1; have rb2 := (Tx.tq d0).2
      obtain ⟨q, hq⟩ : ∃ q, D.tdiv 1000000000 = q := ⟨_, rfl⟩
      obtain ⟨r, hr⟩ : ∃ q, D.tmod 1000000000 = q := ⟨_, rfl⟩
      rw [hq] at ws NW qb; rw [hr] at rs NR rb2
      have q0 : 0 ≤ q := by omega
      have q1 : q ≤ 1125899 := by omega
      have r0 : 0 ≤ r := by omega
      have r1 : r ≤ 1000000000 := by omega
      obtain ⟨M, hM⟩ : ∃ M, Q * q = M := ⟨_, rfl⟩
      obtain ⟨K, hK⟩ : ∃ M, Q * r = M := ⟨_, rfl⟩
      rw [hM] at ws NW; rw [hK] at rs NR
      have k16 : (k : Int) ≤ 16 := by omega
      have wb1 : -9007192000000 ≤ W := by omega
      have wb2 : W ≤ 9007192000000 := by omega
      have rb3 : -8000000000000000 ≤ R := by omega
      have rb4 : R ≤ 8000000000000000 := by omega
      have p0 := ok.1; have p1 := ok.2.1; have m1 := ws.1; have m2 := ws.2; have m3 := rs.1; have m4 := rs.2
      clear eP eQ eE eW eR hD ok e0 e1 e2 ws rs wb rb qb rb2
      go_wp2_with (fail)
      go_roundw
      case rel => exact ⟨k + 1, by omega, by go_num, by rw [NW.out], by rw [NR.out], by have := HB.out; (repeat (first | exact Below.refl _ _ | refine Below.drew ?_ | refine Hp.drewN ?_ _ | refine Below.setCell ?_ (by first | (simp; done) | (simp; omega) | omega) _ | refine Below.alloc ?_ (by first | (simp; done) | (simp; omega) | omega) _ | (refine Hp.step ?_ (by assumption))))⟩
      case measure => (simp [intOf] <;> omega)
    · obtain rfl : n = k := by omega
      have wb := Tx.wh_bd HV.out t n (by omega); have rb := Tx.re_bd HV.out t n (by omega)
      have rd := Tx.rd_bd HV.out t0 t1
      have p1 := HV.out.p1; have p2 := HV.out.p2
      have HR := Lib.hid (show Tx.rd p n z t = p + t + Tx.wh n z t n + Fx.fl (Tx.re n z t n) 1000000000 from rfl)
      obtain ⟨W, eW⟩ : ∃ E, Tx.wh n z t n = E := ⟨_, rfl⟩
      obtain ⟨R, eR⟩ : ∃ E, Tx.re n z t n = E := ⟨_, rfl⟩
      rw [eW] at wb HR; rw [eR] at rb HR rd
      rw [eW, eR]
      have f1 := rd.2.2.1; have f2 := rd.2.2.2
      have FC := Lib.hid (fun w => floor_any R 1000000000 (by omega) (by omega) (by omega) (by omega) w)
      have eF : Fx.qV 1000000000 (Fx.fl R 1000000000) = Fx.fl R 1000000000 := (Fx.q_in (by omega) (by omega) (by omega)).1.symm
      rw [eF] at FC
      obtain ⟨F, hF⟩ : ∃ F, Fx.fl R 1000000000 = F := ⟨_, rfl⟩
      rw [hF] at FC HR f1 f2
      obtain ⟨ok, hok⟩ : ∃ ok, Fx.qOk 1000000000 F = ok := ⟨_, rfl⟩
      rw [hok] at FC
      have wb1 : -9007192000000 ≤ W := by omega
      have wb2 : W ≤ 9007192000000 := by omega
      clear eW eR hF eF rd hok wb rb
      go_wp2_with (fail)
      refine (FC.out _).mono ?_
      rintro en w1 ⟨rfl, nq, rfl⟩
      go_wp2_with (fail)
      go_ret
      exact ⟨by rw [HR.out] <;> rfl, Hp.drewN HB.out nq⟩
end Go.Proofs.Ytpkbhhconiklbaa.TxW
