/- The reference's filter in memory; its New, Len, Samples, apart, root. -/
import Derived.Test.YtdaedhgbkamjpaaJj
import Derived.Test.YtdaedhgbkamjpaaJh
import Derived.Test.YtdaedhgbkamjpaaRm
set_option linter.unusedVariables false
set_option linter.unusedSimpArgs false
namespace Go.Proofs.Ytdaedhgbkamjpaa.Jx
/-- the bits of the root from place k on -/
structure Ra (n r k : Nat) : Prop where
  low : r * r ≤ n
  high : n < (r + 2 ^ k) * (r + 2 ^ k)
  lt : r + 2 ^ k ≤ 2147483648
theorem ra_start {n : Nat} (h : n ≤ 1152921504606846976) : Ra n 0 31 := ⟨by omega, by omega, by omega⟩
theorem ra_step {n r k : Nat} (H : Ra n r (k + 1)) : r + 2 ^ k < 2147483648 ∧ (r + 2 ^ k) * (r + 2 ^ k) ≤ 4611686018427387904 ∧ ((r + 2 ^ k) * (r + 2 ^ k) ≤ n → Ra n (r + 2 ^ k) k) ∧ (¬ (r + 2 ^ k) * (r + 2 ^ k) ≤ n → Ra n r k) := by
  have hp := Nat.two_pow_pos k
  have e2 : 2 ^ (k + 1) = 2 ^ k + 2 ^ k := by rw [Nat.pow_succ]; omega
  have hl := H.lt
  have hb : (r + 2 ^ k) * (r + 2 ^ k) ≤ 2147483648 * 2147483648 := Nat.mul_le_mul (by omega) (by omega)
  refine ⟨by omega, by omega, fun h => ⟨h, ?_, by omega⟩, fun h => ⟨H.low, by omega, by omega⟩⟩
  have := H.high
  rw [e2] at this
  rw [Nat.add_assoc]; exact this
theorem ra_end {n r : Nat} (H : Ra n r 0) : Fx.isq (n : Int) = (r : Int) := by
  have a := H.low
  have b := H.high
  unfold Fx.isq
  rw [Int.toNat_natCast, Fx.isqN_unique a (by simpa using b)]
theorem max_abs (a b : Int) : max (a - b) (b - a) = Fx.iabs (a - b) := by unfold Fx.iabs; split <;> omega
theorem max_neg (d : Int) : max d (-d) = Fx.iabs d := by unfold Fx.iabs; split <;> omega
end Go.Proofs.Ytdaedhgbkamjpaa.Jx
namespace Go.Proofs.Ytdaedhgbkamjpaa.JxW
open Go.RowKit FxW
open Go.Proofs.Ytdaedhgbkamjpaa.Jx
/-- v reads as l, in blocks from base on -/
def Sl (w : World) (base : Nat) (v : Value) (l : List Sm) : Prop := (l = [] ∧ v = .slice none 0 0) ∨ (0 < l.length ∧ ∃ b o c, base ≤ b ∧ v = .slice (some ⟨b, o, none⟩) l.length c ∧ l.length ≤ c ∧ Cs w (some ⟨b, o, none⟩) l.length (zof l))
theorem Sl.later {w w' : World} {base : Nat} {v : Value} {l : List Sm} (h : Sl w base v l) (k : Below w.heap.size w w') : Sl w' base v l := by
  rcases h with h | ⟨h0, b, o, c, hb, hv, hc, s⟩
  · exact .inl h
  · exact .inr ⟨h0, b, o, c, hb, hv, hc, s.later k⟩
theorem Sl.but {w w' : World} {base g : Nat} {v : Value} {l : List Sm} (h : Sl w base v l) (k : But g w w') (hg : g < base) : Sl w' base v l := by
  rcases h with h | ⟨h0, b, o, c, hb, hv, hc, s⟩
  · exact .inl h
  · exact .inr ⟨h0, b, o, c, hb, hv, hc, s.but k (by omega)⟩
/-- block g is the reference's filter -/
structure Ri (w : World) (base g : Nat) (tol : Int) (l : List Sm) (any : Bool) (fr : Int) : Prop where
  lt : g < w.heap.size
  lb : g < base
  c0 : w.cell? ⟨g, 0, none⟩ = some (.int .i64 tol)
  c1 : ∃ v, w.cell? ⟨g, 1, none⟩ = some v ∧ Sl w base v l
  c2 : w.cell? ⟨g, 2, none⟩ = some (.bool any)
  c3 : w.cell? ⟨g, 3, none⟩ = some (.int .i64 fr)
  free : ∀ o, w.frozen? ⟨g, o, none⟩ = false
theorem Ri.of {base b : Nat} {w w' : World} {tol : Int} {l : List Sm} {any : Bool} {fr : Int} (h : Ri w base b tol l any fr) (hs : w.heap.size ≤ w'.heap.size) (k : w'.heap[b]? = w.heap[b]?) (ks : ∀ v, Sl w base v l → Sl w' base v l) : Ri w' base b tol l any fr := by
  have hc : ∀ o, w'.cell? ⟨b, o, none⟩ = w.cell? ⟨b, o, none⟩ := fun o => by simp [World.cell?, k]
  have hf : ∀ o, w'.frozen? ⟨b, o, none⟩ = w.frozen? ⟨b, o, none⟩ := fun o => by simp [World.frozen?, k]
  obtain ⟨v, hv, sv⟩ := h.c1
  exact ⟨Nat.lt_of_lt_of_le h.lt hs, h.lb, by rw [hc]; exact h.c0, ⟨v, by rw [hc]; exact hv, ks v sv⟩, by rw [hc]; exact h.c2, by rw [hc]; exact h.c3, fun o => by rw [hf]; exact h.free o⟩
theorem Ri.later {base b : Nat} {w w' : World} {tol : Int} {l : List Sm} {any : Bool} {fr : Int} (h : Ri w base b tol l any fr) (k : Below w.heap.size w w') : Ri w' base b tol l any fr := h.of k.size (k.block b h.lt) (fun _ s => s.later k)
theorem Ri.but {base b c : Nat} {w w' : World} {tol : Int} {l : List Sm} {any : Bool} {fr : Int} (h : Ri w base b tol l any fr) (k : But c w w') (hc : b ≠ c) (hb : c < base) : Ri w' base b tol l any fr := h.of k.size (k.block b h.lt hc) (fun _ s => s.but k hb)
theorem Ri.drewN {base b n : Nat} {w : World} {tol : Int} {l : List Sm} {any : Bool} {fr : Int} (h : Ri w base b tol l any fr) : Ri (w.drewN n) base b tol l any fr := h.later (Hp.drewN (Below.refl _ _) n)
set_option maxHeartbeats 4000000 in
theorem rnew_ok (tol : Int) (h0 : 0 ≤ tol) (h1 : tol ≤ 500000) (w : World) :
    Calls Try.prog 14 #[.int .i64 tol] w fun e w' => ∃ g, w.heap.size ≤ g ∧ g < w'.heap.size ∧ e = .returned (.pointer (some ⟨g, 0, none⟩)) ∧ Ri w' w'.heap.size g tol [] false 0 ∧ Below w.heap.size w w' := by
  have F : ∀ W : World, Ri (W.alloc (.cells #[.int .i64 tol, .slice none 0 0, .bool false, .int .i64 0] 55)) (W.alloc (.cells #[.int .i64 tol, .slice none 0 0, .bool false, .int .i64 0] 55)).heap.size W.heap.size tol [] false 0 := fun W => by
    have hb := Hp.blk_new W (.cells #[.int .i64 tol, .slice none 0 0, .bool false, .int .i64 0] 55)
    exact ⟨by simp, by simp, Hp.blk_cell hb rfl, ⟨_, Hp.blk_cell hb rfl, .inl ⟨rfl, rfl⟩⟩, Hp.blk_cell hb rfl, Hp.blk_cell hb rfl, fun o => Hp.blk_free hb⟩
  have HF := Lib.hid F
  clear F
  go_enter Try.func14, Try.ntmps14
  go_wp2_with (fail)
  go_ret
  exact ⟨w.heap.size, Nat.le_refl _, by simp, rfl, HF.out w, by (repeat (first | exact Below.refl _ _ | refine Below.drew ?_ | refine Hp.drewN ?_ _ | refine Below.setCell ?_ (by first | (simp; done) | (simp; omega) | omega) _ | refine Below.alloc ?_ (by first | (simp; done) | (simp; omega) | omega) _ | (refine Hp.step ?_ (by assumption))))⟩
set_option maxHeartbeats 1000000 in
theorem rnew_no (tol : Int) (h : tol < 0 ∨ (0 ≤ tol ∧ 500000 < tol)) (w : World) :
    Calls Try.prog 14 #[.int .i64 tol] w fun e w' => e = .returned (.pointer none) ∧ w = w' := by
  rcases h with h | ⟨h, h1⟩
  all_goals
    go_enter Try.func14, Try.ntmps14
    go_wp2_with (fail)
    go_ret
    exact ⟨rfl, rfl⟩
theorem Sl.len {w : World} {base : Nat} {v : Value} {l : List Sm} (h : Sl w base v l) : ∃ a c, v = .slice a l.length c ∧ Cs w a l.length (zof l) := by
  rcases h with ⟨rfl, rfl⟩ | ⟨h0, b, o, c, hb, hv, hc, s⟩
  · exact ⟨none, 0, rfl, ⟨.inl rfl⟩⟩
  · exact ⟨_, c, hv, s⟩
set_option maxHeartbeats 1000000 in
theorem rlen_any {base g : Nat} {tol : Int} {l : List Sm} {any : Bool} {fr : Int} (w : World) (F : Ri w base g tol l any fr) :
    Calls Try.prog 22 #[.pointer (some ⟨g, 0, none⟩)] w fun e w' => e = .returned (.int .i64 (l.length : Nat)) ∧ w = w' := by
  obtain ⟨v, c, s⟩ := F.c1
  obtain ⟨a, cp, rfl, _⟩ := s.len
  obtain ⟨n, hn⟩ : ∃ n, l.length = n := ⟨_, rfl⟩
  rw [hn] at c ⊢
  clear hn F s
  go_enter Try.func22, Try.ntmps22
  go_wp2_with (fail)
  go_ret
  exact ⟨rfl, rfl⟩
theorem apart_any (a b : Int) (a1 : -4503599627370496 ≤ a) (a2 : a ≤ 4503599627370496) (b1 : -4503599627370496 ≤ b) (b2 : b ≤ 4503599627370496) (w : World) :
    Calls Try.prog 37 #[.int .i64 a, .int .i64 b] w fun e w' => e = .returned (.int .i64 (min (Fx.iabs (a - b)) 1073741824)) ∧ w = w' := by
  have E := Lib.hid (max_abs a b)
  go_enter Try.func37, Try.ntmps37
  go_wp2_with (fail)
  go_ret
  exact ⟨by rw [← E.out] <;> rfl, rfl⟩
set_option maxHeartbeats 2000000 in
theorem root22_any (n : Nat) (h : n ≤ 1152921504606846976) (w : World) : Calls Try.prog 38 #[.int .i64 n] w fun e w' => e = .returned (.int .i64 (Fx.isq n)) ∧ ∃ q, w' = w.drewN q := by
  have H0 := Lib.hid (ra_start h)
  have hn : (n : Int) ≤ 1152921504606846976 := by omega
  clear h
  go_enter Try.func38, Try.ntmps38
  go_wp2_with (fail)
  go_loopw [3, 4] (fun a b wr => ∃ r : Nat, a = .int .i64 (r : Int) ∧ ((∃ j : Nat, b = .int .i64 (j : Int) ∧ j ≤ 30 ∧ Ra n r (j + 1)) ∨ (b = .int .i64 (-1) ∧ Ra n r 0)) ∧ ∃ q, wr = w.drewN q) (fun _ b _ => (intOf b + 1).toNat)
  case atStart => exact ⟨0, rfl, .inl ⟨30, rfl, by omega, H0.out⟩, 0, rfl⟩
  case round =>
    obtain ⟨r, rfl, ⟨j, rfl, hj, R⟩ | ⟨rfl, R⟩, q, rfl⟩ := hrel
    · obtain ⟨s1, s2, s3, s4⟩ := ra_step R
      have hp : 2 ^ j < 2147483648 := by omega
      obtain ⟨p, ep⟩ : ∃ p, 2 ^ j = p := ⟨_, rfl⟩
      have e0 : ((2 : Int) ^ j) = (p : Int) := by rw [← ep]; simp
      have e1 : IntKind.i64.wrap (p : Int) = (p : Int) := IntWalk.i64_in _ (by omega)
      rw [ep] at s1 s2 s3 s4 hp
      obtain ⟨t, et⟩ : ∃ t, (r + p) * (r + p) = t := ⟨_, rfl⟩
      rw [et] at s2 s3 s4
      have e2 : IntKind.i64.wrap ((r : Int) + (p : Int)) = (r : Int) + (p : Int) := IntWalk.i64_in _ (by omega)
      have e3 : IntKind.i64.wrap (((r : Int) + (p : Int)) * ((r : Int) + (p : Int))) = (t : Int) := by
        rw [← et, ← Int.natCast_add, ← Int.natCast_mul]; exact IntWalk.i64_in _ (by omega)
      have e4 : ((r : Int) + (p : Int)) * ((r : Int) + (p : Int)) = (t : Int) := by rw [← et, ← Int.natCast_add, ← Int.natCast_mul]
      have S3 := Lib.hid s3; have S4 := Lib.hid s4
      have t0 : (t : Int) ≤ 4611686018427387904 := by omega
      clear R H0 s3 s4 et ep
      by_cases c : (t : Int) ≤ (n : Int)
      · have X := Lib.hid (S3.out (by omega))
        go_wp2_with (fail)
        go_quiet (fail)
        go_wp2_with (fail)
        go_roundw
        case rel =>
          refine ⟨r + p, by go_num, ?_, _, by first | rfl | exact World.drewN_drewN _ _ _⟩
          rcases j with _ | j
          · exact .inr ⟨rfl, X.out⟩
          · exact .inl ⟨j, by go_num, by omega, X.out⟩
        case measure => (simp [intOf] <;> omega)
      · have X := Lib.hid (S4.out (by omega))
        go_wp2_with (fail)
        go_quiet (fail)
        go_wp2_with (fail)
        go_roundw
        case rel =>
          refine ⟨r, rfl, ?_, _, by first | rfl | exact World.drewN_drewN _ _ _⟩
          rcases j with _ | j
          · exact .inr ⟨rfl, X.out⟩
          · exact .inl ⟨j, by go_num, by omega, X.out⟩
        case measure => (simp [intOf] <;> omega)
    · have F := Lib.hid (ra_end R)
      clear R H0
      go_wp2_with (fail)
      go_ret
      exact ⟨by rw [F.out] <;> rfl, q, rfl⟩
end Go.Proofs.Ytdaedhgbkamjpaa.JxW
