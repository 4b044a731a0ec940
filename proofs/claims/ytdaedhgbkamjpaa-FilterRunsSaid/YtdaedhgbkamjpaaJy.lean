/- What the laws of layer 22 share: the list that comes in, the stages behind the first k samples. -/
import Derived.Test.YtdaedhgbkamjpaaJo
import Derived.LoopTactic
set_option linter.unusedVariables false
set_option linter.unusedSimpArgs false
namespace Go.Proofs.Ytdaedhgbkamjpaa.Jx
/-- the stages behind the first k samples -/
def run (l : List Sm) : Nat → List Sm
  | 0 => []
  | k + 1 => addL (run l k) (nth l k)
theorem run_val (l : List Sm) : ∀ k, Val (run l k)
  | 0 => Val.nil
  | k + 1 => (run_val l k).add _
/-- the last one of those with the least delay -/
def bst (m : List Sm) : Nat → Nat
  | 0 => 0
  | k + 1 => if k = 0 then 0 else if (nth m k).d ≤ (nth m (bst m k)).d then k else bst m k
theorem bst_one (m : List Sm) : bst m 1 = 0 := by simp [bst]
theorem bst_yes {m : List Sm} {k : Nat} (h : k ≠ 0) (g : (nth m k).d ≤ (nth m (bst m k)).d) : bst m (k + 1) = k := by simp only [bst]; rw [if_neg h, if_pos g]
theorem bst_no {m : List Sm} {k : Nat} (h : k ≠ 0) (g : ¬ (nth m k).d ≤ (nth m (bst m k)).d) : bst m (k + 1) = bst m k := by simp only [bst]; rw [if_neg h, if_neg g]
theorem bst_lt (m : List Sm) : ∀ k, 0 < k → bst m k < k
  | 0, h => by omega
  | k + 1, _ => by
    simp only [bst]
    split
    · omega
    · split
      · omega
      · have := bst_lt m k (by omega); omega
theorem nb_refl (x : Sm) : nb x x := by unfold nb bef; omega
theorem bst_le {m : List Sm} (V : Val m) : ∀ k i, k ≤ m.length → i < k → nb (nth m (bst m k)) (nth m i)
  | 0, i, _, h => by omega
  | k + 1, i, hk, h => by
    by_cases h0 : k = 0
    · obtain rfl : i = 0 := by omega
      subst h0; rw [bst_one]; exact nb_refl _
    · by_cases g : (nth m k).d ≤ (nth m (bst m k)).d
      · rw [bst_yes h0 g]
        by_cases e : i = k
        · rw [e]; exact nb_refl _
        · have a := bst_le V k i (by omega) (by omega)
          have b := V.lt (show i < k by omega) (by omega)
          unfold nb bef at *; omega
      · rw [bst_no h0 g]
        by_cases e : i = k
        · rw [e]; unfold nb bef; omega
        · exact bst_le V k i (by omega) (by omega)
theorem first_le {m : List Sm} (V : Val m) {x : Sm} (hx : x ∈ m) : nb (first m) x := by
  have hx2 := (ord_mem (l := m)).2 hx
  have s := ord_sorted V
  unfold first nth
  cases h : ord m with
  | nil => rw [h] at hx2; simp at hx2
  | cons y t =>
    rw [h] at s hx2
    simp
    rcases List.mem_cons.1 hx2 with rfl | hx3
    · exact nb_refl _
    · exact (List.pairwise_cons.1 s).1 _ hx3
theorem bst_first {m : List Sm} (V : Val m) (h : 0 < m.length) : nth m (bst m m.length) = first m := by
  have lt := bst_lt m m.length h
  have a := nth_mem lt
  have b := first_mem h
  obtain ⟨i, hi, e⟩ := mem_nth b
  refine same_t V a b (nb_anti ?_ (first_le V a))
  rw [← e]; exact bst_le V _ i (Nat.le_refl _) hi
theorem grow_bad {x : Sm} {now tol : Int} (h : (grow x now tol).e ≠ 0) : grow x now tol = ⟨0, 0, 0, 0, (grow x now tol).e⟩ := by
  unfold grow Sx.growR at *
  split at h
  · rename_i h1; rw [if_pos h1]
  · rename_i h1
    rw [if_neg h1]
    split at h
    · rename_i h2; rw [if_pos h2]
    · rename_i h2
      rw [if_neg h2]
      unfold Sx.fin5 at *
      split at h
      · simp at h
      · rename_i h3; rw [if_neg h3]
theorem best_grow_eq {m : List Sm} {now tol : Int} (h0 : 0 < m.length) (h : ¬ now < lastT m) : bestR m now tol = grow (first m) now tol := by
  unfold bestR
  rw [if_neg (by intro e; rw [e] at h0; simp at h0), if_neg h]
  split
  · rfl
  · rename_i g; exact (grow_bad g).symm
end Go.Proofs.Ytdaedhgbkamjpaa.Jx
namespace Go.Proofs.Ytdaedhgbkamjpaa.JxW
open Go.RowKit FxW
open Go.Proofs.Ytdaedhgbkamjpaa.Jx
theorem cs_of {w : World} {a : Option Addr} {n cap : Nat} {z : Nat → Nat → Int} (h : In.IsStructs [.i64, .i64, .i64, .i64] w a n cap z) : Cs w a n z := by
  by_cases h0 : n = 0
  · exact ⟨.inl h0⟩
  · obtain ⟨b, o, ha, hb, _⟩ := h.elem (by simp) 0 (by omega)
    refine ⟨.inr ⟨b, o, ha, hb, fun i j hi hj => ?_⟩⟩
    obtain ⟨b', o', ha', hb', hc⟩ := h.elem (by simp) i hi
    obtain ⟨rfl, rfl⟩ : b' = b ∧ o' = o := by rw [ha] at ha'; simpa [eq_comm] using ha'
    have hk : ([.i64, .i64, .i64, .i64] : List IntKind)[j]? = some .i64 := by
      have hj' : j = 0 ∨ j = 1 ∨ j = 2 ∨ j = 3 := by omega
      rcases hj' with rfl | rfl | rfl | rfl <;> rfl
    exact (hc j .i64 hk).1
theorem in_smp {w : World} {a : Option Addr} {n cap : Nat} {z : Nat → Nat → Int} (h : In.IsStructs [.i64, .i64, .i64, .i64] w a n cap z) : ∃ l : List Sm, l.length = n ∧ Cs w a l.length (zof l) :=
  ⟨lst n z, lst_len n z, by rw [lst_len]; exact (cs_of h).congr fun i j hi hj => (lst_zof hi hj).symm⟩
set_option maxHeartbeats 4000000 in
theorem same_smps (l : List Sm) (a b : Option Addr) (c d : Nat) (hl : l.length ≤ 12) (w : World) (S : Cs w a l.length (zof l)) (T : Cs w b l.length (zof l)) :
    Calls Try.prog 25 #[.slice a l.length c, .slice b l.length d] w fun e w' => e = .returned (.bool true) ∧ Below w.heap.size w w' := by
  have hS := Lib.hid (fun k (h : k < l.length) => cell_of S h); have hT := Lib.hid (fun k (h : k < l.length) => cell_of T h)
  obtain ⟨n, hn⟩ : ∃ n, l.length = n := ⟨_, rfl⟩
  rw [hn] at hl hS hT ⊢
  clear S T hn
  go_enter Try.func25, Try.ntmps25
  go_wp2_with (fail)
  go_loopw [5] (fun c wr => ∃ k : Nat, k ≤ n ∧ c = .int .i64 k ∧ ∃ q, wr = w.drewN q) (fun c _ => n - (intOf c).toNat)
  case atStart => exact ⟨0, by omega, rfl, 0, rfl⟩
  case round =>
    obtain ⟨k, hk, rfl, q, rfl⟩ := hrel
    by_cases hlt : k < n
    · obtain ⟨b1, o1, rfl, g1, x0, x1, x2, x3⟩ := hS.out k hlt
      obtain ⟨b2, o2, rfl, g2, y0, y1, y2, y3⟩ := hT.out k hlt
      obtain ⟨x, ex⟩ : ∃ x, nth l k = x := ⟨_, rfl⟩
      rw [ex] at x0 x1 x2 x3 y0 y1 y2 y3
      obtain ⟨xo, xd, xp, xt⟩ := x
      simp only at x0 x1 x2 x3 y0 y1 y2 y3
      clear ex
      go_wp2_with (fail)
      go_quiet (fail)
      go_wp2_with (fail)
      go_roundw
      case rel => exact ⟨k + 1, by omega, by go_num, _, by first | rfl | exact World.drewN_drewN _ _ _⟩
      case measure => (simp [intOf] <;> omega)
    · obtain rfl : n = k := by omega
      go_wp2_with (fail)
      go_ret
      exact ⟨rfl, Hp.drewN (Below.refl _ _) q⟩
theorem same_at {l : List Sm} {a b : Option Addr} {c d n m : Nat} (hn : l.length = n) (hm : l.length = m) (hl : n ≤ 12) (w : World) (S : Cs w a n (zof l)) (T : Cs w b m (zof l)) :
    Calls Try.prog 25 #[.slice a n c, .slice b m d] w fun e w' => e = .returned (.bool true) ∧ Below w.heap.size w w' := by
  subst hn; subst hm; exact same_smps l a b c d hl w S T
theorem scheck_callq {w : World} {z : Qb.Later w} {xo xd xp xt r : Int} (h : Hid (Sx.chk xo xd xp xt = r)) :
    Calls Try.prog 28 #[.agg #[.int .i64 xo, .int .i64 xd, .int .i64 xp, .int .i64 xt]] z.1 fun e w'' => e = .returned (.int .i64 r) ∧ ∃ z' : Qb.Later w, w'' = z'.1 := by
  rw [← h.out]; exact Qb.call (scheck_any xo xd xp xt _)
/-- a list that is being made, past a call that turns block g alone -/
theorem Rk.but {w w' : World} {base g : Nat} {v : Value} {l : List Sm} (h : Rk w base v l) (k : But g w w') (hg : g < base) : Rk w' base v l := by
  obtain ⟨h1, h2⟩ := h.own
  refine ⟨h1, ?_⟩
  rcases h2 with h2 | ⟨b, cap, cur, hv, hb, hh, r⟩
  · exact .inl h2
  · exact .inr ⟨b, cap, cur, hv, hb, (k.block b (Hp.blk_lt hh) (by omega)).trans hh, r⟩
/-- a filter past an append -/
theorem Fi.grown {w w' : World} {g base : Nat} {tol : Int} {l q : List Sm} {any : Bool} {fr : Int} {v : Value} (h : Fi w g tol l any fr) (k : w.grownBy w' v.ownBlock) (r : Rk w base v q) (hg : g < base) : Fi w' g tol l any fr :=
  h.of (c := 0) k.size (k.block g h.lt (fun e => by have := (World.ownsRow.lt r.own g e.symm).1; omega))
end Go.Proofs.Ytdaedhgbkamjpaa.JxW
