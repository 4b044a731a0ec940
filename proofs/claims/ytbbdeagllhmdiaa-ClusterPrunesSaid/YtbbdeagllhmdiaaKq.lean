/- slices.Delete of one candidate of a list of the call's own. -/
import Derived.Test.YtbbdeagllhmdiaaKp
import Derived.Shelf.RegionOpenPlain
import Derived.Deep.RegionLaw
import Derived.Lib.SliceRun
set_option linter.unusedVariables false
set_option linter.unusedSimpArgs false
namespace Go.Proofs.Ytbbdeagllhmdiaa.CxW
open Go.RowKit Go.Deep
open Go.Proofs.Ytbbdeagllhmdiaa.Kx
theorem below_cells {B g : Nat} {w0 : World} (hg : B ≤ g) : ∀ (vs : List Value) (o : Nat) (w : World), Below B w0 w → Below B w0 (w.setCells g o vs)
  | [], _, _, h => h
  | v :: r, o, w, h => below_cells hg r (o + 1) _ (h.setCell hg _)
theorem size_cells {g : Nat} : ∀ (vs : List Value) (o : Nat) (w : World), (w.setCells g o vs).heap.size = w.heap.size
  | [], _, _ => rfl
  | v :: r, o, w => by rw [World.setCells, size_cells r (o + 1)]; simp
theorem zero5 (n : Nat) (hn : n = 1) : (Builtin.zeroCells (Value.agg #[.int .i64 0, .int .i64 0, .int .i64 0, .int .i64 0, .int .i64 0]).cells n).toList = [.int .i64 0, .int .i64 0, .int .i64 0, .int .i64 0, .int .i64 0] := by subst hn; simp [Builtin.zeroCells, Value.cells]; rfl
theorem clear_one (w : World) (ty : TypeId) (g o c : Nat) (hc : ∀ j, j < 5 → (w.cell? ⟨g, o + j, none⟩).isSome = true) (hf : ∀ j, j < 5 → w.frozen? ⟨g, o + j, none⟩ = false) :
    (Builtin.clear_ #[22] ty #[.slice (some ⟨g, o, none⟩) 1 c]).run Try.prog w = .ok (.tuple #[]) (w.setCells g o [.int .i64 0, .int .i64 0, .int .i64 0, .int .i64 0, .int .i64 0]) := by
  have hst := run_storeCells_cells (P := Try.prog) g o [.int .i64 0, .int .i64 0, .int .i64 0, .int .i64 0, .int .i64 0] 0 w (by simpa using hc) (by simpa using hf) (by intro v hv; simp at hv; subst hv; rfl)
  simp only [Nat.add_zero] at hst
  simp [Builtin.clear_, run_underlying Try.underlying22, Try.zeroValue36, zero5 1 rfl, hst]
set_option maxHeartbeats 4000000 in
set_option maxRecDepth 100000 in
theorem delete_any (l : List Cd) (g c i j : Nat) (hj : j = i + 1) (hi : i < l.length) (hc : l.length ≤ c) (w : World) (o : Oz w g l.length (zof l)) :
    Calls Try.prog 34 #[.slice (some ⟨g, 0, none⟩) l.length c, .int .i64 i, .int .i64 j] w fun e w' => e = .returned (.slice (some ⟨g, 0, none⟩) (l.length - 1) c) ∧ Oz w' g (l.length - 1) (zof (l.eraseIdx i)) ∧ Below g w w' := by
  obtain ⟨n, hn⟩ : ∃ n, l.length = n := ⟨_, rfl⟩
  have HN := Lib.hid hn
  rw [hn] at hi hc o ⊢
  obtain ⟨news, hnews⟩ : ∃ news, news = flat (fun a b => zof l (j + a) b) (n - j) := ⟨_, rfl⟩
  have hlen : news.length = (n - j) * 5 := by rw [hnews, flat_len]
  have hget : ∀ a b, a < n - j → b < 5 → news[a * 5 + b]? = some (.int .i64 (zof l (j + a) b)) := fun a b ha hb => by rw [hnews, flat_at _ ha hb]
  have hgett : ∀ t, t < (n - j) * 5 → news[t]? = some (.int .i64 (zof l (j + t / 5) (t % 5))) := fun t ht => by
    have := hget (t / 5) (t % 5) (by omega) (by omega)
    rwa [show t / 5 * 5 + t % 5 = t by omega] at this
  have ocell : ∀ t, t < n * 5 → w.cell? ⟨g, t, none⟩ = some (.int .i64 (zof l (t / 5) (t % 5))) ∧ w.frozen? ⟨g, t, none⟩ = false := fun t ht => by
    have := o.c (t / 5) (t % 5) (by omega) (by omega)
    rwa [show t / 5 * 5 + t % 5 = t by omega] at this
  obtain ⟨A, hA, hsrc⟩ : ∃ A : Addr, (if c = j then some (⟨g, 0, none⟩ : Addr) else some ⟨g, j * 5, none⟩) = some A ∧ Hid (∀ t u, news[t]? = some u → w.drew.cell? (A.add t) = some u) := by
    by_cases h : c = j
    · refine ⟨⟨g, 0, none⟩, by simp [h], fun t u hu => ?_⟩
      have h0 : news.length = 0 := by rw [hlen]; omega
      rw [List.length_eq_zero_iff.1 h0] at hu
      simp at hu
    · refine ⟨⟨g, j * 5, none⟩, by simp [h], fun t u hu => ?_⟩
      have ht : t < (n - j) * 5 := by
        have := (List.getElem?_eq_some_iff.1 hu).1
        rwa [hlen] at this
      rw [hgett t ht] at hu
      rw [add_at]
      have := (ocell (j * 5 + t) (by omega)).1
      rw [show (j * 5 + t) / 5 = j + t / 5 by omega, show (j * 5 + t) % 5 = t % 5 by omega, hu] at this
      exact this
  have s1 : Hid (news.length = (n - j) * 5) := Lib.hid hlen
  have s2 : Hid (∀ u ∈ news, u.oneCell' = true) := Lib.hid fun u hu => by
    rw [hnews] at hu; unfold flat at hu; simp only [List.mem_map] at hu; obtain ⟨t, _, rfl⟩ := hu; rfl
  have s3 : Hid (∀ t, t < news.length → (w.drew.cell? ⟨g, 0 + i * 5 + t, none⟩).isSome = true ∧ w.drew.frozen? ⟨g, 0 + i * 5 + t, none⟩ = false) := Lib.hid fun t ht => by
    rw [hlen] at ht
    rw [Nat.zero_add]
    have := ocell (i * 5 + t) (by omega)
    exact ⟨by show (w.cell? _).isSome = true; rw [this.1]; rfl, this.2⟩
  obtain ⟨W1, hW1⟩ : ∃ W1, W1 = w.drew.setCells g (0 + i * 5) news := ⟨_, rfl⟩
  have in1 : ∀ t (h : t < (n - j) * 5), W1.cell? ⟨g, i * 5 + t, none⟩ = some (.int .i64 (zof l (j + t / 5) (t % 5))) := fun t ht => by
    have := World.cell?_setCells_in g news (0 + i * 5) w.drew (fun q hq => (s3.out q hq).1) t (by rw [hlen]; exact ht)
    rw [← hW1, Nat.zero_add] at this
    rw [this]
    have e := hgett t ht
    rw [List.getElem?_eq_getElem (by rw [hlen]; exact ht)] at e
    exact e
  have out1 : ∀ t, t < i * 5 ∨ i * 5 + (n - j) * 5 ≤ t → W1.cell? ⟨g, t, none⟩ = w.cell? ⟨g, t, none⟩ := fun t ht => by
    rw [hW1]
    exact World.cell?_setCells_out g news (0 + i * 5) w.drew ⟨g, t, none⟩ (fun _ _ => by rw [hlen]; simp; omega)
  have fr1 : ∀ t, t < n * 5 → W1.frozen? ⟨g, t, none⟩ = false := fun t ht => by
    rw [hW1, World.frozen?_setCells]; exact (ocell t ht).2
  have hcl : ∀ ty, (Builtin.clear_ #[22] ty #[.slice (some ⟨g, (n - 1) * 5, none⟩) 1 (c - (n - 1))]).run Try.prog W1 = .ok (.tuple #[]) (W1.setCells g ((n - 1) * 5) [.int .i64 0, .int .i64 0, .int .i64 0, .int .i64 0, .int .i64 0]) := fun ty =>
    clear_one W1 ty g ((n - 1) * 5) _ (fun b hb => by rw [out1 _ (by omega), (ocell _ (by omega)).1]; rfl) (fun b hb => fr1 _ (by omega))
  have FIN : Hid (Oz (W1.setCells g ((n - 1) * 5) [.int .i64 0, .int .i64 0, .int .i64 0, .int .i64 0, .int .i64 0]) g (n - 1) (zof (l.eraseIdx i)) ∧ Below g w (W1.setCells g ((n - 1) * 5) [.int .i64 0, .int .i64 0, .int .i64 0, .int .i64 0, .int .i64 0])) := Lib.hid (by
    refine ⟨⟨by rw [size_cells, hW1, size_cells]; exact o.lt, fun a b ha hb => ⟨?_, by rw [World.frozen?_setCells]; exact fr1 _ (by omega)⟩⟩, below_cells (Nat.le_refl _) _ _ _ (by rw [hW1]; exact below_cells (Nat.le_refl _) _ _ _ (Below.refl _ _).drew)⟩
    rw [World.cell?_setCells_out g _ ((n - 1) * 5) W1 ⟨g, a * 5 + b, none⟩ (fun _ _ => by simp; omega)]
    unfold zof
    rw [nth_erase]
    by_cases h : a < i
    · rw [if_pos h, out1 _ (by omega)]
      have := (o.c a b (by omega) hb).1
      unfold zof at this; exact this
    · rw [if_neg h]
      have := in1 ((a - i) * 5 + b) (by omega)
      rw [show i * 5 + ((a - i) * 5 + b) = a * 5 + b by omega, show j + ((a - i) * 5 + b) / 5 = a + 1 by omega, show ((a - i) * 5 + b) % 5 = b by omega] at this
      unfold zof at this; exact this)
  have hW : Hid (W1 = w.drew.setCells g (0 + i * 5) news) := Lib.hid hW1
  have hic : i ≤ c := by omega
  have hjc : j ≤ c := by omega
  have hjn : j ≤ n := by omega
  have hij : (((i : Int)) == (j : Int)) = false := by simp; omega
  have hij2 : i ≤ j := by omega
  have e1 : i + (n - j) = n - 1 := by omega
  have e2 : n - (n - 1) = 1 := by omega
  have e3 : n - 1 ≤ n := by omega
  have e4 : n - 1 ≤ c := by omega
  have e5 : ¬ c = n - 1 := by omega
  obtain ⟨i0, hi0, hz0, hz1, hz2⟩ := info_parts info_cand
  have HI := Lib.hid hi0; have H1 := Lib.hid hz1
  clear hW1 in1 out1 fr1 hget hgett hnews hlen ocell o hi0 hz0 hz1 hz2 hj hn
  have mixed : Try.prog.follows Departure.mixedOrders = true := by kernel_rfl
  go_enter Try.func34, Try.ntmps34
  go_wp2_with fail
  go_region_law_o (refine step_append_room rfl (.tmp 22) (.tmp 25) 22 rfl 36 i0 5 Try.underlying22 HI.out H1.out g 0 i c (by simp [Act.eval, Act.put]) A (n - j) (c - j) news (by simp [Act.eval, Act.put]) s1.out hsrc.out s2.out (by omega) s3.out ?_; rw [← hW.out])
  go_wp2
  go_ret
  exact ⟨by rw [← e1] <;> rfl, FIN.out⟩
end Go.Proofs.Ytbbdeagllhmdiaa.CxW
