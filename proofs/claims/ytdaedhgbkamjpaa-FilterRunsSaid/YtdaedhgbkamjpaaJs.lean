/- slices.SortFunc of samples by the filter's closure. -/
import Derived.Test.YtdaedhgbkamjpaaJm
import Derived.Shelf.SlSortCmp.SmallK
import Derived.LoopTactic
set_option linter.unusedVariables false
set_option linter.unusedSimpArgs false
namespace Go.Proofs.Ytdaedhgbkamjpaa.JxW
open Go.RowKit Go.Shelf Go.Lib Go.Sort
open Go.Proofs.Ytdaedhgbkamjpaa.Jx
/-- what the closure returns -/
def cf (x y : Sm) : Int := if Lib.compareInt x.d y.d ≠ 0 then Lib.compareInt x.d y.d else Lib.compareInt y.t x.t
theorem cmp_cases (x y : Int) : (x < y ∧ Lib.compareInt x y = -1) ∨ (x = y ∧ Lib.compareInt x y = 0) ∨ (y < x ∧ Lib.compareInt x y = 1) := by
  unfold Lib.compareInt
  by_cases h1 : x < y
  · exact .inl ⟨h1, by simp [h1]⟩
  · by_cases h2 : y < x
    · exact .inr (.inr ⟨h2, by simp [h1, h2]⟩)
    · exact .inr (.inl ⟨by omega, by simp [h1, h2]⟩)
theorem cf_lt (x y : Sm) : Go.Proofs.ltOf cf x y = decide (bef x y) := by
  unfold Go.Proofs.ltOf
  rw [Bool.eq_iff_iff]
  simp only [decide_eq_true_eq]
  unfold cf bef
  rcases cmp_cases x.d y.d with ⟨h1, e1⟩ | ⟨h1, e1⟩ | ⟨h1, e1⟩ <;> rcases cmp_cases y.t x.t with ⟨h2, e2⟩ | ⟨h2, e2⟩ | ⟨h2, e2⟩ <;> rw [e1, e2] <;> simp <;> omega
set_option maxHeartbeats 2000000 in
theorem closure_any (x y : Sm) (W : World) : Calls Try.prog 45 #[.agg (enc x).toArray, .agg (enc y).toArray] W fun e w' => e = .returned (.int .i64 (cf x y)) ∧ ∃ q os', w' = grow (W.drewN q) os' := by
  have h1 := fun w => Try.cmp_Compare_int x.d y.d w
  have h2 := fun w => Try.cmp_Compare_int y.t x.t w
  have hc : cf x y = if Lib.compareInt x.d y.d ≠ 0 then Lib.compareInt x.d y.d else Lib.compareInt y.t x.t := rfl
  rw [hc]
  clear hc
  obtain ⟨xo, xd, xp, xt⟩ := x
  obtain ⟨yo, yd, yp, yt⟩ := y
  simp only at h1 h2 ⊢
  change Calls _ _ #[.agg #[.int .i64 xo, .int .i64 xd, .int .i64 xp, .int .i64 xt], .agg #[.int .i64 yo, .int .i64 yd, .int .i64 yp, .int .i64 yt]] _ _
  generalize Lib.compareInt xd yd = r1 at h1 ⊢
  generalize Lib.compareInt yt xt = r2 at h2 ⊢
  have H1 := Lib.hid h1; have H2 := Lib.hid h2
  clear h1 h2
  by_cases z1 : r1 = 0
  · have z1' : (r1 != 0) = false := by simpa using z1
    have E : Hid ((if r1 ≠ 0 then r1 else r2) = r2) := Lib.hid (by rw [if_neg (by simpa using z1)])
    rw [E.out]
    clear z1
    go_enter Try.func45, Try.ntmps45
    go_wp2_with (go_at_call 46; first | ((with_reducible refine (H1.out _).mono ?_); rintro e w' ⟨rfl, rfl⟩) | ((with_reducible refine (H2.out _).mono ?_); rintro e w' ⟨rfl, rfl⟩))
    go_ret
    exact ⟨rfl, 0, _, by rw [alloc_eq_grow, alloc_eq_grow, grow_grow]; rfl⟩
  · have z1' : (r1 != 0) = true := by simpa using z1
    have E : Hid ((if r1 ≠ 0 then r1 else r2) = r1) := Lib.hid (by rw [if_pos z1])
    rw [E.out]
    clear z1
    go_enter Try.func45, Try.ntmps45
    go_wp2_with (go_at_call 46; first | ((with_reducible refine (H1.out _).mono ?_); rintro e w' ⟨rfl, rfl⟩) | ((with_reducible refine (H2.out _).mono ?_); rintro e w' ⟨rfl, rfl⟩))
    go_ret
    exact ⟨rfl, 0, _, by rw [alloc_eq_grow, alloc_eq_grow, grow_grow]; rfl⟩
theorem swo : SWO (Go.Proofs.ltOf cf) where
  irrefl x := by rw [cf_lt]; simp; unfold bef; omega
  trans x y z h1 h2 := by rw [cf_lt] at *; simp at *; unfold bef at *; omega
  ntrans x y z h1 h2 := by rw [cf_lt] at *; simp at *; unfold bef at *; omega
theorem arr_nth (l : List Sm) (i : Nat) : (l.toArray)[i]! = nth l i := by
  unfold nth; simp [List.getD_eq_getElem?_getD, Array.getElem!_eq_getD, Array.getD_eq_getD_getElem?]
theorem enc_at (x : Sm) {j : Nat} (h : j < 4) : (enc x)[j]! = .int .i64 (fld x j) := by
  match j, h with
  | 0, _ => rfl
  | 1, _ => rfl
  | 2, _ => rfl
  | 3, _ => rfl
theorem holds_of {w : World} {g : Nat} {l : List Sm} (o : Oz w g l.length (zof l)) : HoldsK enc 4 w g 0 l.toArray := by
  intro t ht
  rw [size_flatK] at ht
  have ht' : t < l.length * 4 := by simpa using ht
  rw [get_flatK _ _ _ _ ht, arr_nth, enc_at _ (Nat.mod_lt _ (by omega)), Nat.zero_add]
  have := o.c (t / 4) (t % 4) (by omega) (by omega)
  rw [show t / 4 * 4 + t % 4 = t by omega] at this
  exact this
theorem oz_of {w : World} {g : Nat} {d : Array Sm} (hg : g < w.heap.size) (h : HoldsK enc 4 w g 0 d) : Oz w g d.toList.length (zof d.toList) := by
  refine ⟨hg, fun i j hi hj => ?_⟩
  have hi' : i < d.size := by simpa using hi
  have ht : i * 4 + j < (flatK enc 4 d).size := by rw [size_flatK]; omega
  have := h (i * 4 + j) ht
  rw [size_flatK] at ht
  rw [get_flatK _ _ _ _ ht, show (i * 4 + j) / 4 = i by omega, show (i * 4 + j) % 4 = j by omega, enc_at _ hj, Nat.zero_add] at this
  have e := arr_nth d.toList i
  rw [Array.toArray_toList] at e
  rw [e] at this
  exact this
theorem sort_below {w : World} {g n : Nat} {d d' : Array Sm} {os : Array Obj} (hH : HoldsK enc 4 w g 0 d) (hg : g < w.heap.size) : Below g w (sortWorldK enc 4 w g 0 n d' os) := by
  refine ⟨rfl, rfl, rfl, ?_, fun i hi => ?_⟩
  · show w.heap.size ≤ ((mapBlock (Sort.ahead w n) g (putCells id 0 (flatK enc 4 d'))).heap ++ os).size
    unfold mapBlock; simp [Sort.ahead]
  · show ((mapBlock (Sort.ahead w n) g (putCells id 0 (flatK enc 4 d'))).heap ++ os)[i]? = w.heap[i]?
    unfold mapBlock
    rw [Array.getElem?_append_left (by simp [Sort.ahead]; omega)]
    simp [Sort.ahead, Array.getElem?_modify]
    omega
theorem hlen (n : Nat) (W : World) (h : n ≤ 12) : Calls Try.prog 53 #[.int .u64 n] W fun e w' => (∃ l : Int, e = .returned (.int .i64 l)) ∧ w' = W :=
  (Try.bits_Len n W (by omega) (by omega)).mono fun _ _ ⟨he, hw⟩ => ⟨⟨_, he⟩, hw⟩
/-- slices.SortFunc: a valid list of the call's own is in its order behind it -/
theorem sort_any {l : List Sm} (V : Val l) (g cap : Nat) (w : World) (o : Oz w g l.length (zof l)) :
    Calls Try.prog 44 #[.slice (some ⟨g, 0, none⟩) l.length cap, .func (.func 45) #[] #[]] w fun e w' => e = .returned (.tuple #[]) ∧ Oz w' g l.length (zof (ord l)) ∧ Below g w w' := by
  have eg : ∀ args w, (callFunc 45 args).run Try.prog w = .ok (.enter 45 args) w := enters_of Try.func45 (by kernel_rfl) rfl
  have hH := holds_of o
  have hs : l.toArray.size = l.length := by simp
  have hcon := AnyQ.slices_SortFunc_small_sorted Try.sortE 4 Try.isAgg29 Try.sizeOf29 enc (fun _ => rfl) (fun x v hv => by simp [enc] at hv; rcases hv with rfl | rfl | rfl | rfl <;> rfl) cf 45 #[] swo g 0 cap l.toArray w eg
    (fun _ _ _ _ x y => closure_any x y _) hH o.lt (by rw [hs]; have := V.len; omega) hlen
  rw [hs] at hcon
  change Calls Try.prog 44 _ _ _ at hcon
  refine hcon.mono ?_
  rintro e w' ⟨he, d', n, os, hp, hsd, rfl⟩
  refine ⟨he, ?_, sort_below hH o.lt⟩
  have hsz : d'.size = l.length := by rw [hp.1, hs]
  have hperm : d'.toList.Perm l := by
    have := hp.2.2
    rw [show d'.extract 0 l.length = d' by rw [← hsz]; simp, show l.toArray.extract 0 l.length = l.toArray by rw [← hs]; simp] at this
    simpa using this
  have hsort : d'.toList.Pairwise nb := by
    refine List.pairwise_iff_getElem.2 fun i j hi hj hij => ?_
    have := hsd i j (Nat.zero_le _) hij (by simp at hj; omega)
    rw [cf_lt] at this
    have h := of_decide_eq_false this
    have ei := arr_nth d'.toList i; have ej := arr_nth d'.toList j
    rw [Array.toArray_toList] at ei ej
    rw [ei, ej, nth_eq hi, nth_eq hj] at h
    exact h
  have e := ord_uniq V hperm hsort
  have hg : g < (sortWorldK enc 4 w g 0 n d' os).heap.size := Nat.lt_of_lt_of_le o.lt (sort_below (n := n) (d' := d') (os := os) hH o.lt).size
  have hh : HoldsK enc 4 (sortWorldK enc 4 w g 0 n d' os) g 0 d' := by
    unfold sortWorldK
    refine holdsK_grow _ _ _ _ _ _ _ ?_ (holdsK_putRowK _ _ _ _ _ l.toArray d' (holdsK_ahead _ _ w n g 0 _ hH) hp.1)
    show g < (mapBlock (Sort.ahead w n) g (putCells id 0 (flatK enc 4 d'))).heap.size
    unfold mapBlock; simp [Sort.ahead]; exact o.lt
  have := oz_of hg hh
  rw [e, ord_len] at this
  exact this
set_option maxHeartbeats 2000000 in
theorem ins_zero (a : Option Addr) (c : Nat) (f : Value) (w : World) : Calls Try.prog 60 #[.slice a 0 c, .int .i64 0, .int .i64 0, f] w fun e w' => e = .returned (.tuple #[]) ∧ w = w' := by
  go_enter Try.func60, Try.ntmps60
  go_wp2_with (fail)
  refine wp_loop_rounds 1 ?_
  rw [rounds_succ]
  go_wp2_with (fail)
  (try simp only [Exit.inBlock, Exit.then]); refine bodyPost_end (results_none rfl _ _ _) rfl ⟨rfl, rfl⟩
set_option maxHeartbeats 2000000 in
theorem pdq_zero (a : Option Addr) (c : Nat) (l : Int) (f : Value) (w : World) : Calls Try.prog 52 #[.slice a 0 c, .int .i64 0, .int .i64 0, .int .i64 l, f] w fun e w' => e = .returned (.tuple #[]) ∧ w = w' := by
  go_enter Try.func52, Try.ntmps52
  go_wp2_with (fail)
  refine wp_loop_rounds 1 ?_
  rw [rounds_succ]
  go_wp2_with (go_at_call 60; refine (ins_zero a c f _).mono ?_; rintro e w' ⟨rfl, rfl⟩)
  (try simp only [Exit.inBlock, Exit.then]); refine bodyPost_ret (results_none rfl _ _ _) rfl ⟨rfl, rfl⟩
set_option maxHeartbeats 2000000 in
theorem sort_zero (a : Option Addr) (c : Nat) (w : World) : Calls Try.prog 44 #[.slice a 0 c, .func (.func 45) #[] #[]] w fun e w' => e = .returned (.tuple #[]) ∧ w = w' := by
  go_enter Try.func44, Try.ntmps44
  go_wp2_with (first | (go_at_call 53; refine (hlen 0 _ (by omega)).mono ?_; rintro e w' ⟨⟨l, rfl⟩, rfl⟩) | (go_at_call 52; refine (pdq_zero a c _ _ _).mono ?_; rintro e w' ⟨rfl, rfl⟩))
  go_end0
  exact ⟨rfl, rfl⟩
end Go.Proofs.Ytdaedhgbkamjpaa.JxW
