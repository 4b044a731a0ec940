/- slices.SortFunc of candidates by Order's closure; cluster.Order. -/
import Derived.Test.YtbbdeagllhmdiaaKm
import Derived.Shelf.SlSortCmp.SmallK
set_option linter.unusedVariables false
set_option linter.unusedSimpArgs false
namespace Go.Proofs.Ytbbdeagllhmdiaa.CxW
open Go.RowKit Go.Shelf Go.Lib Go.Sort
open Go.Proofs.Ytbbdeagllhmdiaa.Kx
theorem check_at {l : List Cd} {a : Option Addr} {cap : Nat} {w : World} {r : Int} (h : Hid (Cx.chk l.length (zof l) = r)) (S : Cs w a l.length (zof l)) :
    Calls Try.prog 20 #[.slice a l.length cap] w fun e w' => e = .returned (.int .i64 r) ∧ Below w.heap.size w w' := by
  rw [← h.out]; exact check_any a l.length cap (zof l) w S
set_option maxHeartbeats 2000000 in
theorem closure_any (x y : Cd) (W : World) : Calls Try.prog 24 #[.agg (enc x).toArray, .agg (enc y).toArray] W fun e w' => e = .returned (.int .i64 (cf x y)) ∧ ∃ q os', w' = grow (W.drewN q) os' := by
  have h1 := fun w => Try.cmp_Compare_int x.e y.e w
  have h2 := fun w => Try.cmp_Compare_int x.c y.c w
  have h3 := fun w => Try.cmp_Compare_int x.a y.a w
  have hc : cf x y = if Lib.compareInt x.e y.e ≠ 0 then Lib.compareInt x.e y.e else if Lib.compareInt x.c y.c ≠ 0 then Lib.compareInt x.c y.c else Lib.compareInt x.a y.a := rfl
  rw [hc]
  clear hc
  obtain ⟨xa, xb, xc, xd, xe⟩ := x
  obtain ⟨ya, yb, yc, yd, ye⟩ := y
  simp only at h1 h2 h3 ⊢
  change Calls _ _ #[.agg #[.int .i64 xa, .int .i64 xb, .int .i64 xc, .int .i64 xd, .int .i64 xe], .agg #[.int .i64 ya, .int .i64 yb, .int .i64 yc, .int .i64 yd, .int .i64 ye]] _ _
  generalize Lib.compareInt xe ye = r1 at h1 ⊢
  generalize Lib.compareInt xc yc = r2 at h2 ⊢
  generalize Lib.compareInt xa ya = r3 at h3 ⊢
  have H1 := Lib.hid h1; have H2 := Lib.hid h2; have H3 := Lib.hid h3
  clear h1 h2 h3
  by_cases z1 : r1 = 0
  · have z1' : (r1 != 0) = false := by simpa using z1
    by_cases z2 : r2 = 0
    · have z2' : (r2 != 0) = false := by simpa using z2
      have E : Hid ((if r1 ≠ 0 then r1 else if r2 ≠ 0 then r2 else r3) = r3) := Lib.hid (by rw [if_neg (by simpa using z1), if_neg (by simpa using z2)])
      rw [E.out]
      clear z1 z2
      go_enter Try.func24, Try.ntmps24
      go_wp2_with (go_at_call 25; first | ((with_reducible refine (H1.out _).mono ?_); rintro e w' ⟨rfl, rfl⟩) | ((with_reducible refine (H2.out _).mono ?_); rintro e w' ⟨rfl, rfl⟩) | ((with_reducible refine (H3.out _).mono ?_); rintro e w' ⟨rfl, rfl⟩))
      go_ret
      exact ⟨rfl, 0, _, by rw [alloc_eq_grow, alloc_eq_grow, grow_grow]; rfl⟩
    · have z2' : (r2 != 0) = true := by simpa using z2
      have E : Hid ((if r1 ≠ 0 then r1 else if r2 ≠ 0 then r2 else r3) = r2) := Lib.hid (by rw [if_neg (by simpa using z1), if_pos z2])
      rw [E.out]
      clear z1 z2
      go_enter Try.func24, Try.ntmps24
      go_wp2_with (go_at_call 25; first | ((with_reducible refine (H1.out _).mono ?_); rintro e w' ⟨rfl, rfl⟩) | ((with_reducible refine (H2.out _).mono ?_); rintro e w' ⟨rfl, rfl⟩) | ((with_reducible refine (H3.out _).mono ?_); rintro e w' ⟨rfl, rfl⟩))
      go_ret
      exact ⟨rfl, 0, _, by rw [alloc_eq_grow, alloc_eq_grow, grow_grow]; rfl⟩
  · have z1' : (r1 != 0) = true := by simpa using z1
    have E : Hid ((if r1 ≠ 0 then r1 else if r2 ≠ 0 then r2 else r3) = r1) := Lib.hid (by rw [if_pos z1])
    rw [E.out]
    clear z1
    go_enter Try.func24, Try.ntmps24
    go_wp2_with (go_at_call 25; first | ((with_reducible refine (H1.out _).mono ?_); rintro e w' ⟨rfl, rfl⟩) | ((with_reducible refine (H2.out _).mono ?_); rintro e w' ⟨rfl, rfl⟩) | ((with_reducible refine (H3.out _).mono ?_); rintro e w' ⟨rfl, rfl⟩))
    go_ret
    exact ⟨rfl, 0, _, by rw [alloc_eq_grow, alloc_eq_grow, grow_grow]; rfl⟩
theorem swo : SWO (Go.Proofs.ltOf cf) where
  irrefl x := by rw [cf_lt]; simp; unfold bef; omega
  trans x y z h1 h2 := by rw [cf_lt] at *; simp at *; unfold bef at *; omega
  ntrans x y z h1 h2 := by rw [cf_lt] at *; simp at *; unfold bef at *; omega
theorem arr_nth (l : List Cd) (i : Nat) : (l.toArray)[i]! = nth l i := by
  unfold nth; simp [List.getD_eq_getElem?_getD, Array.getElem!_eq_getD, Array.getD_eq_getD_getElem?]
theorem enc_at (x : Cd) {j : Nat} (h : j < 5) : (enc x)[j]! = .int .i64 (fld x j) := by
  match j, h with
  | 0, _ => rfl
  | 1, _ => rfl
  | 2, _ => rfl
  | 3, _ => rfl
  | 4, _ => rfl
theorem holds_of {w : World} {g : Nat} {l : List Cd} (o : Oz w g l.length (zof l)) : HoldsK enc 5 w g 0 l.toArray := by
  intro t ht
  rw [size_flatK] at ht
  have ht' : t < l.length * 5 := by simpa using ht
  rw [get_flatK _ _ _ _ ht, arr_nth, enc_at _ (Nat.mod_lt _ (by omega)), Nat.zero_add]
  have := o.c (t / 5) (t % 5) (by omega) (by omega)
  rw [show t / 5 * 5 + t % 5 = t by omega] at this
  exact this
theorem oz_of {w : World} {g : Nat} {d : Array Cd} (hg : g < w.heap.size) (h : HoldsK enc 5 w g 0 d) : Oz w g d.toList.length (zof d.toList) := by
  refine ⟨hg, fun i j hi hj => ?_⟩
  have hi' : i < d.size := by simpa using hi
  have ht : i * 5 + j < (flatK enc 5 d).size := by rw [size_flatK]; omega
  have := h (i * 5 + j) ht
  rw [size_flatK] at ht
  rw [get_flatK _ _ _ _ ht, show (i * 5 + j) / 5 = i by omega, show (i * 5 + j) % 5 = j by omega, enc_at _ hj, Nat.zero_add] at this
  have e := arr_nth d.toList i
  rw [Array.toArray_toList] at e
  rw [e] at this
  exact this
theorem sort_below {w : World} {g n : Nat} {d d' : Array Cd} {os : Array Obj} (hH : HoldsK enc 5 w g 0 d) (hg : g < w.heap.size) : Below g w (sortWorldK enc 5 w g 0 n d' os) := by
  refine ⟨rfl, rfl, rfl, ?_, fun i hi => ?_⟩
  · show w.heap.size ≤ ((mapBlock (Sort.ahead w n) g (putCells id 0 (flatK enc 5 d'))).heap ++ os).size
    unfold mapBlock; simp [Sort.ahead]
  · show ((mapBlock (Sort.ahead w n) g (putCells id 0 (flatK enc 5 d'))).heap ++ os)[i]? = w.heap[i]?
    unfold mapBlock
    rw [Array.getElem?_append_left (by simp [Sort.ahead]; omega)]
    simp [Sort.ahead, Array.getElem?_modify]
    omega
theorem hlen (n : Nat) (W : World) (h : n ≤ 12) : Calls Try.prog 37 #[.int .u64 n] W fun e w' => (∃ l : Int, e = .returned (.int .i64 l)) ∧ w' = W :=
  (Try.bits_Len n W (by omega) (by omega)).mono fun _ _ ⟨he, hw⟩ => ⟨⟨_, he⟩, hw⟩
/-- slices.SortFunc: a valid list of the call's own is in its order behind it -/
theorem sort_any {l : List Cd} (V : Val l) (g cap : Nat) (w : World) (o : Oz w g l.length (zof l)) :
    Calls Try.prog 23 #[.slice (some ⟨g, 0, none⟩) l.length cap, .func (.func 24) #[] #[]] w fun e w' => e = .returned (.tuple #[]) ∧ Oz w' g l.length (zof (ord l)) ∧ Below g w w' := by
  have eg : ∀ args w, (callFunc 24 args).run Try.prog w = .ok (.enter 24 args) w := enters_of Try.func24 (by kernel_rfl) rfl
  have hH := holds_of o
  have hs : l.toArray.size = l.length := by simp
  have hcon := AnyQ.slices_SortFunc_small_sorted Try.sortE 5 Try.isAgg36 Try.sizeOf36 enc (fun _ => rfl) (fun x v hv => by simp [enc] at hv; rcases hv with rfl | rfl | rfl | rfl | rfl <;> rfl) cf 24 #[] swo g 0 cap l.toArray w eg
    (fun _ _ _ _ x y => closure_any x y _) hH o.lt (by rw [hs]; exact V.len) hlen
  rw [hs] at hcon
  change Calls Try.prog 23 _ _ _ at hcon
  refine hcon.mono ?_
  rintro e w' ⟨he, d', n, os, hp, hsd, rfl⟩
  refine ⟨he, ?_, sort_below hH o.lt⟩
  have hsz : d'.size = l.length := by rw [hp.1, hs]
  have hperm : d'.toList.Perm l := by
    have := hp.2.2
    rw [show d'.extract 0 l.length = d' by rw [← hsz]; simp, show l.toArray.extract 0 l.length = l.toArray by rw [← hs]; simp] at this
    simpa using this
  have hsort : d'.toList.Pairwise nb := by
    refine List.pairwise_iff_getElem.2 fun i j hi hj hij => ?_
    have := hsd i j (Nat.zero_le _) hij (by simp at hj; omega)
    rw [cf_lt] at this
    have h := of_decide_eq_false this
    have ei := arr_nth d'.toList i; have ej := arr_nth d'.toList j
    rw [Array.toArray_toList] at ei ej
    rw [ei, ej, nth_eq hi, nth_eq hj] at h
    exact h
  have e := ord_uniq V hperm hsort
  have hg : g < (sortWorldK enc 5 w g 0 n d' os).heap.size := Nat.lt_of_lt_of_le o.lt (sort_below (n := n) (d' := d') (os := os) hH o.lt).size
  have hh : HoldsK enc 5 (sortWorldK enc 5 w g 0 n d' os) g 0 d' := by
    unfold sortWorldK
    refine holdsK_grow _ _ _ _ _ _ _ ?_ (holdsK_putRowK _ _ _ _ _ l.toArray d' (holdsK_ahead _ _ w n g 0 _ hH) hp.1)
    show g < (mapBlock (Sort.ahead w n) g (putCells id 0 (flatK enc 5 d'))).heap.size
    unfold mapBlock; simp [Sort.ahead]; exact o.lt
  have := oz_of hg hh
  rw [e, ord_len] at this
  exact this
end Go.Proofs.Ytbbdeagllhmdiaa.CxW
