/- Plain law of layer 22: samples, their order, jitter, dispersion, what a filter holds (no program in sight). -/
import Derived.Test.YtdaedhgbkamjpaaSx
import Derived.Test.YtdaedhgbkamjpaaFx
set_option linter.unusedVariables false
set_option linter.unusedSimpArgs false
namespace Go.Proofs.Ytdaedhgbkamjpaa.Jx
open Go.Proofs.Ytdaedhgbkamjpaa
structure Sm where
  o : Int
  d : Int
  p : Int
  t : Int
instance : Inhabited Sm := ⟨⟨0, 0, 0, 0⟩⟩
def fld (x : Sm) (j : Nat) : Int := if j = 0 then x.o else if j = 1 then x.d else if j = 2 then x.p else x.t
def nth (l : List Sm) (i : Nat) : Sm := l.getD i default
def zof (l : List Sm) (i j : Nat) : Int := fld (nth l i) j
theorem nth_eq {l : List Sm} {i : Nat} (h : i < l.length) : nth l i = l[i] := by unfold nth; simp [List.getD_eq_getElem?_getD, h]
theorem nth_mem {l : List Sm} {i : Nat} (h : i < l.length) : nth l i ∈ l := by rw [nth_eq h]; exact List.getElem_mem _
theorem mem_nth {l : List Sm} {x : Sm} (h : x ∈ l) : ∃ i, i < l.length ∧ nth l i = x := by
  obtain ⟨i, hi, e⟩ := List.getElem_of_mem h
  exact ⟨i, hi, by rw [nth_eq hi, e]⟩
theorem list_ext {l m : List Sm} (hl : l.length = m.length) (h : ∀ i, i < l.length → nth l i = nth m i) : l = m :=
  List.ext_getElem hl fun i h1 h2 => by rw [← nth_eq h1, ← nth_eq h2]; exact h i h1
theorem nth_app {l : List Sm} {x : Sm} {i : Nat} (h : i < l.length) : nth (l ++ [x]) i = nth l i := by
  unfold nth; simp [List.getD_eq_getElem?_getD, List.getElem?_append_left h]
theorem nth_last (l : List Sm) (x : Sm) : nth (l ++ [x]) l.length = x := by
  unfold nth; simp [List.getD_eq_getElem?_getD]
theorem nth_drop {l : List Sm} {k t : Nat} : nth (l.drop k) t = nth l (k + t) := by
  unfold nth; simp [List.getD_eq_getElem?_getD]
theorem nth_take {l : List Sm} {i t : Nat} (h : t < i) : nth (l.take i) t = nth l t := by
  unfold nth; simp [List.getD_eq_getElem?_getD, List.getElem?_take, h]
/-- the samples that a table of numbers holds -/
def lst (n : Nat) (z : Nat → Nat → Int) : List Sm := (List.range n).map fun i => ⟨z i 0, z i 1, z i 2, z i 3⟩
theorem lst_len (n : Nat) (z : Nat → Nat → Int) : (lst n z).length = n := by simp [lst]
theorem lst_nth {n : Nat} {z : Nat → Nat → Int} {i : Nat} (h : i < n) : nth (lst n z) i = ⟨z i 0, z i 1, z i 2, z i 3⟩ := by
  unfold nth lst; simp [List.getD_eq_getElem?_getD, h]
theorem lst_zof {n : Nat} {z : Nat → Nat → Int} {i j : Nat} (h : i < n) (hj : j < 4) : zof (lst n z) i j = z i j := by
  unfold zof; rw [lst_nth h]
  match j, hj with
  | 0, _ => rfl
  | 1, _ => rfl
  | 2, _ => rfl
  | 3, _ => rfl
def okb (x : Sm) : Bool := Sx.okS x.o x.d x.p x.t
/-- the stages of a filter -/
structure Val (l : List Sm) : Prop where
  len : l.length ≤ 8
  ok : ∀ x, x ∈ l → okb x = true
  inc : l.Pairwise fun x y => x.t < y.t
theorem Val.nil : Val [] := ⟨by simp, fun x h => by simp at h, List.Pairwise.nil⟩
theorem Val.bd {l : List Sm} (V : Val l) {x : Sm} (hx : x ∈ l) : -4503599627370496 ≤ x.o ∧ x.o ≤ 4503599627370496 ∧ 0 ≤ x.d ∧ x.d ≤ 9007199254740992 ∧ 0 ≤ x.p ∧ x.p ≤ 9007199254740992 ∧ -4503599627370496 ≤ x.t ∧ x.t ≤ 4503599627370496 :=
  Sx.okS_iff.1 (V.ok x hx)
theorem Val.lt {l : List Sm} (V : Val l) {i j : Nat} (h : i < j) (hj : j < l.length) : (nth l i).t < (nth l j).t := by
  rw [nth_eq (by omega), nth_eq hj]; exact List.pairwise_iff_getElem.1 V.inc i j (by omega) hj h
def bef (x y : Sm) : Prop := x.d < y.d ∨ (x.d = y.d ∧ y.t < x.t)
instance (x y : Sm) : Decidable (bef x y) := by unfold bef; infer_instance
/-- x is not behind y -/
def nb (x y : Sm) : Prop := ¬ bef y x
theorem nb_trans {x y z : Sm} (h1 : nb x y) (h2 : nb y z) : nb x z := by unfold nb bef at *; omega
theorem bef_nb {x y : Sm} (h : bef x y) : nb x y := by unfold nb bef at *; omega
theorem nb_anti {x y : Sm} (h1 : nb x y) (h2 : nb y x) : x.t = y.t := by unfold nb bef at *; omega
/-- the reference's way to put a stage in its place -/
def pos (x : Sm) : List Sm → Nat
  | [] => 0
  | y :: t => if y.d < x.d then pos x t + 1 else 0
def rins (x : Sm) (l : List Sm) : List Sm := l.take (pos x l) ++ x :: l.drop (pos x l)
theorem pos_le (x : Sm) : ∀ l, pos x l ≤ l.length
  | [] => by simp [pos]
  | y :: t => by
    have := pos_le x t
    simp only [pos]; split
    · simp; exact this
    · simp
theorem pos_lt (x : Sm) : ∀ (l : List Sm) (k : Nat), k < pos x l → (nth l k).d < x.d
  | [], k, h => by simp [pos] at h
  | y :: t, 0, h => by
    simp only [pos] at h; split at h
    · rename_i g; exact g
    · omega
  | y :: t, k + 1, h => by
    simp only [pos] at h; split at h
    · have := pos_lt x t k (by omega)
      unfold nth at *; simpa using this
    · omega
theorem pos_ge (x : Sm) : ∀ (l : List Sm), pos x l < l.length → ¬ (nth l (pos x l)).d < x.d
  | [], h => by simp at h
  | y :: t, h => by
    simp only [pos] at h ⊢; split
    · rename_i g
      rw [if_pos g] at h
      have := pos_ge x t (by simpa using h)
      unfold nth at *; simpa using this
    · rename_i g; unfold nth; simpa using g
theorem pos_unique (x : Sm) (l : List Sm) {k : Nat} (hk : k ≤ l.length) (h : ∀ i, i < k → (nth l i).d < x.d) (h2 : k < l.length → ¬ (nth l k).d < x.d) : pos x l = k := by
  rcases Nat.lt_trichotomy (pos x l) k with g | g | g
  · exact absurd (h _ g) (pos_ge x l (by omega))
  · exact g
  · have := pos_le x l
    exact absurd (pos_lt x l k g) (h2 (by omega))
theorem rins_cons (x y : Sm) (t : List Sm) : rins x (y :: t) = if y.d < x.d then y :: rins x t else x :: y :: t := by
  unfold rins; simp only [pos]; split <;> simp
theorem rins_perm (x : Sm) (l : List Sm) : (rins x l).Perm (x :: l) := by
  unfold rins
  have := (List.perm_middle (a := x) (l₁ := l.take (pos x l)) (l₂ := l.drop (pos x l)))
  rwa [List.take_append_drop] at this
theorem rins_sorted (x : Sm) : ∀ {l : List Sm}, l.Pairwise nb → (∀ y, y ∈ l → y.t < x.t) → (rins x l).Pairwise nb
  | [], _, _ => by simp [rins, pos]
  | y :: t, h, ht => by
    rw [rins_cons]; split
    · rename_i g
      refine List.pairwise_cons.2 ⟨fun w hw => ?_, rins_sorted x (List.pairwise_cons.1 h).2 (fun w hw => ht w (List.mem_cons_of_mem _ hw))⟩
      rcases List.mem_cons.1 ((rins_perm x t).mem_iff.1 hw) with rfl | hw
      · exact bef_nb (.inl g)
      · exact (List.pairwise_cons.1 h).1 w hw
    · rename_i g
      have hy := ht y (List.mem_cons_self ..)
      have xy : nb x y := by unfold nb bef; omega
      refine List.pairwise_cons.2 ⟨fun w hw => ?_, h⟩
      rcases List.mem_cons.1 hw with rfl | hw
      · exact xy
      · exact nb_trans xy ((List.pairwise_cons.1 h).1 w hw)
/-- the first k stages in their order -/
def rord (l : List Sm) : Nat → List Sm
  | 0 => []
  | k + 1 => rins (nth l k) (rord l k)
def ord (l : List Sm) : List Sm := rord l l.length
theorem take_step (l : List Sm) {k : Nat} (hk : k < l.length) : l.take (k + 1) = l.take k ++ [nth l k] := by
  rw [List.take_add_one, nth_eq hk, List.getElem?_eq_getElem hk]; rfl
theorem rord_perm (l : List Sm) : ∀ k, k ≤ l.length → (rord l k).Perm (l.take k)
  | 0, _ => by simp [rord]
  | k + 1, h => by
    rw [take_step l (by omega)]
    exact (rins_perm _ _).trans (((rord_perm l k (by omega)).cons _).trans (List.perm_append_comm (l₁ := [nth l k]) (l₂ := l.take k)))
theorem rord_len (l : List Sm) {k : Nat} (h : k ≤ l.length) : (rord l k).length = k := by
  rw [(rord_perm l k h).length_eq, List.length_take]; omega
theorem rord_sorted {l : List Sm} (V : Val l) : ∀ k, k ≤ l.length → (rord l k).Pairwise nb
  | 0, _ => List.Pairwise.nil
  | k + 1, h => by
    refine rins_sorted _ (rord_sorted V k (by omega)) fun y hy => ?_
    obtain ⟨i, hi, e⟩ := mem_nth ((rord_perm l k (by omega)).mem_iff.1 hy)
    rw [List.length_take] at hi
    rw [nth_take (by omega)] at e
    rw [← e]; exact V.lt (by omega) (by omega)
theorem ord_perm (l : List Sm) : (ord l).Perm l := by
  have := rord_perm l l.length (Nat.le_refl _)
  rwa [List.take_length] at this
theorem ord_len (l : List Sm) : (ord l).length = l.length := (ord_perm l).length_eq
theorem ord_sorted {l : List Sm} (V : Val l) : (ord l).Pairwise nb := rord_sorted V _ (Nat.le_refl _)
theorem same_t {l : List Sm} (V : Val l) {x y : Sm} (hx : x ∈ l) (hy : y ∈ l) (e : x.t = y.t) : x = y := by
  obtain ⟨i, hi, ei⟩ := mem_nth hx
  obtain ⟨j, hj, ej⟩ := mem_nth hy
  rcases Nat.lt_trichotomy i j with g | g | g
  · have := V.lt g hj; rw [ei, ej] at this; omega
  · subst g; rw [← ei, ← ej]
  · have := V.lt g hi; rw [ei, ej] at this; omega
theorem ord_uniq {l m : List Sm} (V : Val l) (p : m.Perm l) (s : m.Pairwise nb) : m = ord l :=
  List.Perm.eq_of_pairwise (le := nb) (fun x y hx hy h1 h2 => same_t V (p.mem_iff.1 hx) ((ord_perm l).mem_iff.1 hy) (nb_anti h1 h2)) s (ord_sorted V) (p.trans (ord_perm l).symm)
theorem ord_mem {l : List Sm} {x : Sm} : x ∈ ord l ↔ x ∈ l := (ord_perm l).mem_iff
theorem ord_bd {l : List Sm} (V : Val l) {i : Nat} (hi : i < l.length) : -4503599627370496 ≤ (nth (ord l) i).o ∧ (nth (ord l) i).o ≤ 4503599627370496 ∧ 0 ≤ (nth (ord l) i).d ∧ (nth (ord l) i).d ≤ 9007199254740992 ∧ 0 ≤ (nth (ord l) i).p ∧ (nth (ord l) i).p ≤ 9007199254740992 ∧ -4503599627370496 ≤ (nth (ord l) i).t ∧ (nth (ord l) i).t ≤ 4503599627370496 :=
  V.bd (ord_mem.1 (nth_mem (by rw [ord_len]; exact hi)))
/-- the At of the last stage -/
def lastT (l : List Sm) : Int := (nth l (l.length - 1)).t
/-- the error of Add -/
def addE (l : List Sm) (x : Sm) : Int := if okb x = true then (if l ≠ [] ∧ x.t ≤ lastT l then 12 else 0) else 3
def push (l : List Sm) (x : Sm) : List Sm := (if l.length = 8 then l.drop 1 else l) ++ [x]
def addL (l : List Sm) (x : Sm) : List Sm := if addE l x = 0 then push l x else l
theorem addE_no {l : List Sm} {x : Sm} (h : okb x = false) : addE l x = 3 := by unfold addE; rw [h]; rfl
theorem addE_order {l : List Sm} {x : Sm} (h : okb x = true) (h0 : l ≠ []) (h2 : x.t ≤ lastT l) : addE l x = 12 := by unfold addE; rw [if_pos h, if_pos ⟨h0, h2⟩]
theorem addE_yes {l : List Sm} {x : Sm} (h : okb x = true) (h0 : l = [] ∨ lastT l < x.t) : addE l x = 0 := by
  unfold addE; rw [if_pos h, if_neg]
  rintro ⟨g1, g2⟩
  rcases h0 with h0 | h0
  · exact g1 h0
  · omega
theorem addL_yes {l : List Sm} {x : Sm} (h : addE l x = 0) : addL l x = push l x := by unfold addL; rw [if_pos h]
theorem addL_no {l : List Sm} {x : Sm} (h : addE l x ≠ 0) : addL l x = l := by unfold addL; rw [if_neg h]
theorem push_len {l : List Sm} {x : Sm} (h : l.length ≤ 8) : (push l x).length = if l.length = 8 then 8 else l.length + 1 := by
  unfold push; split <;> simp <;> omega
theorem last_ge {l : List Sm} (V : Val l) {x : Sm} (hx : x ∈ l) : x.t ≤ lastT l := by
  obtain ⟨i, hi, e⟩ := mem_nth hx
  unfold lastT
  by_cases h : i = l.length - 1
  · rw [← e, h]; exact Int.le_refl _
  · have := V.lt (show i < l.length - 1 by omega) (by omega); rw [e] at this; omega
theorem Val.push {l : List Sm} (V : Val l) {x : Sm} (hx : okb x = true) (h : l = [] ∨ lastT l < x.t) : Val (push l x) := by
  have inc : (l ++ [x]).Pairwise fun a b => a.t < b.t := List.pairwise_append.2 ⟨V.inc, List.pairwise_singleton _ _, fun a ha b hb => by
    rw [List.mem_singleton.1 hb]
    rcases h with h | h
    · rw [h] at ha; simp at ha
    · have := last_ge V ha; omega⟩
  unfold Jx.push
  split
  · rename_i h8
    refine ⟨by simp; omega, fun y hy => ?_, inc.sublist (by simpa using List.Sublist.append_right (List.drop_sublist 1 l) [x])⟩
    rcases List.mem_append.1 hy with hy | hy
    · exact V.ok y (List.mem_of_mem_drop hy)
    · rw [List.mem_singleton.1 hy]; exact hx
  · have := V.len
    refine ⟨by simp; omega, fun y hy => ?_, inc⟩
    rcases List.mem_append.1 hy with hy | hy
    · exact V.ok y hy
    · rw [List.mem_singleton.1 hy]; exact hx
theorem Val.add {l : List Sm} (V : Val l) (x : Sm) : Val (addL l x) := by
  by_cases h : addE l x = 0
  · rw [addL_yes h]
    unfold addE at h
    split at h
    · rename_i h1
      split at h
      · cases h
      · rename_i h2
        refine V.push h1 ?_
        by_cases e : l = []
        · exact .inl e
        · exact .inr (by apply Int.not_le.1; intro g; exact h2 ⟨e, g⟩)
    · cases h
  · rw [addL_no h]; exact V
/-- the first stage -/
def first (l : List Sm) : Sm := nth (ord l) 0
theorem first_mem {l : List Sm} (h : 0 < l.length) : first l ∈ l := ord_mem.1 (nth_mem (by rw [ord_len]; exact h))
/-- a stage grown -/
def grow (x : Sm) (now tol : Int) : Sx.R5 := Sx.growR x.o x.d x.p x.t now tol
/-- what Best returns: the error -/
def bestR (l : List Sm) (now tol : Int) : Sx.R5 := if l = [] then ⟨0, 0, 0, 0, 14⟩ else if now < lastT l then ⟨0, 0, 0, 0, 12⟩ else if (grow (first l) now tol).e = 0 then grow (first l) now tol else ⟨0, 0, 0, 0, (grow (first l) now tol).e⟩
def freshB (l : List Sm) (any : Bool) (fr now tol : Int) : Bool := decide ((bestR l now tol).e = 0) && (!any || decide (fr < (first l).t))
def anyN (l : List Sm) (any : Bool) (fr now tol : Int) : Bool := any || freshB l any fr now tol
def frN (l : List Sm) (any : Bool) (fr now tol : Int) : Int := if freshB l any fr now tol = true then (first l).t else fr
/-- the dispersion of stage i -/
def dv (m : List Sm) (now tol : Int) (i : Nat) : Int := if i < m.length then (if (grow (nth m i) now tol).e = 0 then (grow (nth m i) now tol).p else 16000000000) else 16000000000
def dsp (m : List Sm) (now tol : Int) : Nat → Int
  | 0 => 0
  | k + 1 => dsp m now tol k + dv m now tol k / 2 ^ (k + 1)
def dispV (l : List Sm) (now tol : Int) : Int := if l = [] ∨ now < lastT l then 16000000000 else dsp (ord l) now tol 8
/-- the difference of two offsets that counts -/
def dq (x y : Sm) : Int := min (Fx.iabs (x.o - y.o)) 1073741824
theorem dq_bd (x y : Sm) : 0 ≤ dq x y ∧ dq x y ≤ 1073741824 := by have := Fx.iabs_nonneg (x.o - y.o); unfold dq; omega
theorem dq_self (x : Sm) : dq x x = 0 := by unfold dq Fx.iabs; split <;> omega
def sqN (m : List Sm) : Nat → Int
  | 0 => 0
  | k + 1 => sqN m k + dq (nth m k) (nth m 0) * dq (nth m k) (nth m 0)
theorem sq_bd {x G : Int} (h0 : 0 ≤ x) (h1 : x ≤ G) : 0 ≤ x * x ∧ x * x ≤ G * G := ⟨Int.mul_nonneg h0 h0, Int.mul_le_mul h1 h1 h0 (by omega)⟩
theorem sqN_nn (m : List Sm) : ∀ k, 0 ≤ sqN m k
  | 0 => by simp [sqN]
  | k + 1 => by have := sqN_nn m k; have := (sq_bd (dq_bd (nth m k) (nth m 0)).1 (Int.le_refl _)).1; simp only [sqN]; omega
theorem sqN_top (m : List Sm) : ∀ k, sqN m (k + 1) ≤ 1152921504606846976 * (k : Int)
  | 0 => by simp [sqN, dq_self]
  | k + 1 => by
    have := sqN_top m k; have := (sq_bd (dq_bd (nth m (k + 1)) (nth m 0)).1 (dq_bd (nth m (k + 1)) (nth m 0)).2).2
    rw [sqN]; omega
def jit (l : List Sm) : Int := if l.length < 2 then 0 else Fx.isq (sqN (ord l) l.length / ((l.length : Int) - 1))
theorem mean_bd (m : List Sm) {n : Nat} (h : 2 ≤ n) : 0 ≤ sqN m n / ((n : Int) - 1) ∧ sqN m n / ((n : Int) - 1) ≤ 1152921504606846976 := by
  obtain ⟨k, rfl⟩ : ∃ k, n = k + 1 := ⟨n - 1, by omega⟩
  have t := sqN_top m k
  refine ⟨Int.ediv_nonneg (sqN_nn _ _) (by omega), ?_⟩
  have := Int.ediv_le_ediv (show 0 < ((k + 1 : Nat) : Int) - 1 by omega) (show sqN m (k + 1) ≤ (((k + 1 : Nat) : Int) - 1) * 1152921504606846976 by omega)
  rwa [Int.mul_ediv_cancel_left _ (by omega)] at this
theorem jit_bd (l : List Sm) : 0 ≤ jit l ∧ jit l ≤ 1073741824 := by
  unfold jit; split
  · omega
  · have m := mean_bd (ord l) (n := l.length) (by omega)
    exact ⟨Fx.isq_nonneg _, Fx.isq_le (by omega) m.1 (by omega)⟩
def spk (l : List Sm) (x : Sm) : Bool := okb x && decide (2 ≤ l.length) && decide (3 * max (jit l) 1 < Fx.iabs (x.o - (first l).o))
end Go.Proofs.Ytdaedhgbkamjpaa.Jx
