/- Plain law of layer 25: candidates, their order, spreads, what is pruned (no program in sight). -/
import Derived.Test.YtbbdeagllhmdiaaCx
import Derived.Test.YtbbdeagllhmdiaaFx
set_option linter.unusedVariables false
set_option linter.unusedSimpArgs false
namespace Go.Proofs.Ytbbdeagllhmdiaa.Kx
open Go.Proofs.Ytbbdeagllhmdiaa
structure Cd where
  a : Int
  b : Int
  c : Int
  d : Int
  e : Int
instance : Inhabited Cd := ⟨⟨0, 0, 0, 0, 0⟩⟩
def fld (x : Cd) (j : Nat) : Int := if j = 0 then x.a else if j = 1 then x.b else if j = 2 then x.c else if j = 3 then x.d else x.e
def nth (l : List Cd) (i : Nat) : Cd := l.getD i default
def zof (l : List Cd) (i j : Nat) : Int := fld (nth l i) j
theorem nth_eq {l : List Cd} {i : Nat} (h : i < l.length) : nth l i = l[i] := by unfold nth; simp [List.getD_eq_getElem?_getD, h]
theorem nth_mem {l : List Cd} {i : Nat} (h : i < l.length) : nth l i ∈ l := by rw [nth_eq h]; exact List.getElem_mem _
theorem mem_nth {l : List Cd} {x : Cd} (h : x ∈ l) : ∃ i, i < l.length ∧ nth l i = x := by
  obtain ⟨i, hi, e⟩ := List.getElem_of_mem h
  exact ⟨i, hi, by rw [nth_eq hi, e]⟩
theorem list_ext {l m : List Cd} (hl : l.length = m.length) (h : ∀ i, i < l.length → nth l i = nth m i) : l = m :=
  List.ext_getElem hl fun i h1 h2 => by rw [← nth_eq h1, ← nth_eq h2]; exact h i h1
/-- the candidates that a table of numbers holds -/
def lst (n : Nat) (z : Nat → Nat → Int) : List Cd := (List.range n).map fun i => ⟨z i 0, z i 1, z i 2, z i 3, z i 4⟩
theorem lst_len (n : Nat) (z : Nat → Nat → Int) : (lst n z).length = n := by simp [lst]
theorem lst_nth {n : Nat} {z : Nat → Nat → Int} {i : Nat} (h : i < n) : nth (lst n z) i = ⟨z i 0, z i 1, z i 2, z i 3, z i 4⟩ := by
  unfold nth lst; simp [List.getD_eq_getElem?_getD, h]
theorem lst_zof {n : Nat} {z : Nat → Nat → Int} {i j : Nat} (h : i < n) (hj : j < 5) : zof (lst n z) i j = z i j := by
  unfold zof; rw [lst_nth h]
  match j, hj with
  | 0, _ => rfl
  | 1, _ => rfl
  | 2, _ => rfl
  | 3, _ => rfl
  | 4, _ => rfl
def okx (x : Cd) : Prop := Cx.okC x.a x.b x.c x.d x.e = true
/-- a valid list -/
structure Val (l : List Cd) : Prop where
  len : l.length ≤ 12
  ok : ∀ x, x ∈ l → okx x
  ids : l.Pairwise fun x y => x.a ≠ y.a
theorem scan_iff (z : Nat → Nat → Int) : ∀ k, Cx.scan z k = 0 ↔ ∀ i, i < k → Cx.right z i = true ∧ Cx.twice z i = false
  | 0 => by simp [Cx.scan]
  | k + 1 => by
    have ih := scan_iff z k
    constructor
    · intro h
      unfold Cx.scan at h
      split at h
      · rename_i h0
        split at h
        · rename_i h1
          split at h
          · cases h
          · rename_i h2
            intro i hi
            by_cases e : i = k
            · rw [e]; exact ⟨h1, by simpa using h2⟩
            · exact ih.1 h0 i (by omega)
        · cases h
      · rename_i h0; exact absurd h h0
    · intro h
      exact Cx.scan_go (ih.2 fun i hi => h i (by omega)) (h k (by omega)).1 (h k (by omega)).2
theorem right_zof {l : List Cd} {i : Nat} : Cx.right (zof l) i = true ↔ okx (nth l i) := Iff.rfl
theorem val_iff (l : List Cd) : Cx.chk l.length (zof l) = 0 ↔ Val l := by
  constructor
  · intro h
    have h2 := Cx.chk_ok h
    have S := (scan_iff _ _).1 h2.2.1
    refine ⟨h2.1, fun x hx => ?_, List.pairwise_iff_getElem.2 fun i j hi hj hij => ?_⟩
    · obtain ⟨i, hi, e⟩ := mem_nth hx
      rw [← e]; exact (S i hi).1
    · intro e
      have t := (S j hj).2
      unfold Cx.twice at t
      have := of_decide_eq_false t
      exact this (Cx.mem_ids.2 ⟨i, hij, by show (nth l i).a = (nth l j).a; rw [nth_eq hi, nth_eq hj]; exact e⟩)
  · intro V
    unfold Cx.chk
    rw [if_neg (by have := V.len; omega)]
    refine (scan_iff _ _).2 fun i hi => ⟨V.ok _ (nth_mem hi), ?_⟩
    unfold Cx.twice
    refine decide_eq_false fun hm => ?_
    obtain ⟨j, hj, e⟩ := Cx.mem_ids.1 hm
    have := List.pairwise_iff_getElem.1 V.ids j i (by omega) hi hj
    rw [← nth_eq (by omega), ← nth_eq hi] at this
    exact this e
theorem Val.perm {l m : List Cd} (V : Val l) (p : l.Perm m) : Val m :=
  ⟨by rw [← p.length_eq]; exact V.len, fun x hx => V.ok x (p.mem_iff.2 hx), V.ids.perm p (fun h => Ne.symm h)⟩
theorem Val.sub {l m : List Cd} (V : Val l) (s : m.Sublist l) : Val m :=
  ⟨Nat.le_trans s.length_le V.len, fun x hx => V.ok x (s.subset hx), V.ids.sublist s⟩
theorem Val.bd {l : List Cd} (V : Val l) {x : Cd} (hx : x ∈ l) : -4503599627370496 ≤ x.b ∧ x.b ≤ 4503599627370496 ∧ 0 ≤ x.a ∧ x.a ≤ 2147483647 ∧ 0 ≤ x.c ∧ x.c ≤ 9007199254740992 ∧ 0 ≤ x.d ∧ x.d ≤ 9007199254740992 ∧ 1 ≤ x.e ∧ x.e ≤ 16 := by
  have := Cx.okC_iff.1 (V.ok x hx); omega
theorem same_id {l : List Cd} (h : l.Pairwise fun x y => x.a ≠ y.a) {x y : Cd} (hx : x ∈ l) (hy : y ∈ l) (e : x.a = y.a) : x = y := by
  obtain ⟨i, hi, ei⟩ := List.getElem_of_mem hx
  obtain ⟨j, hj, ej⟩ := List.getElem_of_mem hy
  rcases Nat.lt_trichotomy i j with g | g | g
  · have := List.pairwise_iff_getElem.1 h i j hi hj g; rw [ei, ej] at this; exact absurd e this
  · subst g; rw [← ei, ← ej]
  · have := List.pairwise_iff_getElem.1 h j i hj hi g; rw [ei, ej] at this; exact absurd e.symm this
def bef (x y : Cd) : Prop := x.e < y.e ∨ (x.e = y.e ∧ (x.c < y.c ∨ (x.c = y.c ∧ x.a < y.a)))
instance (x y : Cd) : Decidable (bef x y) := by unfold bef; infer_instance
/-- x is not behind y -/
def nb (x y : Cd) : Prop := ¬ bef y x
theorem nb_trans {x y z : Cd} (h1 : nb x y) (h2 : nb y z) : nb x z := by unfold nb bef at *; omega
theorem nb_total (x y : Cd) : nb x y ∨ nb y x := by unfold nb bef; omega
theorem bef_nb {x y : Cd} (h : bef x y) : nb x y := by unfold nb bef at *; omega
theorem nb_anti {x y : Cd} (h1 : nb x y) (h2 : nb y x) : x.a = y.a := by unfold nb bef at *; omega
theorem nb_bef {x y : Cd} (h1 : nb x y) (h2 : x.a ≠ y.a) : bef x y := by unfold nb bef at *; omega
def ins (x : Cd) : List Cd → List Cd
  | [] => [x]
  | y :: t => if bef x y then x :: y :: t else y :: ins x t
def ord : List Cd → List Cd
  | [] => []
  | x :: t => ins x (ord t)
theorem ins_perm (x : Cd) : ∀ l, (ins x l).Perm (x :: l)
  | [] => List.Perm.refl _
  | y :: t => by
    unfold ins; split
    · exact List.Perm.refl _
    · exact ((ins_perm x t).cons y).trans (List.Perm.swap x y t)
theorem ord_perm : ∀ l, (ord l).Perm l
  | [] => List.Perm.refl _
  | x :: t => (ins_perm x (ord t)).trans ((ord_perm t).cons x)
theorem ins_sorted (x : Cd) : ∀ {l : List Cd}, l.Pairwise nb → (ins x l).Pairwise nb
  | [], _ => by unfold ins; exact List.pairwise_singleton _ _
  | y :: t, h => by
    unfold ins; split
    · rename_i g
      refine List.pairwise_cons.2 ⟨fun w hw => ?_, h⟩
      rcases List.mem_cons.1 hw with rfl | hw
      · exact bef_nb g
      · exact nb_trans (bef_nb g) ((List.pairwise_cons.1 h).1 w hw)
    · rename_i g
      refine List.pairwise_cons.2 ⟨fun w hw => ?_, ins_sorted x (List.pairwise_cons.1 h).2⟩
      rcases List.mem_cons.1 ((ins_perm x t).mem_iff.1 hw) with rfl | hw
      · exact g
      · exact (List.pairwise_cons.1 h).1 w hw
theorem ord_sorted : ∀ l, (ord l).Pairwise nb
  | [] => List.Pairwise.nil
  | x :: t => ins_sorted x (ord_sorted t)
/-- one order alone -/
theorem uniq {l m : List Cd} (hd : l.Pairwise fun x y => x.a ≠ y.a) (p : l.Perm m) (s1 : l.Pairwise nb) (s2 : m.Pairwise nb) : l = m :=
  List.Perm.eq_of_pairwise (le := nb) (fun x y hx hy h1 h2 => same_id hd hx (p.mem_iff.2 hy) (nb_anti h1 h2)) s1 s2 p
theorem ord_uniq {l m : List Cd} (V : Val l) (p : m.Perm l) (s : m.Pairwise nb) : m = ord l :=
  uniq (V.perm p.symm).ids (p.trans (ord_perm l).symm) s (ord_sorted l)
theorem ord_of {l m : List Cd} (V : Val l) (p : l.Perm m) : ord l = ord m :=
  uniq (V.perm (ord_perm l).symm).ids ((ord_perm l).trans (p.trans (ord_perm m).symm)) (ord_sorted l) (ord_sorted m)
theorem ord_len (l : List Cd) : (ord l).length = l.length := (ord_perm l).length_eq
theorem Val.ord {l : List Cd} (V : Val l) : Val (ord l) := V.perm (ord_perm l).symm
theorem strict {l : List Cd} (V : Val l) (s : l.Pairwise nb) {i : Nat} (h : i + 1 < l.length) : bef (nth l i) (nth l (i + 1)) := by
  rw [nth_eq (by omega), nth_eq h]
  exact nb_bef (List.pairwise_iff_getElem.1 s i (i + 1) (by omega) h (by omega)) (List.pairwise_iff_getElem.1 V.ids i (i + 1) (by omega) h (by omega))
/-- the difference of two offsets that counts -/
def dq (x y : Cd) : Int := min (Fx.iabs (x.b - y.b)) 1073741824
theorem dq_bd (x y : Cd) : 0 ≤ dq x y ∧ dq x y ≤ 1073741824 := by have := Fx.iabs_nonneg (x.b - y.b); unfold dq; omega
theorem dq_self (x : Cd) : dq x x = 0 := by unfold dq Fx.iabs; split <;> omega
theorem dq_sym (x y : Cd) : dq x y = dq y x := by unfold dq Fx.iabs; split <;> split <;> omega
def sqN (l : List Cd) (x : Cd) : Nat → Int
  | 0 => 0
  | k + 1 => sqN l x k + dq x (nth l k) * dq x (nth l k)
def spr (l : List Cd) (x : Cd) : Int := Fx.isq (sqN l x l.length / ((l.length : Int) - 1))
theorem sq_bd {x G : Int} (h0 : 0 ≤ x) (h1 : x ≤ G) : 0 ≤ x * x ∧ x * x ≤ G * G := ⟨Int.mul_nonneg h0 h0, Int.mul_le_mul h1 h1 h0 (by omega)⟩
theorem sqN_nn (l : List Cd) (x : Cd) : ∀ k, 0 ≤ sqN l x k
  | 0 => by simp [sqN]
  | k + 1 => by have := sqN_nn l x k; have := (sq_bd (dq_bd x (nth l k)).1 (Int.le_refl _)).1; simp only [sqN]; omega
theorem sqN_top (l : List Cd) (x : Cd) : ∀ k, sqN l x k ≤ 1152921504606846976 * (k : Int)
  | 0 => by simp [sqN]
  | k + 1 => by
    have := sqN_top l x k; have := (sq_bd (dq_bd x (nth l k)).1 (dq_bd x (nth l k)).2).2
    simp only [sqN]; omega
theorem sqN_le {l : List Cd} {x : Cd} {G : Int} {i : Nat} (hi : nth l i = x) (hG : ∀ k, k < l.length → dq x (nth l k) ≤ G) : ∀ k, k ≤ l.length → sqN l x k ≤ ((k : Int) - (if i < k then 1 else 0)) * (G * G)
  | 0, _ => by simp [sqN]
  | k + 1, h => by
    have ih := sqN_le hi hG k (by omega)
    have s := sq_bd (dq_bd x (nth l k)).1 (hG k (by omega))
    simp only [sqN]
    obtain ⟨Q, hQ⟩ : ∃ Q, G * G = Q := ⟨_, rfl⟩
    rw [hQ] at ih s ⊢
    by_cases e : i = k
    · subst e
      rw [hi, dq_self]
      rw [if_neg (by omega)] at ih
      rw [if_pos (by omega)]
      have : ((i + 1 : Nat) : Int) - 1 = (i : Int) - 0 := by omega
      rw [this]; omega
    · by_cases g : i < k
      · rw [if_pos g] at ih; rw [if_pos (by omega)]
        have : (((k + 1 : Nat) : Int) - 1) * Q = ((k : Int) - 1) * Q + Q := by rw [show (((k + 1 : Nat) : Int) - 1) = ((k : Int) - 1) + 1 by omega, Int.add_mul, Int.one_mul]
        rw [this]; omega
      · rw [if_neg g] at ih; rw [if_neg (by omega)]
        have : (((k + 1 : Nat) : Int) - 0) * Q = ((k : Int) - 0) * Q + Q := by rw [show (((k + 1 : Nat) : Int) - 0) = ((k : Int) - 0) + 1 by omega, Int.add_mul, Int.one_mul]
        rw [this]; omega
theorem mean_le {S n Q : Int} (hn : 2 ≤ n) (h : S ≤ (n - 1) * Q) : S / (n - 1) ≤ Q := by
  have := Int.ediv_le_ediv (show 0 < n - 1 by omega) h
  rwa [Int.mul_ediv_cancel_left _ (by omega)] at this
theorem spr_nn (l : List Cd) (x : Cd) : 0 ≤ spr l x := Fx.isq_nonneg _
theorem mean_bd {l : List Cd} {i : Nat} (hi : i < l.length) (h2 : 2 ≤ l.length) {G : Int} (hG : ∀ k, k < l.length → dq (nth l i) (nth l k) ≤ G) : 0 ≤ sqN l (nth l i) l.length / ((l.length : Int) - 1) ∧ sqN l (nth l i) l.length / ((l.length : Int) - 1) ≤ G * G := by
  have h := sqN_le rfl hG l.length (Nat.le_refl _)
  rw [if_pos hi] at h
  exact ⟨Int.ediv_nonneg (sqN_nn _ _ _) (by omega), mean_le (by omega) h⟩
theorem spr_le {l : List Cd} {i : Nat} (hi : i < l.length) (h2 : 2 ≤ l.length) {G : Int} (h0 : 0 ≤ G) (hG : ∀ k, k < l.length → dq (nth l i) (nth l k) ≤ G) : spr l (nth l i) ≤ G := by
  obtain ⟨m0, m1⟩ := mean_bd hi h2 hG
  refine Fx.isq_le h0 m0 ?_
  have : (G + 1) * (G + 1) = G * G + G + G + 1 := by rw [Int.add_mul, Int.mul_add]; omega
  omega
/-- the last one of those with the greatest spread, and that spread -/
def far (l : List Cd) : Nat → Nat × Int
  | 0 => (0, 0)
  | k + 1 => if (far l k).2 ≤ spr l (nth l k) then (k, spr l (nth l k)) else far l k
theorem far_nn (l : List Cd) : ∀ k, 0 ≤ (far l k).2
  | 0 => by simp [far]
  | k + 1 => by
    simp only [far]; split
    · exact spr_nn _ _
    · exact far_nn l k
theorem far_ge (l : List Cd) : ∀ k i, i < k → spr l (nth l i) ≤ (far l k).2
  | 0, i, h => by omega
  | k + 1, i, h => by
    simp only [far]; split
    · rename_i g
      by_cases e : i = k
      · rw [e]; exact Int.le_refl _
      · exact Int.le_trans (far_ge l k i (by omega)) g
    · rename_i g
      by_cases e : i = k
      · rw [e]; omega
      · exact far_ge l k i (by omega)
theorem far_at (l : List Cd) : ∀ k, 0 < k → (far l k).1 < k ∧ (far l k).2 = spr l (nth l (far l k).1)
  | 0, h => by omega
  | k + 1, _ => by
    simp only [far]; split
    · exact ⟨by simp, rfl⟩
    · rename_i g
      by_cases e : k = 0
      · subst e; exfalso; apply g; simp [far]; exact spr_nn _ _
      · have := far_at l k (by omega); exact ⟨by omega, this.2⟩
/-- the same as it is found in the reference -/
def wst (l : List Cd) : Nat → Nat
  | 0 => 0
  | k + 1 => if k = 0 then 0 else if spr l (nth l (wst l k)) ≤ spr l (nth l k) then k else wst l k
theorem wst_far (l : List Cd) : ∀ k, 0 < k → wst l k = (far l k).1
  | 0, h => by omega
  | k + 1, _ => by
    simp only [wst, far]
    by_cases e : k = 0
    · subst e; rw [if_pos rfl, if_pos (by simp [far]; exact spr_nn _ _)]
    · rw [if_neg e]
      have ih := wst_far l k (by omega)
      have fa := (far_at l k (by omega)).2
      rw [ih, ← fa]
      split <;> rfl
/-- the least jitter -/
def jt (l : List Cd) : Nat → Int
  | 0 => (nth l 0).d
  | k + 1 => min (jt l k) (nth l k).d
theorem jt_le (l : List Cd) : ∀ k i, i < k → jt l k ≤ (nth l i).d
  | 0, i, h => by omega
  | k + 1, i, h => by
    simp only [jt]
    by_cases e : i = k
    · rw [e]; omega
    · have := jt_le l k i (by omega); omega
theorem jt_one (l : List Cd) : jt l 1 = (nth l 0).d := by simp [jt]
/-- what is left -/
def prn (keep : Int) : Nat → List Cd → List Cd
  | 0, l => l
  | m + 1, l => if keep < l.length ∧ jt l l.length < (far l l.length).2 then prn keep m (l.eraseIdx (far l l.length).1) else l
theorem prn_sub (keep : Int) : ∀ m l, (prn keep m l).Sublist l
  | 0, l => List.Sublist.refl _
  | m + 1, l => by
    simp only [prn]; split
    · exact (prn_sub keep m _).trans (List.eraseIdx_sublist _ _)
    · exact List.Sublist.refl _
theorem prn_len {keep : Int} : ∀ m (l : List Cd), min keep l.length ≤ (prn keep m l).length
  | 0, l => by simp only [prn]; omega
  | m + 1, l => by
    simp only [prn]; split
    · rename_i h
      have ih := prn_len (keep := keep) m (l.eraseIdx (far l l.length).1)
      by_cases e : l.length = 0
      · have := (prn_sub keep m (l.eraseIdx (far l l.length).1)).length_le
        omega
      · have hl : (l.eraseIdx (far l l.length).1).length = l.length - 1 := List.length_eraseIdx_of_lt (far_at l _ (by omega)).1
        rw [hl] at ih; omega
    · omega
/-- nothing more is to go -/
def done (keep : Int) (l : List Cd) : Prop := ¬ (keep < l.length ∧ jt l l.length < (far l l.length).2)
theorem prn_done {keep : Int} (hk : 1 ≤ keep) : ∀ m (l : List Cd), l.length ≤ m → done keep (prn keep m l)
  | 0, l, h => by
    simp only [prn]; unfold done; omega
  | m + 1, l, h => by
    simp only [prn]; split
    · rename_i g
      have hl : (l.eraseIdx (far l l.length).1).length = l.length - 1 := List.length_eraseIdx_of_lt (far_at l _ (by omega)).1
      exact prn_done hk m _ (by omega)
    · rename_i g; exact g
theorem prn_stay {keep : Int} {m : Nat} {l : List Cd} (h : done keep l) : prn keep m l = l := by
  cases m with
  | zero => rfl
  | succ m => simp only [prn]; rw [if_neg h]
def prune (keep : Int) (l : List Cd) : List Cd := prn keep l.length (ord l)
theorem prune_sub (keep : Int) (l : List Cd) : (prune keep l).Sublist (ord l) := prn_sub keep _ _
theorem prune_sorted (keep : Int) (l : List Cd) : (prune keep l).Pairwise nb := (ord_sorted l).sublist (prune_sub keep l)
theorem prune_val {l : List Cd} (V : Val l) (keep : Int) : Val (prune keep l) := V.ord.sub (prune_sub keep l)
theorem prune_again {l : List Cd} (V : Val l) {keep : Int} (hk : 1 ≤ keep) : prune keep (prune keep l) = prune keep l := by
  have h := ord_uniq (prune_val V keep) (List.Perm.refl _) (prune_sorted keep l)
  unfold prune at h ⊢
  rw [← h]
  exact prn_stay (prn_done hk _ _ (by rw [ord_len]; exact Nat.le_refl _))
theorem prune_mem {l : List Cd} {keep : Int} {x : Cd} (h : x ∈ prune keep l) : x ∈ l := (ord_perm l).mem_iff.1 ((prune_sub keep l).subset h)
theorem prune_min {l : List Cd} {keep : Int} : min keep l.length ≤ (prune keep l).length := by
  have := prn_len (keep := keep) l.length (ord l); rw [ord_len] at this; exact this
theorem prune_top {l : List Cd} {keep : Int} (hk : 1 ≤ keep) (h : keep < (prune keep l).length) {i k : Nat} (hi : i < (prune keep l).length) (hkk : k < (prune keep l).length) : spr (prune keep l) (nth (prune keep l) i) ≤ (nth (prune keep l) k).d := by
  have d : done keep (prune keep l) := prn_done hk _ _ (by rw [ord_len]; exact Nat.le_refl _)
  unfold done at d
  have a := far_ge (prune keep l) _ i hi
  have b := jt_le (prune keep l) _ k hkk
  omega
/-- the spread that the program returns -/
def sprd (l : List Cd) (i : Int) : Int := if Cx.chk l.length (zof l) = 0 ∧ 0 ≤ i ∧ i < l.length ∧ 2 ≤ l.length then spr l (nth l i.toNat) else 0
theorem sprd_val {l : List Cd} (V : Val l) {i : Nat} (hi : i < l.length) (h2 : 2 ≤ l.length) : sprd l i = spr l (nth l i) := by
  unfold sprd; rw [if_pos ⟨(val_iff l).2 V, by omega, by omega, h2⟩]; simp
theorem nth_erase {l : List Cd} {w i : Nat} : nth (l.eraseIdx w) i = if i < w then nth l i else nth l (i + 1) := by
  unfold nth; rw [List.getD_eq_getElem?_getD, List.getElem?_eraseIdx]
  split <;> simp [List.getD_eq_getElem?_getD]
/-- offsets shifted -/
def shf (s : Int) (x : Cd) : Cd := ⟨x.a, x.b + s, x.c, x.d, x.e⟩
theorem dq_shf (s : Int) (x y : Cd) : dq (shf s x) (shf s y) = dq x y := by unfold dq shf; simp only; rw [show x.b + s - (y.b + s) = x.b - y.b by omega]
theorem nth_map {l : List Cd} {s : Int} {i : Nat} (h : i < l.length) : nth (l.map (shf s)) i = shf s (nth l i) := by
  unfold nth; simp [List.getD_eq_getElem?_getD, h]
theorem sqN_shf (l : List Cd) (s : Int) (x : Cd) : ∀ k, k ≤ l.length → sqN (l.map (shf s)) (shf s x) k = sqN l x k
  | 0, _ => rfl
  | k + 1, h => by simp only [sqN]; rw [sqN_shf l s x k (by omega), nth_map (by omega), dq_shf]
theorem spr_shf (l : List Cd) (s : Int) (x : Cd) : spr (l.map (shf s)) (shf s x) = spr l x := by
  unfold spr; rw [List.length_map, sqN_shf l s x _ (Nat.le_refl _)]
theorem spr_two {l : List Cd} (h : l.length = 2) : spr l (nth l 0) = dq (nth l 0) (nth l 1) ∧ spr l (nth l 1) = dq (nth l 0) (nth l 1) := by
  have b := dq_bd (nth l 0) (nth l 1)
  have key : Fx.isq (dq (nth l 0) (nth l 1) * dq (nth l 0) (nth l 1)) = dq (nth l 0) (nth l 1) := by
    refine Fx.isq_unique b.1 (Int.le_refl _) ?_
    rw [Int.add_mul, Int.mul_add]; omega
  unfold spr
  rw [h]
  simp only [sqN, dq_self]
  rw [dq_sym (nth l 1) (nth l 0)]
  simp
  exact key
end Go.Proofs.Ytbbdeagllhmdiaa.Kx
