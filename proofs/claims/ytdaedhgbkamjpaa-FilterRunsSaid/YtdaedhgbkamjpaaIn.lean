/- Arguments that are structs of integers, by value or in a slice, opened to their numbers; and read again behind a call that writes nothing that was there. -/
import Derived.Test.YtdaedhgbkamjpaaRows
import Derived.WalkKit
import Derived.ProofKit
import Derived.OpenShut
import Derived.Lib.SmallJoins
import Derived.Deep.Slices
import Derived.Deep.Fields
import Derived.Deep.Grids
import Derived.ChangeSame
set_option linter.unusedVariables false
set_option linter.unusedSimpArgs false
namespace Go.Proofs.Ytdaedhgbkamjpaa.In
open Go.ChangeShapes Go.WideShapes Go.ChangeAt Go.RowKit Go.Joins Go.Deep
section
variable {H : Type} {enc : TypeId × Value → H} {P : Program} {w : World} {base : Nat} {spare : Nat → Bool} {held : Bool}

/-- all fields of a struct are integers of these kinds, each one cell -/
def IntFields (P : Program) (fs : Array Field) (ks : List IntKind) : Prop := fs.size = ks.length ∧ ∀ (j : Nat) (f : Field), fs[j]? = some f → ∃ k, ks[j]? = some k ∧ P.underlying f.type = some (.int k)

def intFieldsB (P : Program) (fs : Array Field) (ks : List IntKind) : Bool :=
  decide (fs.size = ks.length) && (List.range fs.size).all fun j => match fs[j]?, ks[j]? with
    | some f, some k => (match P.underlying f.type with | some (.int k') => decide (k' = k) | _ => false)
    | _, _ => false
theorem intFields_of {fs : Array Field} {ks : List IntKind} (h : intFieldsB P fs ks = true) : IntFields P fs ks := by
  unfold intFieldsB at h
  simp only [Bool.and_eq_true, decide_eq_true_eq, List.all_eq_true, List.mem_range] at h
  refine ⟨h.1, fun j f hj => ?_⟩
  have hl : j < fs.size := (Array.getElem?_eq_some_iff.1 hj).1
  have g := h.2 j hl
  rw [hj] at g
  have hk : ks[j]? = some (ks[j]'(by rw [← h.1]; exact hl)) := List.getElem?_eq_getElem _
  rw [hk] at g
  refine ⟨_, hk, ?_⟩
  dsimp only at g
  split at g
  · rename_i k' hu; rw [hu, of_decide_eq_true g]
  · cases g
/-- a struct of integers by value: its numbers -/
theorem open_ints_agg {r : Reach} {b0 : Nat} {t : TypeId} {fs : Array Field} {ks : List IntKind} {v : Value} {d : DataW H} {p : List MemPlace} (hs : P.underlying t = some (.struct fs)) (hone : oneCellFields P fs = true) (hC : P.cellsOf t = fs.size) (hk : IntFields P fs ks)
    (hv : Value.okWide P w r b0 t v) (h : DataW.Trod enc P w base spare held t v d p) :
    ∃ zs : List Int, zs.length = ks.length ∧ v = .agg (List.zipWith Value.int ks zs).toArray ∧ ∀ (j : Nat) (k : IntKind) (z : Int), ks[j]? = some k → zs[j]? = some z → (Lit.int k z).wf = true := by
  obtain ⟨cs, rfl, hsz⟩ := okWide_struct hs hv
  obtain ⟨l⟩ := cs
  have hl : l.length = fs.size := by simpa using hsz.trans hC
  obtain ⟨fuel, hf⟩ := h
  obtain ⟨xs, n, _, hx, _, hlen, hg⟩ := DataW.trod_struct hs hf
  have key : ∀ j, j < ks.length → ∃ k z, ks[j]? = some k ∧ l[j]? = some (Value.int k z) ∧ (Lit.int k z).wf = true := by
    intro j hj
    have hj' : j < fs.size := by rw [hk.1]; exact hj
    obtain ⟨k, hk1, hk2⟩ := hk.2 j fs[j] (Array.getElem?_eq_getElem hj')
    obtain ⟨o0, k0⟩ := hone_of hone j fs[j] (Array.getElem?_eq_getElem hj')
    have g := hg j fs[j] (Array.getElem?_eq_getElem hj')
    rw [o0, k0] at g
    have hc : l[j]? = some (l[j]'(by omega)) := List.getElem?_eq_getElem (by omega)
    have hone' : (l.drop j).take 1 = [l[j]'(by omega)] := by rw [List.drop_eq_getElem_cons (by omega)]; rfl
    have hys : xs[j]? = some (xs[j]'(by omega)) := List.getElem?_eq_getElem (by omega)
    have g' : DataW.trod enc P w base spare held n (fs[j]).type [l[j]'(by omega)] = some (xs[j]'(by omega)) := by
      rw [← hone', ← hys, ← g]; simp [Value.cells]
    obtain ⟨z, hz, _, wz⟩ := DataW.trod_int hk2 g'
    refine ⟨k, z, hk1, ?_, wz⟩
    rw [hc]; simp at hz; rw [hz]
  refine ⟨l.map (fun v => match v with | .int _ z => z | _ => 0), by simp [hl, hk.1], ?_, ?_⟩
  · refine congrArg (fun x : List Value => Value.agg x.toArray) (List.ext_getElem? fun j => ?_)
    by_cases hj : j < ks.length
    · obtain ⟨k, z, h1, h2, _⟩ := key j hj
      simp [List.getElem?_zipWith, h1, h2]
    · have e := hk.1
      rw [List.getElem?_eq_none (l := l) (show l.length ≤ j by omega), List.getElem?_eq_none (by simp; omega)]
  · intro j k z hkj hzj
    have hj : j < ks.length := (List.getElem?_eq_some_iff.1 hkj).1
    obtain ⟨k', z', h1, h2, h3⟩ := key j hj
    obtain rfl : k = k' := Option.some.inj (hkj.symm.trans h1)
    simp [h2] at hzj
    subst hzj; exact h3
/-- a slice of integers that came in -/
def IsInts (k : IntKind) (w : World) (a : Option Addr) (len cap : Nat) (zs : List Int) : Prop :=
  (a = none ∧ len = 0 ∧ cap = 0 ∧ zs = []) ∨
  ∃ x, a = some x ∧ len ≤ cap ∧ cap ≤ maxLen ∧ zs.length = cap ∧ (∀ i, i < zs.length → w.cell? (x.add i) = some (.int k (zs.getD i 0))) ∧ ∀ n ∈ zs, (Lit.int k n).wf = true
theorem isInts_of {t e : TypeId} {k : IntKind} {a : Option Addr} {len cap : Nat} {d : DataW H} {p : List MemPlace} (ht : P.underlying t = some (.slice e)) (he : P.underlying e = some (.int k)) (hC : P.cellsOf e = 1)
    (h : DataW.Trod enc P w 0 (fun _ => true) true t (.slice a len cap) d p) : ∃ zs, IsInts k w a len cap zs := by
  obtain ⟨fuel, hf⟩ := h
  rcases open_ints ht he hC hf with ⟨hcs, _⟩ | ⟨x, l, c, zs, hcs, _, hl, hm, hz, _, hcell, hwz⟩
  · simp [Value.cells] at hcs
    obtain ⟨rfl, rfl, rfl⟩ := hcs
    exact ⟨[], .inl ⟨rfl, rfl, rfl, rfl⟩⟩
  · simp [Value.cells] at hcs
    obtain ⟨rfl, rfl, rfl⟩ := hcs
    exact ⟨zs, .inr ⟨_, rfl, hl, hm, by simpa using hz, hcell, hwz⟩⟩
/-- the cells of one struct of integers -/
theorem ints_cells {e : TypeId} {fs : Array Field} {ks : List IntKind} {n : Nat} {l : List Value} {y : DataW H × List MemPlace} (hs : P.underlying e = some (.struct fs)) (hone : oneCellFields P fs = true) (hk : IntFields P fs ks) (hl : l.length = fs.size)
    (hf : DataW.trod enc P w base spare held n e l = some y) : ∀ (j : Nat) (k : IntKind), ks[j]? = some k → ∃ z, l[j]? = some (Value.int k z) ∧ (Lit.int k z).wf = true := by
  obtain ⟨xs, n', _, hx, _, hlen, hg⟩ := DataW.trod_struct hs hf
  intro j k hkj
  have hj : j < ks.length := (List.getElem?_eq_some_iff.1 hkj).1
  have hj' : j < fs.size := by rw [hk.1]; exact hj
  obtain ⟨k', hk1, hk2⟩ := hk.2 j fs[j] (Array.getElem?_eq_getElem hj')
  obtain rfl : k = k' := Option.some.inj (hkj.symm.trans hk1)
  obtain ⟨o0, k0⟩ := hone_of hone j fs[j] (Array.getElem?_eq_getElem hj')
  have g := hg j fs[j] (Array.getElem?_eq_getElem hj')
  rw [o0, k0] at g
  have hc : l[j]? = some (l[j]'(by omega)) := List.getElem?_eq_getElem (by omega)
  have hone' : (l.drop j).take 1 = [l[j]'(by omega)] := by rw [List.drop_eq_getElem_cons (by omega)]; rfl
  have hys : xs[j]? = some (xs[j]'(by omega)) := List.getElem?_eq_getElem (by omega)
  have g' : DataW.trod enc P w base spare held n' (fs[j]).type [l[j]'(by omega)] = some (xs[j]'(by omega)) := by
    rw [← hone', ← hys, ← g]
  obtain ⟨z, hz, _, wz⟩ := DataW.trod_int hk2 g'
  refine ⟨z, ?_, wz⟩
  rw [hc]; simp at hz; rw [hz]
/-- a slice of structs of integers that came in: field j of element i is z i j -/
def IsStructs (ks : List IntKind) (w : World) (a : Option Addr) (len cap : Nat) (z : Nat → Nat → Int) : Prop :=
  (a = none ∧ len = 0 ∧ cap = 0) ∨
  ∃ x : Addr, a = some x ∧ len ≤ cap ∧ cap ≤ maxLen ∧ ∀ i, i < cap → ∀ (j : Nat) (k : IntKind), ks[j]? = some k → w.cell? (x.add (i * ks.length + j)) = some (.int k (z i j)) ∧ (Lit.int k (z i j)).wf = true
theorem isStructs_of {t e : TypeId} {fs : Array Field} {ks : List IntKind} {a : Option Addr} {len cap : Nat} {d : DataW H} {p : List MemPlace} (ht : P.underlying t = some (.slice e)) (hs : P.underlying e = some (.struct fs)) (hone : oneCellFields P fs = true) (hC : P.cellsOf e = fs.size) (hk : IntFields P fs ks)
    (h : DataW.Trod enc P w 0 (fun _ => true) true t (.slice a len cap) d p) : ∃ z, IsStructs ks w a len cap z := by
  obtain ⟨fuel, hf⟩ := h
  rcases open_slice ht hf with ⟨hcs, _⟩ | ⟨x, l, c, m, n, D, Pl, hcs, _, hl, hm, hmm, _, hi⟩
  · simp [Value.cells] at hcs
    obtain ⟨rfl, rfl, rfl⟩ := hcs
    exact ⟨fun _ _ => 0, .inl ⟨rfl, rfl, rfl⟩⟩
  · simp [Value.cells] at hcs
    obtain ⟨rfl, rfl, rfl⟩ := hcs
    simp at hmm
    subst hmm
    refine ⟨fun i j => match w.cell? (x.add (i * ks.length + j)) with | some (.int _ z) => z | _ => 0, .inr ⟨_, rfl, hl, hm, fun i hic j k hkj => ?_⟩⟩
    obtain ⟨cs', hc, ht'⟩ := hi i hic
    obtain ⟨_, hcl, hat⟩ := World.cells?_some hc
    obtain ⟨z, hz, wz⟩ := ints_cells hs hone hk (hcl.trans hC) ht' j k hkj
    have hj : j < ks.length := (List.getElem?_eq_some_iff.1 hkj).1
    have e1 := hat j (by rw [hC, hk.1]; exact hj)
    rw [add_add, hC, hk.1, hz] at e1
    simp only [e1]
    exact ⟨trivial, wz⟩
/-- the data that a slice reads as: as many as its capacity -/
theorem slice_data {t e : TypeId} {a : Option Addr} {len cap : Nat} {d : DataW H} {p : List MemPlace} (ht : P.underlying t = some (.slice e)) (h : DataW.Trod enc P w 0 (fun _ => true) true t (.slice a len cap) d p) :
    (len = 0 ∧ cap = 0) ∨ ∃ xs ys, d = .slice xs ys ∧ xs.length + ys.length = cap ∧ len ≤ cap := by
  obtain ⟨fuel, hf⟩ := h
  rcases open_slice ht hf with ⟨hcs, _⟩ | ⟨x, l, c, m, n, D, Pl, hcs, _, hl, hm, hmm, hx, hi⟩
  · simp [Value.cells] at hcs
    obtain ⟨rfl, rfl, rfl⟩ := hcs
    exact .inl ⟨rfl, rfl⟩
  · simp [Value.cells] at hcs
    obtain ⟨rfl, rfl, rfl⟩ := hcs
    simp at hmm
    subst hmm
    simp only [Prod.mk.injEq] at hx
    obtain ⟨rfl, _⟩ := hx
    exact .inr ⟨_, _, rfl, by simp; omega, hl⟩
/-- element i of a slice of integers that came in -/
theorem IsInts.elem {k : IntKind} {a : Option Addr} {len cap : Nat} {zs : List Int} (h : IsInts k w a len cap zs) (i : Nat) (hi : i < len) :
    ∃ b o, a = some ⟨b, o, none⟩ ∧ b < w.heap.size ∧ w.cell? ⟨b, o + i, none⟩ = some (.int k (zs.getD i 0)) ∧ (Lit.int k (zs.getD i 0)).wf = true := by
  rcases h with ⟨_, h0, _, _⟩ | ⟨x, hx, hl, _, hz, hc, hw⟩
  · omega
  · have hi' : i < zs.length := by omega
    have e := hc i hi'
    have e0 := hc 0 (by omega)
    obtain ⟨b, o, s⟩ := x
    have e0' : w.cell? ⟨b, o, s⟩ = some (.int k (zs.getD 0 0)) := by simpa [Addr.add] using e0
    have hs : s = none := by
      cases s with
      | none => rfl
      | some y =>
        unfold World.cell? at e0'
        simp at e0'
        split at e0' <;> cases e0'
    subst hs
    have hb : b < w.heap.size := by
      unfold World.cell? at e0'
      split at e0'
      · rename_i hh
        exact (Array.getElem?_eq_some_iff.1 hh).1
      · cases e0'
    refine ⟨b, o, hx, hb, ?_, hw _ ?_⟩
    · rw [← e]
      congr 1
      unfold Addr.add
      by_cases h0 : i = 0 <;> simp [h0]
    · rw [List.getD_eq_getElem?_getD, List.getElem?_eq_getElem hi']; exact List.getElem_mem _
theorem IsInts.lens {k : IntKind} {a : Option Addr} {len cap : Nat} {zs : List Int} (h : IsInts k w a len cap zs) : len ≤ cap ∧ cap ≤ 9223372036854775807 := by
  rcases h with ⟨_, rfl, rfl, _⟩ | ⟨x, hx, hl, hm, _⟩
  · omega
  · unfold maxLen at hm; omega
/-- where a slice lies whose cells are known -/
theorem addr_of {x : Addr} {n : Nat} (hn : 0 < n) (hc : ∀ i, i < n → ∃ v, w.cell? (x.add i) = some v) : ∃ b o, x = ⟨b, o, none⟩ ∧ b < w.heap.size ∧ ∀ i, x.add i = ⟨b, o + i, none⟩ := by
  obtain ⟨v, e0⟩ := hc 0 hn
  obtain ⟨b, o, s⟩ := x
  have e0' : w.cell? ⟨b, o, s⟩ = some v := by simpa [Addr.add] using e0
  have hs : s = none := by
    cases s with
    | none => rfl
    | some y =>
      unfold World.cell? at e0'
      simp at e0'
      split at e0' <;> cases e0'
  subst hs
  refine ⟨b, o, rfl, ?_, fun i => ?_⟩
  · unfold World.cell? at e0'
    split at e0'
    · rename_i hh
      exact (Array.getElem?_eq_some_iff.1 hh).1
    · cases e0'
  · unfold Addr.add
    by_cases h0 : i = 0 <;> simp [h0]
/-- a slice of bools that came in -/
def IsBools (w : World) (a : Option Addr) (len cap : Nat) (z : Nat → Bool) : Prop :=
  (a = none ∧ len = 0 ∧ cap = 0) ∨ ∃ x : Addr, a = some x ∧ len ≤ cap ∧ cap ≤ maxLen ∧ ∀ i, i < cap → w.cell? (x.add i) = some (.bool (z i))
theorem isBools_of {t e : TypeId} {a : Option Addr} {len cap : Nat} {d : DataW H} {p : List MemPlace} (ht : P.underlying t = some (.slice e)) (he : P.underlying e = some .bool) (hC : P.cellsOf e = 1)
    (h : DataW.Trod enc P w 0 (fun _ => true) true t (.slice a len cap) d p) : ∃ z, IsBools w a len cap z := by
  obtain ⟨fuel, hf⟩ := h
  rcases open_bools ht he hC hf with ⟨hcs, _⟩ | ⟨x, l, c, B, hcs, _, hl, hm, _, hcell⟩
  · simp [Value.cells] at hcs
    obtain ⟨rfl, rfl, rfl⟩ := hcs
    exact ⟨fun _ => false, .inl ⟨rfl, rfl, rfl⟩⟩
  · simp [Value.cells] at hcs
    obtain ⟨rfl, rfl, rfl⟩ := hcs
    exact ⟨B, .inr ⟨_, rfl, hl, hm, hcell⟩⟩
theorem IsBools.elem {a : Option Addr} {len cap : Nat} {z : Nat → Bool} (h : IsBools w a len cap z) (i : Nat) (hi : i < len) :
    ∃ b o, a = some ⟨b, o, none⟩ ∧ b < w.heap.size ∧ w.cell? ⟨b, o + i, none⟩ = some (.bool (z i)) := by
  rcases h with ⟨_, h0, _⟩ | ⟨x, hx, hl, _, hc⟩
  · omega
  · obtain ⟨b, o, rfl, hb, ha⟩ := addr_of (n := cap) (by omega) (fun j hj => ⟨_, hc j hj⟩)
    exact ⟨b, o, hx, hb, by rw [← ha]; exact hc i (by omega)⟩
theorem IsBools.lens {a : Option Addr} {len cap : Nat} {z : Nat → Bool} (h : IsBools w a len cap z) : len ≤ cap ∧ cap ≤ 9223372036854775807 := by
  rcases h with ⟨_, rfl, rfl⟩ | ⟨x, hx, hl, hm, _⟩
  · omega
  · unfold maxLen at hm; omega
theorem IsStructs.elem {ks : List IntKind} {a : Option Addr} {len cap : Nat} {z : Nat → Nat → Int} (h : IsStructs ks w a len cap z) (hk : 0 < ks.length) (i : Nat) (hi : i < len) :
    ∃ b o, a = some ⟨b, o, none⟩ ∧ b < w.heap.size ∧ ∀ (j : Nat) (k : IntKind), ks[j]? = some k → w.cell? ⟨b, o + (i * ks.length + j), none⟩ = some (.int k (z i j)) ∧ (Lit.int k (z i j)).wf = true := by
  rcases h with ⟨_, h0, _⟩ | ⟨x, hx, hl, _, hc⟩
  · omega
  · obtain ⟨b, o, rfl, hb, ha⟩ := addr_of (w := w) (x := x) (n := 1) (by omega) (fun j hj => by
      obtain rfl : j = 0 := by omega
      obtain ⟨c1, _⟩ := hc 0 (by omega) 0 (ks[0]'hk) (List.getElem?_eq_getElem hk)
      exact ⟨_, by simpa using c1⟩)
    refine ⟨b, o, hx, hb, fun j k hkj => ?_⟩
    obtain ⟨c1, c2⟩ := hc i (by omega) j k hkj
    exact ⟨by rw [← ha]; exact c1, c2⟩
theorem IsStructs.lens {ks : List IntKind} {a : Option Addr} {len cap : Nat} {z : Nat → Nat → Int} (h : IsStructs ks w a len cap z) : len ≤ cap ∧ cap ≤ 9223372036854775807 := by
  rcases h with ⟨_, rfl, rfl⟩ | ⟨x, hx, hl, hm, _⟩
  · omega
  · unfold maxLen at hm; omega
end
end Go.Proofs.Ytdaedhgbkamjpaa.In
