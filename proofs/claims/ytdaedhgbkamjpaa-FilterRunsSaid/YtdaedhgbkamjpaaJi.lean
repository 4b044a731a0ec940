/- Add of package filter. -/
import Derived.Test.YtdaedhgbkamjpaaJf
import Derived.Laws.IdiomCopy
set_option linter.unusedVariables false
set_option linter.unusedSimpArgs false
namespace Go.Proofs.Ytdaedhgbkamjpaa.JxW
open Go.RowKit FxW Go.Deep
open Go.Proofs.Ytdaedhgbkamjpaa.Jx
theorem run_copy_sized {P : Program} (w : World) (dT sT ty elem : TypeId) (i : TypeInfo) (size : Nat) (b o dLen dCap : Nat) (a : Addr) (sLen sCap k : Nat) (cs : List Value)
    (hu : P.underlying dT = some (.slice elem)) (hi : P.info? elem = some i) (hs : i.size = size) (hk : Nat.min sLen dLen = k) (hn : cs.length = k * size)
    (hsrc : ∀ j v, cs[j]? = some v → w.cell? (a.add j) = some v) (hc : ∀ j, j < cs.length → (w.cell? ⟨b, o + j, none⟩).isSome = true) (hf : ∀ j, j < cs.length → w.frozen? ⟨b, o + j, none⟩ = false) (h1 : ∀ v ∈ cs, v.oneCell' = true) :
    (Builtin.copy_ #[dT, sT] ty #[.slice (some ⟨b, o, none⟩) dLen dCap, .slice (some a) sLen sCap]).run P w = .ok (goInt k) (w.setCells b o cs) := by
  have hl := run_loadCells_list (P := P) w a cs hsrc
  have hst := run_storeCells_cells (P := P) b o cs 0 w (by simpa using hc) (by simpa using hf) h1
  simp [Builtin.copy_, run_underlying hu, Builtin.lenOf, Builtin.firstCells, sizeOf, typeInfo, hi, hs, hk, ← hn, hl, hst]
theorem step_copy_sized {P : Program} {ops : Array Oper} {o : Oper} {a : Act} {w : World} {K : Act → World → Prop} {Q : Exit → Act → World → Prop} {E : Prop} (hgd : o.guard = none) (d s : Operand) (dT sT : TypeId)
    (ho : o.op = .call { callee := .builtin .copy, args := #[d, s], argTypes := #[dT, sT] }) (elem : TypeId) (i : TypeInfo) (size : Nat) (hu : P.underlying dT = some (.slice elem)) (hi : P.info? elem = some i) (hs : i.size = size)
    (b off dLen dCap : Nat) (ad : Addr) (sLen sCap k : Nat) (hd : a.eval d = .slice (some ⟨b, off, none⟩) dLen dCap) (hs2 : a.eval s = .slice (some ad) sLen sCap) (cs : List Value) (hk : Nat.min sLen dLen = k) (hn : cs.length = k * size)
    (hsrc : ∀ j v, cs[j]? = some v → w.cell? (ad.add j) = some v) (hc : ∀ j, j < cs.length → (w.cell? ⟨b, off + j, none⟩).isSome = true) (hf : ∀ j, j < cs.length → w.frozen? ⟨b, off + j, none⟩ = false) (h1 : ∀ v ∈ cs, v.oneCell' = true)
    (h : K (a.put o.dst (goInt k)) (w.setCells b off cs)) : if Region.wanted o (yielded ops a.tmps) = true then Oper.wp P o a w K Q else E := by
  have hw : Region.wanted o (yielded ops a.tmps) = true := by simp [Region.wanted, hgd]
  rw [if_pos hw]
  have hrun := run_copy_sized (P := P) w dT sT o.type elem i size b off dLen dCap ad sLen sCap k cs hu hi hs hk hn hsrc hc hf h1
  unfold Oper.wp
  simp [execOp, ho, resolve, invoke, builtin, hd, hs2, hrun, Result.andThen]
  exact h
/-- the four numbers of a sample -/
def encI (x : Sm) : List Value := [.int .i64 x.o, .int .i64 x.d, .int .i64 x.p, .int .i64 x.t]
theorem encI_at (x : Sm) {j : Nat} (h : j < 4) : (encI x)[j]? = some (.int .i64 (fld x j)) := by
  match j, h with
  | 0, _ => rfl
  | 1, _ => rfl
  | 2, _ => rfl
  | 3, _ => rfl
theorem some_of {α : Type} {o : Option α} {v : α} (h : o = some v) : o.isSome = true := by rw [h]; rfl
theorem size_cells {g : Nat} : ∀ (vs : List Value) (o : Nat) (w : World), (w.setCells g o vs).heap.size = w.heap.size
  | [], _, _ => rfl
  | v :: r, o, w => by rw [World.setCells, size_cells r (o + 1)]; simp
theorem but_cells {g : Nat} {w0 : World} : ∀ (vs : List Value) (o : Nat) {w : World}, But g w0 w → But g w0 (w.setCells g o vs)
  | [], _, _, h => h
  | v :: r, o, w, h => but_cells r (o + 1) (h.setCell o v)
/-- a stage more in its place -/
theorem Fi.stored {w : World} {g : Nat} {tol : Int} {l : List Sm} {any : Bool} {fr : Int} {n : Nat} (F : Fi w g tol l any fr) (hn : l.length = n) (h8 : n < 8) (x : Sm) :
    Fi ((w.setCells g (1 + n * 4) (encI x)).setCell ⟨g, 33, none⟩ (.int .i64 ((n + 1 : Nat) : Int))) g tol (l ++ [x]) any fr ∧ But g w ((w.setCells g (1 + n * 4) (encI x)).setCell ⟨g, 33, none⟩ (.int .i64 ((n + 1 : Nat) : Int))) := by
  have hx : (encI x).length = 4 := rfl
  have live : ∀ j, j < (encI x).length → (w.cell? ⟨g, 1 + n * 4 + j, none⟩).isSome = true := fun j hj => by
    rw [hx] at hj
    obtain ⟨y, hy⟩ := F.more (n * 4 + j) (by omega)
    rw [show 1 + n * 4 + j = 1 + (n * 4 + j) by omega]; exact some_of hy
  have out : ∀ o, o < 1 + n * 4 ∨ 1 + n * 4 + 4 ≤ o → (w.setCells g (1 + n * 4) (encI x)).cell? ⟨g, o, none⟩ = w.cell? ⟨g, o, none⟩ := fun o ho =>
    World.cell?_setCells_out g (encI x) (1 + n * 4) w ⟨g, o, none⟩ (fun _ _ => by rw [hx]; simp; omega)
  have inn : ∀ j, j < 4 → (w.setCells g (1 + n * 4) (encI x)).cell? ⟨g, 1 + n * 4 + j, none⟩ = some (.int .i64 (fld x j)) := fun j hj => by
    have := World.cell?_setCells_in g (encI x) (1 + n * 4) w live j (by rw [hx]; exact hj)
    rw [this]
    have e := encI_at x hj
    rw [List.getElem?_eq_getElem (by rw [hx]; exact hj)] at e
    exact e
  have one : ∀ o, o ≠ 33 → ((w.setCells g (1 + n * 4) (encI x)).setCell ⟨g, 33, none⟩ (.int .i64 ((n + 1 : Nat) : Int))).cell? ⟨g, o, none⟩ = (w.setCells g (1 + n * 4) (encI x)).cell? ⟨g, o, none⟩ := fun o ho =>
    World.cell?_setCell_other _ _ _ _ (by simp <;> omega)
  have sz : (w.setCells g (1 + n * 4) (encI x)).heap.size = w.heap.size := size_cells _ _ _
  refine ⟨⟨by simp [World.setCell, sz]; exact F.lt, by rw [one _ (by omega), out _ (by omega)]; exact F.c0, fun i j hi hj => ?_, fun t ht => ?_, ?_, by rw [one _ (by omega), out _ (by omega)]; exact F.c34, by rw [one _ (by omega), out _ (by omega)]; exact F.c35, fun o => by rw [World.frozen?_setCell, World.frozen?_setCells]; exact F.free o⟩, ?_⟩
  · rw [List.length_append, hn] at hi
    simp at hi
    rw [one _ (by omega)]
    by_cases e : i = n
    · subst e
      rw [show 1 + (i * 4 + j) = 1 + i * 4 + j by omega, inn j hj]
      unfold zof; rw [← hn, nth_last]
    · rw [out _ (by omega)]
      have := F.st i j (by omega) hj
      rw [this]; unfold zof; rw [nth_app (by omega)]
  · rw [one _ (by omega)]
    by_cases e : n * 4 ≤ t ∧ t < n * 4 + 4
    · have := inn (t - n * 4) (by omega)
      rw [show 1 + n * 4 + (t - n * 4) = 1 + t by omega] at this
      exact ⟨_, this⟩
    · rw [out _ (by omega)]; exact F.more t ht
  · rw [List.length_append, hn]
    have h0 : ((w.setCells g (1 + n * 4) (encI x)).cell? ⟨g, 33, none⟩).isSome = true := by rw [out _ (by omega)]; exact some_of F.c33
    exact World.cell?_setCell_same' _ _ _ h0
  · exact But.setCell (but_cells (encI x) (1 + n * 4) (But.refl g w)) 33 _
/-- all stages but the first one, one place lower -/
def news (l : List Sm) : List Value := flat (fun i j => zof l (i + 1) j) 7
theorem Fi.shifted {w : World} {g : Nat} {tol : Int} {l : List Sm} {any : Bool} {fr : Int} (F : Fi w g tol l any fr) (h8 : l.length = 8) :
    Fi ((w.setCells g 1 (news l)).setCell ⟨g, 33, none⟩ (.int .i64 7)) g tol (l.drop 1) any fr ∧ But g w ((w.setCells g 1 (news l)).setCell ⟨g, 33, none⟩ (.int .i64 7)) := by
  have hx : (news l).length = 28 := by unfold news; rw [flat_len]
  have live : ∀ j, j < (news l).length → (w.cell? ⟨g, 1 + j, none⟩).isSome = true := fun j hj => by
    rw [hx] at hj
    obtain ⟨y, hy⟩ := F.more j (by omega)
    exact some_of hy
  have out : ∀ o, o < 1 ∨ 29 ≤ o → (w.setCells g 1 (news l)).cell? ⟨g, o, none⟩ = w.cell? ⟨g, o, none⟩ := fun o ho =>
    World.cell?_setCells_out g (news l) 1 w ⟨g, o, none⟩ (fun _ _ => by rw [hx]; simp; omega)
  have inn : ∀ i j, i < 7 → j < 4 → (w.setCells g 1 (news l)).cell? ⟨g, 1 + (i * 4 + j), none⟩ = some (.int .i64 (zof l (i + 1) j)) := fun i j hi hj => by
    have := World.cell?_setCells_in g (news l) 1 w live (i * 4 + j) (by rw [hx]; omega)
    rw [this]
    have e := flat_at (fun i j => zof l (i + 1) j) hi hj
    have lt : i * 4 + j < (news l).length := by rw [hx]; omega
    unfold news at lt ⊢
    rw [List.getElem?_eq_getElem lt] at e
    exact e
  have one : ∀ o, o ≠ 33 → ((w.setCells g 1 (news l)).setCell ⟨g, 33, none⟩ (.int .i64 7)).cell? ⟨g, o, none⟩ = (w.setCells g 1 (news l)).cell? ⟨g, o, none⟩ := fun o ho =>
    World.cell?_setCell_other _ _ _ _ (by simp <;> omega)
  have sz : (w.setCells g 1 (news l)).heap.size = w.heap.size := size_cells _ _ _
  refine ⟨⟨by simp [World.setCell, sz]; exact F.lt, by rw [one _ (by omega), out _ (by omega)]; exact F.c0, fun i j hi hj => ?_, fun t ht => ?_, ?_, by rw [one _ (by omega), out _ (by omega)]; exact F.c34, by rw [one _ (by omega), out _ (by omega)]; exact F.c35, fun o => by rw [World.frozen?_setCell, World.frozen?_setCells]; exact F.free o⟩, ?_⟩
  · rw [List.length_drop, h8] at hi
    rw [one _ (by omega), inn i j hi hj]
    unfold zof; rw [nth_drop, Nat.add_comm 1 i]
  · rw [one _ (by omega)]
    by_cases e : t < 28
    · have := inn (t / 4) (t % 4) (by omega) (by omega)
      rw [show 1 + (t / 4 * 4 + t % 4) = 1 + t by omega] at this
      exact ⟨_, this⟩
    · rw [out _ (by omega)]; exact F.more t ht
  · rw [List.length_drop, h8]
    have h0 : ((w.setCells g 1 (news l)).cell? ⟨g, 33, none⟩).isSome = true := by rw [out _ (by omega)]; exact some_of F.c33
    exact World.cell?_setCell_same' _ _ _ h0
  · exact But.setCell (but_cells (news l) 1 (But.refl g w)) 33 _
theorem news_src {w : World} {g : Nat} {tol : Int} {l : List Sm} {any : Bool} {fr : Int} (F : Fi w g tol l any fr) (h8 : l.length = 8) : ∀ j u, (news l)[j]? = some u → w.cell? ((⟨g, 5, none⟩ : Addr).add j) = some u := fun j u hj => by
  obtain ⟨lt, rfl⟩ := flat_get hj
  have := F.st (j / 4 + 1) (j % 4) (by omega) (by omega)
  rw [show 1 + ((j / 4 + 1) * 4 + j % 4) = 5 + j by omega] at this
  rw [add_at]; exact this
/-- what Add leaves -/
structure Added (w w' : World) (g : Nat) (tol : Int) (l : List Sm) (any : Bool) (fr : Int) : Prop where
  fi : Fi w' g tol l any fr
  but : But g w w'
set_option maxHeartbeats 2000000 in
theorem add_bad {g : Nat} {tol : Int} {l : List Sm} {any : Bool} {fr : Int} (xo xd xp xt : Int) (hx : Sx.okS xo xd xp xt = false) (w : World) (F : Fi w g tol l any fr) :
    Calls Try.prog 13 #[.pointer (some ⟨g, 0, none⟩), .agg #[.int .i64 xo, .int .i64 xd, .int .i64 xp, .int .i64 xt]] w fun e w' => e = .returned (.int .i64 (addE l ⟨xo, xd, xp, xt⟩)) ∧ Added w w' g tol (addL l ⟨xo, xd, xp, xt⟩) any fr := by
  have CK := Lib.hid (fun W => scheck_no xo xd xp xt hx W)
  have E := Lib.hid (addE_no (l := l) (x := ⟨xo, xd, xp, xt⟩) hx)
  have EL := Lib.hid (addL_no (l := l) (x := ⟨xo, xd, xp, xt⟩) (by rw [E.out]; omega))
  rw [E.out, EL.out]
  have HF := Lib.hid F
  clear F hx
  go_enter Try.func13, Try.ntmps13
  go_wp2_with (go_at_call 28; (with_reducible refine (CK.out _).mono ?_); rintro e w2 ⟨rfl, hb2⟩; have HB2 := Lib.hid hb2; clear hb2)
  go_ret
  have b : Below w.heap.size w w2 := Below.trans (by (repeat (first | exact Below.refl _ _ | refine Below.drew ?_ | refine Hp.drewN ?_ _ | refine Below.setCell ?_ (by first | (simp; done) | (simp; omega) | omega) _ | refine Below.alloc ?_ (by first | (simp; done) | (simp; omega) | omega) _ | (refine Hp.step ?_ (by assumption))))) (HB2.out.mono (by simp))
  exact ⟨rfl, HF.out.later b, But.below b⟩
set_option maxHeartbeats 4000000 in
theorem add_order {g : Nat} {tol : Int} {l : List Sm} {any : Bool} {fr : Int} (V : Val l) (xo xd xp xt : Int) (hx : Sx.okS xo xd xp xt = true) (h0 : 0 < l.length) (ht : xt ≤ lastT l) (w : World) (F : Fi w g tol l any fr) :
    Calls Try.prog 13 #[.pointer (some ⟨g, 0, none⟩), .agg #[.int .i64 xo, .int .i64 xd, .int .i64 xp, .int .i64 xt]] w fun e w' => e = .returned (.int .i64 (addE l ⟨xo, xd, xp, xt⟩)) ∧ Added w w' g tol (addL l ⟨xo, xd, xp, xt⟩) any fr := by
  have CK := Lib.hid (fun W => scheck_ok xo xd xp xt hx W)
  have E := Lib.hid (addE_order (l := l) (x := ⟨xo, xd, xp, xt⟩) hx (by intro e; rw [e] at h0; simp at h0) ht)
  have EL := Lib.hid (addL_no (l := l) (x := ⟨xo, xd, xp, xt⟩) (by rw [E.out]; omega))
  rw [E.out, EL.out]
  have HF := Lib.hid F
  have n8 := V.len
  obtain ⟨k, hk⟩ : ∃ k, l.length = k + 1 := ⟨l.length - 1, by omega⟩
  have CT := Lib.hid (fun W (F : Fi W g tol l any fr) => show W.cell? ⟨g, 33, none⟩ = some (.int .i64 ((k + 1 : Nat) : Int)) ∧ W.cell? ⟨g, 1 + k * 4 + 3, none⟩ = some (.int .i64 (lastT l)) from by
    have c := F.c33; have ct := F.ct h0
    rw [hk] at c
    rw [hk, show k + 1 - 1 = k by omega, show 1 + (k * 4 + 3) = 1 + k * 4 + 3 by omega] at ct
    exact ⟨c, ct⟩)
  obtain ⟨T, eT⟩ : ∃ T, lastT l = T := ⟨_, rfl⟩
  rw [eT] at CT ht
  have j1 : (0 : Int) < (k : Int) + 1 := by omega
  have j2 : (k : Int) + 1 - 1 = k := by omega
  have j3 : k < 8 := by omega
  have j4 : (k : Int) < 8 := by omega
  clear F hx hk eT h0 V
  go_enter Try.func13, Try.ntmps13
  go_wp2_with (go_at_call 28; (with_reducible refine (CK.out _).mono ?_); rintro e w2 ⟨rfl, hb2⟩; have HB2 := Lib.hid hb2; clear hb2)
  have B0 : Hid (Below w.heap.size w (w.alloc (.cells #[.int .i64 xo, .int .i64 xd, .int .i64 xp, .int .i64 xt] 29))) := Lib.hid (by (repeat (first | exact Below.refl _ _ | refine Below.drew ?_ | refine Hp.drewN ?_ _ | refine Below.setCell ?_ (by first | (simp; done) | (simp; omega) | omega) _ | refine Below.alloc ?_ (by first | (simp; done) | (simp; omega) | omega) _ | (refine Hp.step ?_ (by assumption)))))
  have B2 := Lib.hid (B0.out.trans (HB2.out.mono (by simp)))
  have blk : w2.heap[w.heap.size]? = some (.cells #[.int .i64 xo, .int .i64 xd, .int .i64 xp, .int .i64 xt] 29 (0, 0)) := by rw [HB2.out.block _ (by simp)]; exact Hp.blk_new w _
  have z3 : w2.cell? ⟨w.heap.size, 3, none⟩ = some (.int .i64 xt) := Hp.blk_cell blk rfl
  obtain ⟨c, ct⟩ := CT.out w2 (HF.out.later B2.out)
  clear blk
  go_quiet (fail)
  go_wp2_with (fail)
  go_ret
  have b : Below w.heap.size w (w2.drewN nq) := Hp.drewN B2.out _
  exact ⟨rfl, HF.out.later b, But.below b⟩
end Go.Proofs.Ytdaedhgbkamjpaa.JxW
