/- Best of package filter: what is refused. -/
import Derived.Test.YtdaedhgbkamjpaaJh
set_option linter.unusedVariables false
set_option linter.unusedSimpArgs false
namespace Go.Proofs.Ytdaedhgbkamjpaa.JxW
open Go.RowKit FxW
open Go.Proofs.Ytdaedhgbkamjpaa.Jx
/-- what Best returns and leaves -/
structure Bested (w : World) (g : Nat) (tol : Int) (l : List Sm) (any : Bool) (fr now : Int) (e : Ending) (w' : World) : Prop where
  ret : e = .returned (.tuple #[.agg #[.int .i64 (bestR l now tol).o, .int .i64 (bestR l now tol).d, .int .i64 (bestR l now tol).p, .int .i64 (bestR l now tol).t], .bool (freshB l any fr now tol), .int .i64 (bestR l now tol).e])
  fi : Fi w' g tol l (anyN l any fr now tol) (frN l any fr now tol)
  but : But g w w'
end Go.Proofs.Ytdaedhgbkamjpaa.JxW
namespace Go.Proofs.Ytdaedhgbkamjpaa.Jx
theorem bestR_nil (now tol : Int) : bestR [] now tol = ⟨0, 0, 0, 0, 14⟩ := by unfold bestR; rw [if_pos rfl]
theorem bestR_early {l : List Sm} {now tol : Int} (h0 : 0 < l.length) (h : now < lastT l) : bestR l now tol = ⟨0, 0, 0, 0, 12⟩ := by
  unfold bestR; rw [if_neg (by intro e; rw [e] at h0; simp at h0), if_pos h]
theorem bestR_bad {l : List Sm} {now tol : Int} {G : Sx.R5} (h0 : 0 < l.length) (h : ¬ now < lastT l) (hG : grow (first l) now tol = G) (he : G.e ≠ 0) : bestR l now tol = ⟨0, 0, 0, 0, G.e⟩ := by
  unfold bestR; rw [if_neg (by intro e; rw [e] at h0; simp at h0), if_neg h, hG, if_neg he]
theorem bestR_ok {l : List Sm} {now tol : Int} {G : Sx.R5} (h0 : 0 < l.length) (h : ¬ now < lastT l) (hG : grow (first l) now tol = G) (he : G.e = 0) : bestR l now tol = G := by
  unfold bestR; rw [if_neg (by intro e; rw [e] at h0; simp at h0), if_neg h, hG, if_pos he]
theorem fresh_no {l : List Sm} {any : Bool} {fr now tol : Int} (h : (bestR l now tol).e ≠ 0) : freshB l any fr now tol = false ∧ anyN l any fr now tol = any ∧ frN l any fr now tol = fr := by
  have f : freshB l any fr now tol = false := by unfold freshB; rw [decide_eq_false h]; rfl
  exact ⟨f, by unfold anyN; rw [f, Bool.or_false], by unfold frN; rw [f]; rfl⟩
theorem fresh_ok {l : List Sm} {any : Bool} {fr now tol : Int} (h : (bestR l now tol).e = 0) : freshB l any fr now tol = (!any || decide (fr < (first l).t)) := by
  unfold freshB; rw [decide_eq_true h, Bool.true_and]
end Go.Proofs.Ytdaedhgbkamjpaa.Jx
namespace Go.Proofs.Ytdaedhgbkamjpaa.JxW
open Go.RowKit FxW
open Go.Proofs.Ytdaedhgbkamjpaa.Jx
set_option maxHeartbeats 2000000 in
theorem best_nil {g : Nat} {tol : Int} {l : List Sm} {any : Bool} {fr : Int} (hl : l = []) (now : Int) (w : World) (F : Fi w g tol l any fr) :
    Calls Try.prog 16 #[.pointer (some ⟨g, 0, none⟩), .int .i64 now] w (Bested w g tol l any fr now) := by
  subst hl
  have R := Lib.hid (bestR_nil now tol)
  have N := Lib.hid (fresh_no (l := []) (any := any) (fr := fr) (now := now) (tol := tol) (by rw [R.out]; decide))
  have c := F.c33
  have HF := Lib.hid F
  have lt := F.lt
  clear F
  go_enter Try.func16, Try.ntmps16
  go_wp2_with (fail)
  have b : ∀ W : World, Below w.heap.size w W → Bested w g tol [] any fr now (.returned (.tuple #[.agg #[.int .i64 0, .int .i64 0, .int .i64 0, .int .i64 0], .bool false, .int .i64 14])) W := fun W k =>
    ⟨by rw [R.out, N.out.1], by rw [N.out.2.1, N.out.2.2]; exact HF.out.later k, But.below k⟩
  exact bodyPost_ret (v := .tuple #[.agg #[.int .i64 0, .int .i64 0, .int .i64 0, .int .i64 0], .bool false, .int .i64 14]) (by simp [results, Try.results16, go_sem]) rfl (b _ (by (repeat (first | exact Below.refl _ _ | refine Below.drew ?_ | refine Hp.drewN ?_ _ | refine Below.setCell ?_ (by first | (simp; done) | (simp; omega) | omega) _ | refine Below.alloc ?_ (by first | (simp; done) | (simp; omega) | omega) _ | (refine Hp.step ?_ (by assumption))))))
set_option maxHeartbeats 4000000 in
theorem best_early {g : Nat} {tol : Int} {l : List Sm} {any : Bool} {fr : Int} (V : Val l) (now : Int) (h0 : 0 < l.length) (h : now < lastT l) (w : World) (F : Fi w g tol l any fr) :
    Calls Try.prog 16 #[.pointer (some ⟨g, 0, none⟩), .int .i64 now] w (Bested w g tol l any fr now) := by
  have R := Lib.hid (bestR_early (tol := tol) h0 h)
  have N := Lib.hid (fresh_no (l := l) (any := any) (fr := fr) (now := now) (tol := tol) (by rw [R.out]; decide))
  have ER := Lib.hid (show erl l now = true from decide_eq_true ⟨by omega, h⟩)
  have EA := Lib.hid (fun W (F : Fi W g tol l any fr) => early_any V now W F)
  rw [ER.out] at EA
  have c := F.c33
  have HF := Lib.hid F
  have lt := F.lt
  have FA : Hid (∀ o, Fi (w.alloc o) g tol l any fr) := Lib.hid fun o => F.later (by (repeat (first | exact Below.refl _ _ | refine Below.drew ?_ | refine Hp.drewN ?_ _ | refine Below.setCell ?_ (by first | (simp; done) | (simp; omega) | omega) _ | refine Below.alloc ?_ (by first | (simp; done) | (simp; omega) | omega) _ | (refine Hp.step ?_ (by assumption)))))
  obtain ⟨n, hn⟩ : ∃ n, l.length = n := ⟨_, rfl⟩
  rw [hn] at c h0
  have q : ((n : Int) == 0) = false := by simp; omega
  clear F V hn h
  go_enter Try.func16, Try.ntmps16
  go_wp2_with (go_at_call 30; (with_reducible refine (EA.out _ (FA.out _)).mono ?_); rintro e w' ⟨rfl, nq, rfl⟩)
  have b : ∀ W : World, Below w.heap.size w W → Bested w g tol l any fr now (.returned (.tuple #[.agg #[.int .i64 0, .int .i64 0, .int .i64 0, .int .i64 0], .bool false, .int .i64 12])) W := fun W k =>
    ⟨by rw [R.out, N.out.1], by rw [N.out.2.1, N.out.2.2]; exact HF.out.later k, But.below k⟩
  exact bodyPost_ret (v := .tuple #[.agg #[.int .i64 0, .int .i64 0, .int .i64 0, .int .i64 0], .bool false, .int .i64 12]) (by simp [results, Try.results16, go_sem]) rfl (b _ (by (repeat (first | exact Below.refl _ _ | refine Below.drew ?_ | refine Hp.drewN ?_ _ | refine Below.setCell ?_ (by first | (simp; done) | (simp; omega) | omega) _ | refine Below.alloc ?_ (by first | (simp; done) | (simp; omega) | omega) _ | (refine Hp.step ?_ (by assumption))))))
end Go.Proofs.Ytdaedhgbkamjpaa.JxW
