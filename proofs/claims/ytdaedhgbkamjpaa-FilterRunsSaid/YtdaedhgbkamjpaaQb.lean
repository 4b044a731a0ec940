/- Regions that draw their order, whose operations read and whose calls may make memory: one walk in the order of the text (Derived.Deep.Quiet's theorem at the class of worlds that are as they were below the heap's size). -/
import Derived.Test.YtdaedhgbkamjpaaHp
import Derived.BigQuiet
set_option linter.unusedVariables false
set_option linter.unusedSimpArgs false
namespace Go.Proofs.Ytdaedhgbkamjpaa.Qb
open Go.RowKit

/-- a world that is as w below w's size -/
def Later (w : World) := { w' : World // Below w.heap.size w w' }
instance {w : World} : Nonempty (Later w) := ⟨⟨w, Below.refl _ _⟩⟩
theorem region {P : Program} {id : Nat} {Q : Exit → Act → World → Prop} {a : Act} {w : World} {l : List Oper} (hm : P.follows .mixedOrders = true) (hB : Region.lexB .any l.toArray = true)
    (h : wpQuiet P l.toArray (fun w' => ∃ x : Later w, w' = x.1) (fun a' => ∀ w', (∃ x : Later w, w' = x.1) → Q .normal a' w') l a) : (Code.region id l.toArray true).wp P Q a w :=
  wp_region_quiet (C := fun w' => ∃ x : Later w, w' = x.1) hm hB ⟨⟨_, (Below.refl _ _).drew⟩, rfl⟩ (by simpa using h)
theorem cell {w : World} {b o : Nat} {v : Value} (h : w.cell? ⟨b, o, none⟩ = some v) (hb : b < w.heap.size) (x : Later w) : x.1.cell? ⟨b, o, none⟩ = some v := (x.2.cell (p := ⟨b, o, none⟩) hb).trans h
theorem call {P : Program} {w : World} {x : Later w} {f : FuncId} {args : Array Value} {v : Value}
    (h : Calls P f args x.1 fun e w' => e = .returned v ∧ Below x.1.heap.size x.1 w') : Calls P f args x.1 fun e w'' => e = .returned v ∧ ∃ y : Later w, w'' = y.1 :=
  h.mono fun _ w' ⟨he, hb⟩ => ⟨he, ⟨w', x.2.trans (hb.mono x.2.size)⟩, rfl⟩
theorem callQ {P : Program} {w : World} {x : Later w} {f : FuncId} {args : Array Value} {v : Value}
    (h : Calls P f args x.1 fun e w' => e = .returned v ∧ ∃ n, w' = x.1.drewN n) : Calls P f args x.1 fun e w'' => e = .returned v ∧ ∃ y : Later w, w'' = y.1 :=
  h.mono fun _ w' ⟨he, n, hn⟩ => ⟨he, ⟨w', by rw [hn]; exact Hp.drewN x.2 n⟩, rfl⟩
theorem callS {P : Program} {w : World} {x : Later w} {f : FuncId} {args : Array Value} {v : Value}
    (h : Calls P f args x.1 fun e w' => e = .returned v ∧ x.1 = w') : Calls P f args x.1 fun e w'' => e = .returned v ∧ ∃ y : Later w, w'' = y.1 :=
  h.mono fun _ w' ⟨he, hn⟩ => ⟨he, ⟨w', by rw [← hn]; exact x.2⟩, rfl⟩
theorem same {P : Program} {w : World} {n : Nat} {f : FuncId} {args : Array Value} {v : Value}
    (h : Calls P f args (w.drewN n) fun e w' => e = .returned v ∧ w.drewN n = w') : Calls P f args (w.drewN n) fun e w'' => e = .returned v ∧ ∃ m, w'' = w.drewN m :=
  h.mono fun _ w' ⟨he, hn⟩ => ⟨he, n, hn.symm⟩
theorem sameA {P : Program} {w : World} {a n : Nat} {f : FuncId} {args : Array Value} {v : Value}
    (h : Calls P f args (w.drewN (a + n)) fun e w' => e = .returned v ∧ w.drewN (a + n) = w') : Calls P f args (w.drewN (a + n)) fun e w'' => e = .returned v ∧ ∃ m, w'' = w.drewN (a + m) :=
  h.mono fun _ w' ⟨he, hn⟩ => ⟨he, n, hn.symm⟩
theorem drawA {P : Program} {w : World} {a n : Nat} {f : FuncId} {args : Array Value} {v : Value}
    (h : Calls P f args (w.drewN (a + n)) fun e w' => e = .returned v ∧ ∃ q, w' = (w.drewN (a + n)).drewN q) : Calls P f args (w.drewN (a + n)) fun e w'' => e = .returned v ∧ ∃ m, w'' = w.drewN (a + m) :=
  h.mono fun _ w' ⟨he, q, hn⟩ => ⟨he, n + q, by rw [hn, World.drewN_drewN, Nat.add_assoc]⟩
theorem draw {P : Program} {w : World} {n : Nat} {f : FuncId} {args : Array Value} {v : Value}
    (h : Calls P f args (w.drewN n) fun e w' => e = .returned v ∧ ∃ q, w' = (w.drewN n).drewN q) : Calls P f args (w.drewN n) fun e w'' => e = .returned v ∧ ∃ m, w'' = w.drewN m :=
  h.mono fun _ w' ⟨he, q, hn⟩ => ⟨he, n + q, by rw [hn, World.drewN_drewN]⟩
end Go.Proofs.Ytdaedhgbkamjpaa.Qb
