/- Regions that draw their order, whose operations read and whose calls leave all that lay there: one walk in the text's order serves every order. -/
import Derived.Test.YtnfncnpnkmjjeaaDoorBase
import Derived.BigQuiet
namespace Go.Proofs.YtnfncnpnkmjjeaaDoor
set_option linter.unusedVariables false
set_option linter.unusedSimpArgs false
open Go.RowKit

/-- a world in which nothing of w has turned. -/
structure On (w : World) where
  W : World
  below : Below w.heap.size w W
instance onNonempty (w : World) : Nonempty (On w) := ⟨⟨w, Below.refl _ _⟩⟩
theorem On.cell {w : World} {p : Addr} {v : Value} (h : w.cell? p = some v) (hp : p.block < w.heap.size) (x : On w) : x.W.cell? p = some v := (x.below.cell hp).trans h
section
variable {P : Program} {w : World}
theorem wp_region_on {id : Nat} {Q : Exit → Act → World → Prop} {a : Act} {l : List Oper} (hm : P.follows .mixedOrders = true) (hB : Region.lexB .any l.toArray = true)
    (h : wpQuiet P l.toArray (fun w' => ∃ x : On w, w' = x.W) (fun a' => ∀ w', (∃ x : On w, w' = x.W) → Q .normal a' w') l a) : (Code.region id l.toArray true).wp P Q a w :=
  wp_region_quiet (C := fun w' => ∃ x : On w, w' = x.W) hm hB ⟨⟨_, (Below.refl _ _).drew⟩, rfl⟩ (by simpa using h)
theorem On.calls {x : On w} {f : FuncId} {args : Array Value} {v : Value} (h : Calls P f args x.W fun e w' => e = .returned v ∧ Below x.W.heap.size x.W w') : Calls P f args x.W fun e w' => e = .returned v ∧ ∃ y : On w, w' = y.W :=
  h.mono fun _ w' ⟨he, hb⟩ => ⟨he, ⟨w', bt x.below hb⟩, rfl⟩
theorem On.same {x : On w} {f : FuncId} {args : Array Value} {v : Value} (h : Calls P f args x.W fun e w' => e = .returned v ∧ x.W = w') : Calls P f args x.W fun e w' => e = .returned v ∧ ∃ y : On w, w' = y.W :=
  h.mono fun _ w' ⟨he, hb⟩ => ⟨he, x, hb.symm⟩
end
end Go.Proofs.YtnfncnpnkmjjeaaDoor
