/- What is known at a world and stays known where nothing that lay there has turned. -/
import Derived.Test.YtnfncnpnkmjjeaaDoorOwn
import Derived.Test.YtnfncnpnkmjjeaaDoorNamesI
namespace Go.Proofs.YtnfncnpnkmjjeaaDoor
set_option linter.unusedVariables false
set_option linter.unusedSimpArgs false
open Go.RowKit

/-- P holds at w, and wherever nothing that lies in w has turned. -/
def Live (w : World) (P : World → Prop) : Prop := ∀ W, Below w.heap.size w W → P W
section
variable {w w' : World} {P Q : World → Prop}
theorem Live.now (h : Live w P) : P w := h w (Below.refl _ _)
theorem Live.next (h : Live w P) (hb : Below w.heap.size w w') : Live w' P := fun W hW => h W (bt hb hW)
theorem Live.and (h : Live w P) (k : Live w Q) : Live w fun W => P W ∧ Q W := fun W hW => ⟨h W hW, k W hW⟩
theorem Live.imp (h : Live w P) (k : ∀ W, P W → Q W) : Live w Q := fun W hW => k W (h W hW)
theorem Live.since {w0 : World} (h : Below w0.heap.size w0 w) : Live w fun W => Below w0.heap.size w0 W := fun _ hW => bt h hW
theorem Live.row {α : Type} {f : α → List Value} {size n : Nat} {A : Option Addr} {l : List α} (h : Row f size w w.heap.size A n l) : Live w fun W => Row f size W W.heap.size A n l := fun _ hW => h.next hW
theorem Live.blk {g : Nat} {t : TypeId} {cs : Array Value} (h : Blk w g t cs) : Live w fun W => Blk W g t cs := fun _ hW => h.next hW
theorem Live.ge (h : GE w) : Live w GE := fun _ hW => h.below hW
theorem Live.strs {A : Option Addr} {n : Nat} {ms : List ByteArray} (h : Strs w w.heap.size A n ms) : Live w fun W => Strs W W.heap.size A n ms := fun _ hW => h.next hW
end
end Go.Proofs.YtnfncnpnkmjjeaaDoor
