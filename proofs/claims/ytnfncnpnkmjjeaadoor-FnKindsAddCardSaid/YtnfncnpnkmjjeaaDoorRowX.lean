/- The first elements of a row. -/
import Derived.Test.YtnfncnpnkmjjeaaDoorOwn
namespace Go.Proofs.YtnfncnpnkmjjeaaDoor
set_option linter.unusedVariables false
set_option linter.unusedSimpArgs false
open Go.RowKit

theorem Row.first {α : Type} {f : α → List Value} {size : Nat} {w : World} {B n : Nat} {A : Option Addr} {l : List α} (hf : ∀ x, (f x).length = size) (h : Row f size w B A n l) (hi : Nat) (h2 : hi ≤ n) : Row f size w B A hi (l.take hi) := by
  have hm : hi * size ≤ n * size := Nat.mul_le_mul_right _ h2
  refine ⟨by rw [List.length_take, h.1]; omega, ?_⟩
  rw [flat_take hf]
  refine ⟨by rw [List.length_take, h.2.1]; omega, fun hp => ?_⟩
  obtain ⟨b, off, e, hb, hx⟩ := h.2.2 (by omega)
  refine ⟨b, off, e, hb, fun j hj => ?_⟩
  rw [List.length_take] at hj
  rw [hx j (by omega), List.getElem_take]
theorem own_slice2 {w : World} {base size n m : Nat} {e : TypeId} {A : Option Addr} {c : Nat} {xs : List Value} (h : w.ownsRow base e size (.slice A m c) n xs) : m = n := by
  rcases h.2 with ⟨h4, h5⟩ | ⟨g, cap, cur, h4, _⟩
  · injection h4 with _ a _; omega
  · injection h4
end Go.Proofs.YtnfncnpnkmjjeaaDoor
