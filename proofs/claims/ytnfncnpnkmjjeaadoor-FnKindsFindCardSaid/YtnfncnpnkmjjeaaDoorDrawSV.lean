/- Drawn stores, handed to the statements. -/
import Derived.Test.YtnfncnpnkmjjeaaDoorDrawSt
namespace Go.Proofs.YtnfncnpnkmjjeaaDoor
set_option linter.unusedVariables false
set_option linter.unusedSimpArgs false
open Go.RowKit

def EnsDrawn (w : World) (e : Ending) (w' : World) : Prop :=
  ∃ (A : Option Addr) (n c : Nat) (xs : List En), e = .returned (.slice A n c) ∧ Row enCells 4 w' w'.heap.size A n xs ∧ Hid (∀ x ∈ xs, EnB x) ∧ n ≤ 30 ∧ n ≤ c ∧ Hid (A = none → c = 0) ∧ Below w.heap.size w w'
theorem ens_drawn {w w' : World} {v : Value} {base n : Nat} {xs : List En} (hl : xs.length = n) (h : w'.ownsRow base 44 4 v n (xs.flatMap enCells)) (hb : Hid (∀ x ∈ xs, EnB x)) (hn : n ≤ 30) (hbb : Below w.heap.size w w') : EnsDrawn w (.returned v) w' := by
  obtain ⟨A, c, rfl, h1, h2, h3, _⟩ := Row.of_own h hl
  exact ⟨A, n, c, xs, rfl, h3, hb, hn, h1, Lib.hid h2, hbb⟩

end Go.Proofs.YtnfncnpnkmjjeaaDoor
