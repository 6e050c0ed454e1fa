/- Drawn stores with a name that is often there. -/
import Derived.Test.YtnfncnpnkmjjeaaDoorDrawSV
import Derived.Test.YtnfncnpnkmjjeaaDoorSVal
namespace Go.Proofs.YtnfncnpnkmjjeaaDoor
set_option linter.unusedVariables false
set_option linter.unusedSimpArgs false
open Go.RowKit

theorem EnB.small {xs : List En} (h : ∀ x ∈ xs, EnB x) : SmallEns xs := fun x hx => ⟨small60 (h x hx).1, small60 (h x hx).2.1⟩
theorem stream_B {xs : List En} {s : ByteArray} (h : ∀ x ∈ xs, EnB x) : ∀ e ∈ streamOf xs s, EvB e := fun _ he => (h _ (streamOf_mem.1 he)).2
/-- a drawn store and a name. -/
def InPost (r M : Nat) (w : World) (e : Ending) (w' : World) : Prop :=
  ∃ (v : Value) (n : Nat) (xs : List En) (s : ByteArray), e = .returned (.tuple #[v, .string s]) ∧ xs.length = n ∧ w'.ownsRow w.heap.size 44 4 v n (xs.flatMap enCells) ∧ Hid (∀ x ∈ xs, EnB x) ∧ n ≤ 30 ∧ s.size ≤ 60 ∧ w.grownBy w' (some r) ∧ Rd w' r M

theorem own_slice_n {w : World} {base size n : Nat} {e : TypeId} {v : Value} {xs : List Value} (h : w.ownsRow base e size v n xs) : ∃ A c, v = .slice A n c := by
  rcases h.2 with ⟨rfl, rfl⟩ | ⟨g, cap, cur, rfl, _⟩ <;> exact ⟨_, _, rfl⟩
theorem name_cell {w : World} {base k g cap : Nat} {xs : List En} (hl : xs.length = k) (HB : ∀ x ∈ xs, EnB x) (h : w.ownsRow base 44 4 (.slice (some ⟨g, 0, none⟩) k cap) k (xs.flatMap enCells)) {y : Nat} (hy : y < k) :
    ∃ s, Hid (s.size ≤ 60) ∧ w.cell? ⟨g, y * 4, none⟩ = some (.string s) := by
  have hxk : xs[y]? = some (nx xs y) := nx_get (by rw [hl]; omega)
  exact ⟨(nx xs y).name, Lib.hid (HB _ (nx_mem (by rw [hl]; omega))).1, (h.cellAt (y * 4 + 0) (by omega)).trans (flat_get enCells_len xs y 0 _ hxk (by omega))⟩
/-- a drawn store and a name, handed to a statement. -/
def EnsName (w : World) (e : Ending) (w' : World) : Prop :=
  ∃ (A : Option Addr) (n c : Nat) (xs : List En) (s : ByteArray), e = .returned (.tuple #[.slice A n c, .string s]) ∧ Row enCells 4 w' w'.heap.size A n xs ∧ Hid (∀ x ∈ xs, EnB x) ∧ n ≤ 30 ∧ n ≤ c ∧ Hid (A = none → c = 0) ∧ s.size ≤ 60 ∧ Below w.heap.size w w'
end Go.Proofs.YtnfncnpnkmjjeaaDoor
