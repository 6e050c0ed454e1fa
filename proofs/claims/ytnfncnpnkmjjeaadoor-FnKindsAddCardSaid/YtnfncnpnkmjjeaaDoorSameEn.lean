/- The laws' comparisons of entries and of events. -/
import Derived.Test.YtnfncnpnkmjjeaaDoorPiece
import Derived.Laws.StructEq
namespace Go.Proofs.YtnfncnpnkmjjeaaDoor
set_option linter.unusedVariables false
set_option linter.unusedSimpArgs false
open Go.RowKit

def sameL {α : Type} [DecidableEq α] (a b : List α) : Bool := decide (a = b)
theorem sameL_len {α : Type} [DecidableEq α] {a b : List α} (h : a.length ≠ b.length) : sameL a b = false := decide_eq_false (fun e => h (by rw [e]))
theorem sameL_at {α : Type} [DecidableEq α] {a b : List α} (k : Nat) (h : a[k]? ≠ b[k]?) : sameL a b = false := decide_eq_false (fun e => h (by rw [e]))
theorem sameL_yes {α : Type} [DecidableEq α] {a b : List α} (h : a.length = b.length) (h2 : ∀ k, k < a.length → a[k]? = b[k]?) : sameL a b = true := by
  refine decide_eq_true (List.ext_getElem? fun k => ?_)
  by_cases hk : k < a.length
  · exact h2 k hk
  · rw [List.getElem?_eq_none (by omega), List.getElem?_eq_none (by omega)]
theorem sameL_refl {α : Type} [DecidableEq α] (a : List α) : sameL a a = true := decide_eq_true rfl
theorem sameL_eq {α : Type} [DecidableEq α] {a b : List α} (h : sameL a b = true) : a = b := of_decide_eq_true h
/-- how an entry's cells stand for the walk: at whatever address. -/
def EnAt (w : World) (b o : Nat) (x : En) : Prop := w.cell? ⟨b, o, none⟩ = some (.string x.name) ∧ w.cell? ⟨b, o + 1, none⟩ = some (.int .i64 x.ev.id) ∧ w.cell? ⟨b, o + 2, none⟩ = some (.string x.ev.kind) ∧ w.cell? ⟨b, o + 3, none⟩ = some (.int .i64 x.ev.data)
def EvAt (w : World) (b o : Nat) (x : Ev) : Prop := w.cell? ⟨b, o, none⟩ = some (.int .i64 x.id) ∧ w.cell? ⟨b, o + 1, none⟩ = some (.string x.kind) ∧ w.cell? ⟨b, o + 2, none⟩ = some (.int .i64 x.data)
theorem Row.en_at {w : World} {B n : Nat} {A : Option Addr} {xs : List En} (h : Row enCells 4 w B A n xs) (hn : 0 < n) : ∃ b off, A = some ⟨b, off, none⟩ ∧ b < B ∧ ∀ k x, xs[k]? = some x → EnAt w b (off + k * 4) x := by
  obtain ⟨b, off, e, hb, hx⟩ := h.at_ enCells_len hn
  exact ⟨b, off, e, hb, fun k x hk => ⟨hx k x hk 0 _ rfl, hx k x hk 1 _ rfl, hx k x hk 2 _ rfl, hx k x hk 3 _ rfl⟩⟩
theorem Row.ev_at {w : World} {B n : Nat} {A : Option Addr} {xs : List Ev} (h : Row evCells 3 w B A n xs) (hn : 0 < n) : ∃ b off, A = some ⟨b, off, none⟩ ∧ b < B ∧ ∀ k x, xs[k]? = some x → EvAt w b (off + k * 3) x := by
  obtain ⟨b, off, e, hb, hx⟩ := h.at_ evCells_len hn
  exact ⟨b, off, e, hb, fun k x hk => ⟨hx k x hk 0 _ rfl, hx k x hk 1 _ rfl, hx k x hk 2 _ rfl⟩⟩
theorem EnAt.below {w w' : World} {B b o : Nat} {x : En} (h : EnAt w b o x) (hb : Below B w w') (hlt : b < B) : EnAt w' b o x :=
  ⟨(hb.cell (p := ⟨b, o, none⟩) hlt).trans h.1, (hb.cell (p := ⟨b, o + 1, none⟩) hlt).trans h.2.1, (hb.cell (p := ⟨b, o + 2, none⟩) hlt).trans h.2.2.1, (hb.cell (p := ⟨b, o + 3, none⟩) hlt).trans h.2.2.2⟩
theorem EvAt.below {w w' : World} {B b o : Nat} {x : Ev} (h : EvAt w b o x) (hb : Below B w w') (hlt : b < B) : EvAt w' b o x :=
  ⟨(hb.cell (p := ⟨b, o, none⟩) hlt).trans h.1, (hb.cell (p := ⟨b, o + 1, none⟩) hlt).trans h.2.1, (hb.cell (p := ⟨b, o + 2, none⟩) hlt).trans h.2.2⟩

end Go.Proofs.YtnfncnpnkmjjeaaDoor
