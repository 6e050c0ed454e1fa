/- Drawn events. -/
import Derived.Test.YtnfncnpnkmjjeaaDoorDrawN
import Derived.Test.YtnfncnpnkmjjeaaDoorStreams
namespace Go.Proofs.YtnfncnpnkmjjeaaDoor
set_option linter.unusedVariables false
set_option linter.unusedSimpArgs false
open Go.RowKit

def EvB (e : Ev) : Prop := e.kind.size ≤ 60 ∧ -100000 ≤ e.id ∧ e.id ≤ 100000 ∧ -100000 ≤ e.data ∧ e.data ≤ 100000
def EnB (x : En) : Prop := x.name.size ≤ 60 ∧ EvB x.ev
/-- a drawn event. -/
def EvPost (r M : Nat) (w : World) (e : Ending) (w' : World) : Prop :=
  ∃ (id : Int) (kind : ByteArray) (data : Int), e = .returned (.agg #[.int .i64 id, .string kind, .int .i64 data]) ∧ EvB ⟨id, kind, data⟩ ∧ w.grownBy w' (some r) ∧ Rd w' r M
def intsOk (cs : Array Value) : Bool := cs.all fun | .int .i64 v => decide (-100000 ≤ v) && decide (v ≤ 100000) | _ => false
theorem ints_lit {cs : Array Value} (hok : intsOk cs = true) {z : Nat} (hz : z < cs.size) : ∃ v : Int, cs[z]? = some (.int .i64 v) ∧ -100000 ≤ v ∧ v ≤ 100000 := by
  have h := (Array.all_eq_true.1 hok) z hz
  rw [Array.getElem?_eq_getElem hz]
  split at h
  · rename_i v e
    rw [Bool.and_eq_true, decide_eq_true_eq, decide_eq_true_eq] at h
    exact ⟨v, by rw [e], h.1, h.2⟩
  · cases h
theorem blk_grew {w w' : World} {r g : Nat} {t : TypeId} {cs : Array Value} (h : Blk w g t cs) (hg : w.grownBy w' (some r)) (hne : g ≠ r) : Blk w' g t cs := h.grown hg (fun e => hne (Option.some.inj e))
/-- a place in a list of numbers that was just laid. -/
theorem lit_ints {w w' : World} {r : Nat} {t : TypeId} {cs : Array Value} (hg : (w.alloc (.cells cs t)).grownBy w' (some r)) (hr : r < w.heap.size) (hok : intsOk cs = true) {z : Nat} (hz : z < cs.size) :
    ∃ v : Int, w'.cell? ⟨w.heap.size, z, none⟩ = some (.int .i64 v) ∧ -100000 ≤ v ∧ v ≤ 100000 := by
  obtain ⟨v, h1, h2⟩ := ints_lit hok hz
  exact ⟨v, ((blk_grew (Blk.new w t cs) hg (by omega)).cell z).trans h1, h2⟩

def evZ : Array Value := #[.int .i64 0, .string ⟨#[]⟩, .int .i64 0]
end Go.Proofs.YtnfncnpnkmjjeaaDoor
