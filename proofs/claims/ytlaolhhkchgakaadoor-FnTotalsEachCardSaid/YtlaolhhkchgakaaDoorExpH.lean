/- Expected versions: which are valid, which hold: the program's and the reference's. -/
import Derived.Test.YtlaolhhkchgakaaDoorNamesT
import Derived.Test.YtlaolhhkchgakaaDoorProg
namespace Go.Proofs.YtlaolhhkchgakaaDoor
set_option linter.unusedVariables false
set_option linter.unusedSimpArgs false
open Go.RowKit

/-! ### what the type switches find -/
def expOk (n : Int) : Bool := decide (-2 ≤ n ∧ n ≤ 23)
theorem expOk_yes {n : Int} (h : -2 ≤ n) (h' : n ≤ 23) : true = expOk n := by unfold expOk; rw [decide_eq_true ⟨h, h'⟩]
theorem expOk_no {n : Int} (h : n < -2 ∨ 23 < n) : false = expOk n := by unfold expOk; rw [decide_eq_false (by omega)]
theorem expOk_iff {n : Int} : expOk n = true ↔ -2 ≤ n ∧ n ≤ 23 := by unfold expOk; rw [decide_eq_true_eq]

/-- a version is the expected one. -/
def expHolds (x v : Int) : Bool := expOk x && decide (-1 ≤ v ∧ v ≤ 23) && (decide (x = -2) || decide (x = v))
theorem expHolds_v {x v : Int} (h : ¬ (-1 ≤ v ∧ v ≤ 23)) : expHolds x v = false := by unfold expHolds; rw [decide_eq_false h]; simp
theorem expHolds_x {x v : Int} (h : expOk x = false) : expHolds x v = false := by unfold expHolds; rw [h]; rfl
theorem expHolds_any {v : Int} (h : -1 ≤ v ∧ v ≤ 23) : expHolds (-2) v = true := by unfold expHolds; rw [decide_eq_true h, ← expOk_yes (by omega) (by omega)]; rfl
theorem expHolds_eq {x v : Int} (h0 : x ≠ -2) (h1 : expOk x = true) (h : -1 ≤ v ∧ v ≤ 23) : expHolds x v = decide (x = v) := by unfold expHolds; rw [decide_eq_true h, h1, decide_eq_false h0]; simp

end Go.Proofs.YtlaolhhkchgakaaDoor
