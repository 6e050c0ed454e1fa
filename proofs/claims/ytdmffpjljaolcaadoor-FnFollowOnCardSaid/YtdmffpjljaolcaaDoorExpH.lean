/- Expected versions: which are valid, which hold: the program's and the reference's. -/
import Derived.Test.YtdmffpjljaolcaaDoorNamesT
import Derived.Test.YtdmffpjljaolcaaDoorProg
namespace Go.Proofs.YtdmffpjljaolcaaDoor
set_option linter.unusedVariables false
set_option linter.unusedSimpArgs false
open Go.RowKit

/-! ### what the type switches find -/
theorem as_aa (w : World) : (Instr.typeAssert (.iface 128 (.agg #[])) 114 128 true).run Tryd.prog w = .ok (.tuple #[.agg #[], .bool true]) w := by kernel_rfl
theorem as_na (w : World) : (Instr.typeAssert (.iface 129 (.agg #[])) 114 128 true).run Tryd.prog w = .ok (.tuple #[.agg #[], .bool false]) w := by kernel_rfl
theorem as_nn (w : World) : (Instr.typeAssert (.iface 129 (.agg #[])) 114 129 true).run Tryd.prog w = .ok (.tuple #[.agg #[], .bool true]) w := by kernel_rfl
theorem as_la (n : Int) (w : World) : (Instr.typeAssert (.iface 130 (.int .i64 n)) 114 128 true).run Tryd.prog w = .ok (.tuple #[.agg #[], .bool false]) w := by kernel_rfl
theorem as_ln (n : Int) (w : World) : (Instr.typeAssert (.iface 130 (.int .i64 n)) 114 129 true).run Tryd.prog w = .ok (.tuple #[.agg #[], .bool false]) w := by kernel_rfl
theorem as_ll (n : Int) (w : World) : (Instr.typeAssert (.iface 130 (.int .i64 n)) 114 130 true).run Tryd.prog w = .ok (.tuple #[.int .i64 n, .bool true]) w := by kernel_rfl
theorem as_nl (w : World) : (Instr.typeAssert (.iface 129 (.agg #[])) 114 130 true).run Tryd.prog w = .ok (.tuple #[.int .i64 0, .bool false]) w := by kernel_rfl
theorem as_0a (w : World) : (Instr.typeAssert .nilIface 114 128 true).run Tryd.prog w = .ok (.tuple #[.agg #[], .bool false]) w := by kernel_rfl
theorem as_0n (w : World) : (Instr.typeAssert .nilIface 114 129 true).run Tryd.prog w = .ok (.tuple #[.agg #[], .bool false]) w := by kernel_rfl
theorem as_0l (w : World) : (Instr.typeAssert .nilIface 114 130 true).run Tryd.prog w = .ok (.tuple #[.int .i64 0, .bool false]) w := by kernel_rfl

def expOk (n : Int) : Bool := decide (-2 ≤ n ∧ n ≤ 23)
theorem expOk_yes {n : Int} (h : -2 ≤ n) (h' : n ≤ 23) : true = expOk n := by unfold expOk; rw [decide_eq_true ⟨h, h'⟩]
theorem expOk_no {n : Int} (h : n < -2 ∨ 23 < n) : false = expOk n := by unfold expOk; rw [decide_eq_false (by omega)]
theorem expOk_iff {n : Int} : expOk n = true ↔ -2 ≤ n ∧ n ≤ 23 := by unfold expOk; rw [decide_eq_true_eq]

set_option maxHeartbeats 1000000 in
theorem expectValid_any (n : Int) (w : World) :
    Calls Tryd.prog 85 #[.int .i64 n] w fun e w' => e = .returned (.bool (expOk n)) ∧ w = w' := by
  by_cases h2 : n = -2
  · subst h2
    go_enter Tryd.func85, Tryd.ntmps85
    go_wp2_with (first | go_in)
    go_ret
    exact ⟨rfl, rfl⟩
  by_cases h3 : n = -1
  · subst h3
    clear h2
    go_enter Tryd.func85, Tryd.ntmps85
    go_wp2_with (first | go_in)
    go_ret
    exact ⟨rfl, rfl⟩
  have b2 : (n == -2) = false := beq_eq_false_iff_ne.2 h2
  have b3 : (n == -1) = false := beq_eq_false_iff_ne.2 h3
  by_cases h5 : n < 0
  · have Hv := Lib.hid (expOk_no (n := n) (by omega))
    clear h2 h3
    go_enter Tryd.func85, Tryd.ntmps85
    go_wp2_with (first | go_in)
    go_ret
    exact ⟨ret_bool Hv.out, rfl⟩
  by_cases h6 : n ≤ 23
  · have Hv := Lib.hid (expOk_yes (n := n) (by omega) (by omega))
    clear h2 h3
    go_enter Tryd.func85, Tryd.ntmps85
    go_wp2_with (first | go_in)
    go_ret
    exact ⟨ret_bool Hv.out, rfl⟩
  · have Hv := Lib.hid (expOk_no (n := n) (by omega))
    clear h2 h3
    go_enter Tryd.func85, Tryd.ntmps85
    go_wp2_with (first | go_in)
    go_ret
    exact ⟨ret_bool Hv.out, rfl⟩
theorem expectValidS_any (n : Int) (w : World) :
    Calls Tryd.prog 68 #[.int .i64 n] w fun e w' => e = .returned (.bool (expOk n)) ∧ w = w' := by
  have Hv := Lib.hid (show (decide (-2 ≤ n) && decide (n ≤ 23)) = expOk n by unfold expOk; rw [Bool.eq_iff_iff]; simp)
  go_enter Tryd.func68, Tryd.ntmps68
  go_wp2_with (go_at_call 62; refine (l6In_any _ _ _ _).mono ?_; rintro e w' ⟨rfl, rfl⟩)
  go_ret
  exact ⟨ret_bool Hv.out, rfl⟩

/-- a version is the expected one. -/
def expHolds (x v : Int) : Bool := expOk x && decide (-1 ≤ v ∧ v ≤ 23) && (decide (x = -2) || decide (x = v))
theorem expHolds_v {x v : Int} (h : ¬ (-1 ≤ v ∧ v ≤ 23)) : expHolds x v = false := by unfold expHolds; rw [decide_eq_false h]; simp
theorem expHolds_x {x v : Int} (h : expOk x = false) : expHolds x v = false := by unfold expHolds; rw [h]; rfl
theorem expHolds_any {v : Int} (h : -1 ≤ v ∧ v ≤ 23) : expHolds (-2) v = true := by unfold expHolds; rw [decide_eq_true h, ← expOk_yes (by omega) (by omega)]; rfl
theorem expHolds_eq {x v : Int} (h0 : x ≠ -2) (h1 : expOk x = true) (h : -1 ≤ v ∧ v ≤ 23) : expHolds x v = decide (x = v) := by unfold expHolds; rw [decide_eq_true h, h1, decide_eq_false h0]; simp

/-- what an expected version stands for. -/
def expV (n : Int) : Value := if n = -2 then .iface 128 (.agg #[]) else if n = -1 then .iface 129 (.agg #[]) else if 0 ≤ n ∧ n ≤ 23 then .iface 130 (.int .i64 n) else .nilIface
set_option maxHeartbeats 1000000 in
theorem expectationOf_any (n : Int) (w : World) :
    Calls Tryd.prog 95 #[.int .i64 n] w fun e w' => e = .returned (expV n) ∧ w = w' := by
  by_cases h2 : n = -2
  · subst h2
    go_enter Tryd.func95, Tryd.ntmps95
    go_wp2_with fail
    go_ret
    exact ⟨rfl, rfl⟩
  by_cases h3 : n = -1
  · subst h3
    clear h2
    go_enter Tryd.func95, Tryd.ntmps95
    go_wp2_with fail
    go_ret
    exact ⟨rfl, rfl⟩
  have b2 : (n == -2) = false := beq_eq_false_iff_ne.2 h2
  have b3 : (n == -1) = false := beq_eq_false_iff_ne.2 h3
  by_cases h5 : n < 0
  · have Hv := Lib.hid (show expV n = .nilIface by unfold expV; rw [if_neg h2, if_neg h3, if_neg (by omega)])
    clear h2 h3
    go_enter Tryd.func95, Tryd.ntmps95
    go_wp2_with fail
    go_ret
    exact ⟨by rw [Hv.out]; rfl, rfl⟩
  by_cases h6 : n ≤ 23
  · have Hv := Lib.hid (show expV n = .iface 130 (.int .i64 n) by unfold expV; rw [if_neg h2, if_neg h3, if_pos (by omega)])
    clear h2 h3
    go_enter Tryd.func95, Tryd.ntmps95
    go_wp2_with fail
    go_ret
    exact ⟨by rw [Hv.out]; rfl, rfl⟩
  · have Hv := Lib.hid (show expV n = .nilIface by unfold expV; rw [if_neg h2, if_neg h3, if_neg (by omega)])
    clear h2 h3
    go_enter Tryd.func95, Tryd.ntmps95
    go_wp2_with fail
    go_ret
    exact ⟨by rw [Hv.out]; rfl, rfl⟩
theorem isMethodNone (w : World) : (method 274 129 (.agg #[]) "loop.example/streambarrier/impl.number").run Tryd.prog w = .ok (133, .agg #[]) w := by kernel_rfl
theorem isMethodLast (n : Int) (w : World) : (method 274 130 (.int .i64 n) "loop.example/streambarrier/impl.number").run Tryd.prog w = .ok (134, .int .i64 n) w := by kernel_rfl
end Go.Proofs.YtdmffpjljaolcaaDoor
