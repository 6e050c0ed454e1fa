/- Expected versions: which are valid, which hold: the program's and the reference's. -/
import Derived.Test.YtihgdebfjoooeaaDoorNamesT
import Derived.Test.YtihgdebfjoooeaaDoorProg
namespace Go.Proofs.YtihgdebfjoooeaaDoor
set_option linter.unusedVariables false
set_option linter.unusedSimpArgs false
open Go.RowKit

/-! ### what the type switches find -/
theorem as_aa (w : World) : (Instr.typeAssert (.iface 108 (.agg #[])) 94 108 true).run Tryd.prog w = .ok (.tuple #[.agg #[], .bool true]) w := by kernel_rfl
theorem as_na (w : World) : (Instr.typeAssert (.iface 109 (.agg #[])) 94 108 true).run Tryd.prog w = .ok (.tuple #[.agg #[], .bool false]) w := by kernel_rfl
theorem as_nn (w : World) : (Instr.typeAssert (.iface 109 (.agg #[])) 94 109 true).run Tryd.prog w = .ok (.tuple #[.agg #[], .bool true]) w := by kernel_rfl
theorem as_la (n : Int) (w : World) : (Instr.typeAssert (.iface 110 (.int .i64 n)) 94 108 true).run Tryd.prog w = .ok (.tuple #[.agg #[], .bool false]) w := by kernel_rfl
theorem as_ln (n : Int) (w : World) : (Instr.typeAssert (.iface 110 (.int .i64 n)) 94 109 true).run Tryd.prog w = .ok (.tuple #[.agg #[], .bool false]) w := by kernel_rfl
theorem as_ll (n : Int) (w : World) : (Instr.typeAssert (.iface 110 (.int .i64 n)) 94 110 true).run Tryd.prog w = .ok (.tuple #[.int .i64 n, .bool true]) w := by kernel_rfl
theorem as_nl (w : World) : (Instr.typeAssert (.iface 109 (.agg #[])) 94 110 true).run Tryd.prog w = .ok (.tuple #[.int .i64 0, .bool false]) w := by kernel_rfl
theorem as_0a (w : World) : (Instr.typeAssert .nilIface 94 108 true).run Tryd.prog w = .ok (.tuple #[.agg #[], .bool false]) w := by kernel_rfl
theorem as_0n (w : World) : (Instr.typeAssert .nilIface 94 109 true).run Tryd.prog w = .ok (.tuple #[.agg #[], .bool false]) w := by kernel_rfl
theorem as_0l (w : World) : (Instr.typeAssert .nilIface 94 110 true).run Tryd.prog w = .ok (.tuple #[.int .i64 0, .bool false]) w := by kernel_rfl

def expOk (n : Int) : Bool := decide (-2 ≤ n ∧ n ≤ 23)
theorem expOk_yes {n : Int} (h : -2 ≤ n) (h' : n ≤ 23) : true = expOk n := by unfold expOk; rw [decide_eq_true ⟨h, h'⟩]
theorem expOk_no {n : Int} (h : n < -2 ∨ 23 < n) : false = expOk n := by unfold expOk; rw [decide_eq_false (by omega)]
theorem expOk_iff {n : Int} : expOk n = true ↔ -2 ≤ n ∧ n ≤ 23 := by unfold expOk; rw [decide_eq_true_eq]

set_option maxHeartbeats 1000000 in
theorem expectValid_any (n : Int) (w : World) :
    Calls Tryd.prog 76 #[.int .i64 n] w fun e w' => e = .returned (.bool (expOk n)) ∧ w = w' := by
  by_cases h2 : n = -2
  · subst h2
    go_enter Tryd.func76, Tryd.ntmps76
    go_wp2_with (first | go_in)
    go_ret
    exact ⟨rfl, rfl⟩
  by_cases h3 : n = -1
  · subst h3
    clear h2
    go_enter Tryd.func76, Tryd.ntmps76
    go_wp2_with (first | go_in)
    go_ret
    exact ⟨rfl, rfl⟩
  have b2 : (n == -2) = false := beq_eq_false_iff_ne.2 h2
  have b3 : (n == -1) = false := beq_eq_false_iff_ne.2 h3
  by_cases h5 : n < 0
  · have Hv := Lib.hid (expOk_no (n := n) (by omega))
    clear h2 h3
    go_enter Tryd.func76, Tryd.ntmps76
    go_wp2_with (first | go_in)
    go_ret
    exact ⟨ret_bool Hv.out, rfl⟩
  by_cases h6 : n ≤ 23
  · have Hv := Lib.hid (expOk_yes (n := n) (by omega) (by omega))
    clear h2 h3
    go_enter Tryd.func76, Tryd.ntmps76
    go_wp2_with (first | go_in)
    go_ret
    exact ⟨ret_bool Hv.out, rfl⟩
  · have Hv := Lib.hid (expOk_no (n := n) (by omega))
    clear h2 h3
    go_enter Tryd.func76, Tryd.ntmps76
    go_wp2_with (first | go_in)
    go_ret
    exact ⟨ret_bool Hv.out, rfl⟩
theorem expectValidS_any (n : Int) (w : World) :
    Calls Tryd.prog 66 #[.int .i64 n] w fun e w' => e = .returned (.bool (expOk n)) ∧ w = w' := by
  have Hv := Lib.hid (show (decide (-2 ≤ n) && decide (n ≤ 23)) = expOk n by unfold expOk; rw [Bool.eq_iff_iff]; simp)
  go_enter Tryd.func66, Tryd.ntmps66
  go_wp2_with (go_at_call 57; refine (l6In_any _ _ _ _).mono ?_; rintro e w' ⟨rfl, rfl⟩)
  go_ret
  exact ⟨ret_bool Hv.out, rfl⟩

/-- a version is the expected one. -/
def expHolds (x v : Int) : Bool := expOk x && decide (-1 ≤ v ∧ v ≤ 23) && (decide (x = -2) || decide (x = v))
theorem expHolds_v {x v : Int} (h : ¬ (-1 ≤ v ∧ v ≤ 23)) : expHolds x v = false := by unfold expHolds; rw [decide_eq_false h]; simp
theorem expHolds_x {x v : Int} (h : expOk x = false) : expHolds x v = false := by unfold expHolds; rw [h]; rfl
theorem expHolds_any {v : Int} (h : -1 ≤ v ∧ v ≤ 23) : expHolds (-2) v = true := by unfold expHolds; rw [decide_eq_true h, ← expOk_yes (by omega) (by omega)]; rfl
theorem expHolds_eq {x v : Int} (h0 : x ≠ -2) (h1 : expOk x = true) (h : -1 ≤ v ∧ v ≤ 23) : expHolds x v = decide (x = v) := by unfold expHolds; rw [decide_eq_true h, h1, decide_eq_false h0]; simp

/-- what an expected version stands for. -/
def expV (n : Int) : Value := if n = -2 then .iface 108 (.agg #[]) else if n = -1 then .iface 109 (.agg #[]) else if 0 ≤ n ∧ n ≤ 23 then .iface 110 (.int .i64 n) else .nilIface
set_option maxHeartbeats 1000000 in
theorem expectationOf_any (n : Int) (w : World) :
    Calls Tryd.prog 81 #[.int .i64 n] w fun e w' => e = .returned (expV n) ∧ w = w' := by
  by_cases h2 : n = -2
  · subst h2
    go_enter Tryd.func81, Tryd.ntmps81
    go_wp2_with fail
    go_ret
    exact ⟨rfl, rfl⟩
  by_cases h3 : n = -1
  · subst h3
    clear h2
    go_enter Tryd.func81, Tryd.ntmps81
    go_wp2_with fail
    go_ret
    exact ⟨rfl, rfl⟩
  have b2 : (n == -2) = false := beq_eq_false_iff_ne.2 h2
  have b3 : (n == -1) = false := beq_eq_false_iff_ne.2 h3
  by_cases h5 : n < 0
  · have Hv := Lib.hid (show expV n = .nilIface by unfold expV; rw [if_neg h2, if_neg h3, if_neg (by omega)])
    clear h2 h3
    go_enter Tryd.func81, Tryd.ntmps81
    go_wp2_with fail
    go_ret
    exact ⟨by rw [Hv.out]; rfl, rfl⟩
  by_cases h6 : n ≤ 23
  · have Hv := Lib.hid (show expV n = .iface 110 (.int .i64 n) by unfold expV; rw [if_neg h2, if_neg h3, if_pos (by omega)])
    clear h2 h3
    go_enter Tryd.func81, Tryd.ntmps81
    go_wp2_with fail
    go_ret
    exact ⟨by rw [Hv.out]; rfl, rfl⟩
  · have Hv := Lib.hid (show expV n = .nilIface by unfold expV; rw [if_neg h2, if_neg h3, if_neg (by omega)])
    clear h2 h3
    go_enter Tryd.func81, Tryd.ntmps81
    go_wp2_with fail
    go_ret
    exact ⟨by rw [Hv.out]; rfl, rfl⟩
theorem isMethodNone (w : World) : (method 265 109 (.agg #[]) "loop.example/streambarrier/impl.number").run Tryd.prog w = .ok (116, .agg #[]) w := by kernel_rfl
theorem isMethodLast (n : Int) (w : World) : (method 265 110 (.int .i64 n) "loop.example/streambarrier/impl.number").run Tryd.prog w = .ok (117, .int .i64 n) w := by kernel_rfl
set_option maxRecDepth 100000 in
set_option maxHeartbeats 2000000 in
theorem metBy_any (n v : Int) (w : World) (hv : -1 ≤ v ∧ v ≤ 23) :
    Calls Tryd.prog 80 #[expV n, .int .i64 v] w fun e w' => e = .returned (.bool (expHolds n v)) ∧ Below w.heap.size w w' := by
  have k1 := as_aa
  have k2 := as_na
  have k3 := as_nn
  have k4 := as_la
  have k5 := as_ln
  have k6 := as_ll
  have k7 := as_0a
  have k8 := as_0n
  have k9 := as_0l
  have k10 := as_nl
  have m1 := isMethodNone
  have m2 := isMethodLast
  by_cases h2 : n = -2
  · subst h2
    have Hv := Lib.hid (expHolds_any (v := v) hv)
    show Calls _ _ #[.iface 108 (.agg #[]), _] _ _
    go_enter Tryd.func80, Tryd.ntmps80
    go_wp2_with fail
    go_ret
    exact ⟨ret_bool Hv.out.symm, Below.refl _ _⟩
  by_cases h3 : n = -1
  · subst h3
    clear h2
    have Hv := Lib.hid (expHolds_eq (x := -1) (v := v) (by omega) (expOk_yes (by omega) (by omega)).symm hv)
    show Calls _ _ #[.iface 109 (.agg #[]), _] _ _
    go_enter Tryd.func80, Tryd.ntmps80
    go_wp2_with (first | go_in)
    go_ret
    exact ⟨ret_bool (by rw [Hv.out]; rfl), by repeat (first | exact Below.refl _ _ | refine Below.alloc ?_ (by simp) _)⟩
  by_cases h5 : 0 ≤ n ∧ n ≤ 23
  · have Hv := Lib.hid (expHolds_eq (x := n) (v := v) h2 (expOk_yes (by omega) (by omega)).symm hv)
    rw [show expV n = .iface 110 (.int .i64 n) by unfold expV; rw [if_neg h2, if_neg h3, if_pos h5]]
    clear h2 h3
    go_enter Tryd.func80, Tryd.ntmps80
    go_wp2_with (first | go_in)
    go_ret
    exact ⟨ret_bool (by rw [Hv.out]; rfl), by repeat (first | exact Below.refl _ _ | refine Below.alloc ?_ (by simp) _)⟩
  · have Hv := Lib.hid (expHolds_x (x := n) (v := v) (expOk_no (by omega)).symm)
    rw [show expV n = .nilIface by unfold expV; rw [if_neg h2, if_neg h3, if_neg h5]]
    clear h2 h3
    go_enter Tryd.func80, Tryd.ntmps80
    go_wp2_with fail
    go_ret
    exact ⟨ret_bool Hv.out.symm, Below.refl _ _⟩
set_option maxHeartbeats 2000000 in
theorem expectHolds_any (n v : Int) (w : World) :
    Calls Tryd.prog 62 #[.int .i64 n, .int .i64 v] w fun e w' => e = .returned (.bool (expHolds n v)) ∧ Below w.heap.size w w' := by
  by_cases v1 : v < -1
  · have Hv := Lib.hid (expHolds_v (x := n) (v := v) (by omega))
    go_enter Tryd.func62, Tryd.ntmps62
    go_wp2_with fail
    go_ret
    exact ⟨ret_bool Hv.out.symm, Below.refl _ _⟩
  by_cases v2 : 23 < v
  · have Hv := Lib.hid (expHolds_v (x := n) (v := v) (by omega))
    go_enter Tryd.func62, Tryd.ntmps62
    go_wp2_with fail
    go_ret
    exact ⟨ret_bool Hv.out.symm, Below.refl _ _⟩
  have hv : -1 ≤ v ∧ v ≤ 23 := by omega
  go_enter Tryd.func62, Tryd.ntmps62
  go_wp2_with (first
    | (go_at_call 81; refine (expectationOf_any n _).mono ?_; rintro e w1 ⟨rfl, rfl⟩)
    | (go_at_call 80; refine (metBy_any n v _ hv).mono ?_; rintro e w2 ⟨rfl, hb2⟩))
  go_ret
  exact ⟨rfl, hb2⟩
set_option maxHeartbeats 2000000 in
theorem expectHoldsS_any (n v : Int) (w : World) :
    Calls Tryd.prog 68 #[.int .i64 n, .int .i64 v] w fun e w' => e = .returned (.bool (expHolds n v)) ∧ w = w' := by
  have e1 : (decide (-1 ≤ v) && decide (v ≤ 23)) = decide (-1 ≤ v ∧ v ≤ 23) := by simp
  have L := fun W => l6In_any v (-1) 23 W
  rw [e1] at L
  have V := fun W => expectValidS_any n W
  cases hx : expOk n with
  | false =>
    rw [hx] at V
    have HV := Lib.hid V
    have Hr := Lib.hid (expHolds_x (v := v) hx)
    clear V L
    go_enter Tryd.func68, Tryd.ntmps68
    go_wp2_with (go_at_call 66; refine (HV.out _).mono ?_; rintro e w' ⟨rfl, rfl⟩)
    go_ret
    exact ⟨ret_bool Hr.out.symm, rfl⟩
  | true =>
    rw [hx] at V
    have HV := Lib.hid V
    clear V
    cases hd : decide (-1 ≤ v ∧ v ≤ 23) with
    | false =>
      rw [hd] at L
      have HL := Lib.hid L
      have Hr := Lib.hid (expHolds_v (x := n) (of_decide_eq_false hd))
      clear L
      go_enter Tryd.func68, Tryd.ntmps68
      go_wp2_with (first
        | (go_at_call 66; refine (HV.out _).mono ?_; rintro e w' ⟨rfl, rfl⟩)
        | (go_at_call 57; refine (HL.out _).mono ?_; rintro e w' ⟨rfl, rfl⟩))
      go_ret
      exact ⟨ret_bool Hr.out.symm, rfl⟩
    | true =>
      rw [hd] at L
      have HL := Lib.hid L
      clear L
      by_cases h2 : n = -2
      · subst h2
        have Hr := Lib.hid (expHolds_any (of_decide_eq_true hd))
        go_enter Tryd.func68, Tryd.ntmps68
        go_wp2_with (first
          | (go_at_call 66; refine (HV.out _).mono ?_; rintro e w' ⟨rfl, rfl⟩)
          | (go_at_call 57; refine (HL.out _).mono ?_; rintro e w' ⟨rfl, rfl⟩))
        go_ret
        exact ⟨ret_bool Hr.out.symm, rfl⟩
      · have Hr := Lib.hid (expHolds_eq h2 hx (of_decide_eq_true hd))
        have b2 : (n == -2) = false := beq_eq_false_iff_ne.2 h2
        clear h2
        go_enter Tryd.func68, Tryd.ntmps68
        go_wp2_with (first
          | (go_at_call 66; refine (HV.out _).mono ?_; rintro e w' ⟨rfl, rfl⟩)
          | (go_at_call 57; refine (HL.out _).mono ?_; rintro e w' ⟨rfl, rfl⟩))
        go_ret
        exact ⟨ret_bool (by rw [Hr.out]; rfl), rfl⟩
end Go.Proofs.YtihgdebfjoooeaaDoor
