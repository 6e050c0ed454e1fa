/- errors.Is at the program's one sentinel: nil and the sentinel itself. Turned from the guide's worked text on errors.Is. -/
import Derived.Test.YtecijlebfpbpaaaDoorProg
import Derived.Test.YtecijlebfpbpaaaDoorBase
import Derived.LaidEql
import Derived.Stop.Asserts
import Derived.RowKitTokens
namespace Go.Proofs.YtecijlebfpbpaaaDoor
set_option linter.unusedVariables false
set_option linter.unusedSimpArgs false
open Go.RowKit Go.Extern.Stop Go.Stop Go.Extern

theorem isTypeOf (v : Value) (w : World) : (callFunc 76 #[.iface 139 v]).run Tryd.prog w = .ok (.value (.iface 105 (.agg #[.pointer (some ⟨7, 139, none⟩)]))) w := by kernel_rfl
theorem isComparable (w : World) : (callFunc 124 #[.agg #[.pointer (some ⟨7, 139, none⟩)]]).run Tryd.prog w = .ok (.value (.bool true)) w := by kernel_rfl
theorem isMethodComparable (v : Value) (w : World) : (Go.method 275 105 v "Comparable").run Tryd.prog w = .ok (124, v) w := by kernel_rfl
theorem isComp : (Tryd.prog.info? 139).map (·.comparable) = some true := by kernel_rfl
theorem isSize : (Tryd.prog.info? 163).map (·.size) = some 1 := by kernel_rfl

/-- errors.Is(x, x), x a pointer to an errors.errorString. -/
theorem is_same (a : Addr) (w : World) :
    Calls Tryd.prog 68 #[.iface 139 (.pointer (some a)), .iface 139 (.pointer (some a))] w fun e w' => e = .returned (.bool true) ∧ w = w' := by
  obtain ⟨i, hi, hcmp⟩ := Option.map_eq_some_iff.1 isComp
  obtain ⟨j, hj, hjs⟩ := Option.map_eq_some_iff.1 isSize
  have tT := isTypeOf
  have cT := isComparable
  have mR := isMethodComparable
  have heq := run_eql_iface_ptr_same (P := Tryd.prog) w a Tryd.underlying87 Tryd.underlying139 hi hcmp hj
  go_enter Tryd.func68, Tryd.ntmps68
  go_wp2
  refine wp_loop_rounds 1 ?_
  rw [rounds_succ]
  go_wp2
  go_ret
  exact ⟨rfl, rfl⟩

/-- errors.Is(nil, x). -/
theorem is_nil (b : Addr) (w : World) :
    Calls Tryd.prog 68 #[.nilIface, .iface 139 (.pointer (some b))] w fun e w' => e = .returned (.bool false) ∧ w = w' := by
  have hn := run_eql_iface_nil_left (P := Tryd.prog) w 139 (.pointer (some b)) Tryd.underlying87
  go_enter Tryd.func68, Tryd.ntmps68
  go_wp2
  go_ret
  exact ⟨rfl, rfl⟩
end Go.Proofs.YtecijlebfpbpaaaDoor
