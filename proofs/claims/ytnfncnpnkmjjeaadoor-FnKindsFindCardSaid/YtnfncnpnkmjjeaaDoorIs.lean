/- errors.Is at the program's one sentinel: nil and the sentinel itself. Turned from the guide's worked text on errors.Is. -/
import Derived.Test.YtnfncnpnkmjjeaaDoorProg
import Derived.Test.YtnfncnpnkmjjeaaDoorBase
import Derived.LaidEql
import Derived.Stop.Asserts
import Derived.RowKitTokens
namespace Go.Proofs.YtnfncnpnkmjjeaaDoor
set_option linter.unusedVariables false
set_option linter.unusedSimpArgs false
open Go.RowKit Go.Extern.Stop Go.Stop Go.Extern

theorem isTypeOf (v : Value) (w : World) : (callFunc 62 #[.iface 126 v]).run Tryd.prog w = .ok (.value (.iface 110 (.agg #[.pointer (some ⟨2, 126, none⟩)]))) w := by kernel_rfl
theorem isComparable (w : World) : (callFunc 94 #[.agg #[.pointer (some ⟨2, 126, none⟩)]]).run Tryd.prog w = .ok (.value (.bool true)) w := by kernel_rfl
theorem isMethodComparable (v : Value) (w : World) : (Go.method 264 110 v "Comparable").run Tryd.prog w = .ok (94, v) w := by kernel_rfl
theorem isComp : (Tryd.prog.info? 126).map (·.comparable) = some true := by kernel_rfl
theorem isSize : (Tryd.prog.info? 152).map (·.size) = some 1 := by kernel_rfl

/-- errors.Is(x, x), x a pointer to an errors.errorString. -/
theorem is_same (a : Addr) (w : World) :
    Calls Tryd.prog 50 #[.iface 126 (.pointer (some a)), .iface 126 (.pointer (some a))] w fun e w' => e = .returned (.bool true) ∧ w = w' := by
  obtain ⟨i, hi, hcmp⟩ := Option.map_eq_some_iff.1 isComp
  obtain ⟨j, hj, hjs⟩ := Option.map_eq_some_iff.1 isSize
  have tT := isTypeOf
  have cT := isComparable
  have mR := isMethodComparable
  have heq := run_eql_iface_ptr_same (P := Tryd.prog) w a Tryd.underlying83 Tryd.underlying126 hi hcmp hj
  go_enter Tryd.func50, Tryd.ntmps50
  go_wp2
  refine wp_loop_rounds 1 ?_
  rw [rounds_succ]
  go_wp2
  go_ret
  exact ⟨rfl, rfl⟩

/-- errors.Is(nil, x). -/
theorem is_nil (b : Addr) (w : World) :
    Calls Tryd.prog 50 #[.nilIface, .iface 126 (.pointer (some b))] w fun e w' => e = .returned (.bool false) ∧ w = w' := by
  have hn := run_eql_iface_nil_left (P := Tryd.prog) w 126 (.pointer (some b)) Tryd.underlying83
  go_enter Tryd.func50, Tryd.ntmps50
  go_wp2
  go_ret
  exact ⟨rfl, rfl⟩
end Go.Proofs.YtnfncnpnkmjjeaaDoor
