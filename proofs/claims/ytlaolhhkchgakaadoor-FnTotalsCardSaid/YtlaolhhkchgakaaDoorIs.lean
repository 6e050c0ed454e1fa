/- errors.Is at the program's one sentinel: nil and the sentinel itself. Turned from the guide's worked text on errors.Is. -/
import Derived.Test.YtlaolhhkchgakaaDoorProg
import Derived.Test.YtlaolhhkchgakaaDoorBase
import Derived.LaidEql
import Derived.Stop.Asserts
import Derived.RowKitTokens
namespace Go.Proofs.YtlaolhhkchgakaaDoor
set_option linter.unusedVariables false
set_option linter.unusedSimpArgs false
open Go.RowKit Go.Extern.Stop Go.Stop Go.Extern

theorem isTypeOf (v : Value) (w : World) : (callFunc 66 #[.iface 130 v]).run Tryd.prog w = .ok (.value (.iface 114 (.agg #[.pointer (some ⟨2, 130, none⟩)]))) w := by kernel_rfl
theorem isComparable (w : World) : (callFunc 104 #[.agg #[.pointer (some ⟨2, 130, none⟩)]]).run Tryd.prog w = .ok (.value (.bool true)) w := by kernel_rfl
theorem isMethodComparable (v : Value) (w : World) : (Go.method 267 114 v "Comparable").run Tryd.prog w = .ok (104, v) w := by kernel_rfl
theorem isComp : (Tryd.prog.info? 130).map (·.comparable) = some true := by kernel_rfl
theorem isSize : (Tryd.prog.info? 155).map (·.size) = some 1 := by kernel_rfl

/-- errors.Is(x, x), x a pointer to an errors.errorString. -/
theorem is_same (a : Addr) (w : World) :
    Calls Tryd.prog 38 #[.iface 130 (.pointer (some a)), .iface 130 (.pointer (some a))] w fun e w' => e = .returned (.bool true) ∧ w = w' := by
  obtain ⟨i, hi, hcmp⟩ := Option.map_eq_some_iff.1 isComp
  obtain ⟨j, hj, hjs⟩ := Option.map_eq_some_iff.1 isSize
  have tT := isTypeOf
  have cT := isComparable
  have mR := isMethodComparable
  have heq := run_eql_iface_ptr_same (P := Tryd.prog) w a Tryd.underlying65 Tryd.underlying130 hi hcmp hj
  go_enter Tryd.func38, Tryd.ntmps38
  go_wp2
  refine wp_loop_rounds 1 ?_
  rw [rounds_succ]
  go_wp2
  go_ret
  exact ⟨rfl, rfl⟩

/-- errors.Is(nil, x). -/
theorem is_nil (b : Addr) (w : World) :
    Calls Tryd.prog 38 #[.nilIface, .iface 130 (.pointer (some b))] w fun e w' => e = .returned (.bool false) ∧ w = w' := by
  have hn := run_eql_iface_nil_left (P := Tryd.prog) w 130 (.pointer (some b)) Tryd.underlying65
  go_enter Tryd.func38, Tryd.ntmps38
  go_wp2
  go_ret
  exact ⟨rfl, rfl⟩
end Go.Proofs.YtlaolhhkchgakaaDoor
