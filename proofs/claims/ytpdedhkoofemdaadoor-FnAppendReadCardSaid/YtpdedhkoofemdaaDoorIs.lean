/- errors.Is at the program's one sentinel: nil and the sentinel itself. Turned from the guide's worked text on errors.Is. -/
import Derived.Test.YtpdedhkoofemdaaDoorProg
import Derived.Test.YtpdedhkoofemdaaDoorBase
import Derived.LaidEql
import Derived.Stop.Asserts
import Derived.RowKitTokens
namespace Go.Proofs.YtpdedhkoofemdaaDoor
open Go.RowKit Go.Extern.Stop Go.Stop Go.Extern

theorem isTypeOf (v : Value) (w : World) : (callFunc 95 #[.iface 150 v]).run Tryd.prog w = .ok (.value (.iface 134 (.agg #[.pointer (some ⟨2, 150, none⟩)]))) w := by kernel_rfl
theorem isComparable (w : World) : (callFunc 130 #[.agg #[.pointer (some ⟨2, 150, none⟩)]]).run Tryd.prog w = .ok (.value (.bool true)) w := by kernel_rfl
theorem isMethodComparable (v : Value) (w : World) : (Go.method 286 134 v "Comparable").run Tryd.prog w = .ok (130, v) w := by kernel_rfl
theorem isComp : (Tryd.prog.info? 150).map (·.comparable) = some true := by kernel_rfl
theorem isSize : (Tryd.prog.info? 174).map (·.size) = some 1 := by kernel_rfl

/-- errors.Is(x, x), x a pointer to an errors.errorString. -/
theorem is_same (a : Addr) (w : World) :
    Calls Tryd.prog 80 #[.iface 150 (.pointer (some a)), .iface 150 (.pointer (some a))] w fun e w' => e = .returned (.bool true) ∧ w = w' := by
  obtain ⟨i, hi, hcmp⟩ := Option.map_eq_some_iff.1 isComp
  obtain ⟨j, hj, hjs⟩ := Option.map_eq_some_iff.1 isSize
  have tT := isTypeOf
  have cT := isComparable
  have mR := isMethodComparable
  have heq := run_eql_iface_ptr_same (P := Tryd.prog) w a Tryd.underlying105 Tryd.underlying150 hi hcmp hj
  go_enter Tryd.func80, Tryd.ntmps80
  go_wp2
  refine wp_loop_rounds 1 ?_
  rw [rounds_succ]
  go_wp2
  go_ret
  exact ⟨rfl, rfl⟩

/-- errors.Is(nil, x). -/
theorem is_nil (b : Addr) (w : World) :
    Calls Tryd.prog 80 #[.nilIface, .iface 150 (.pointer (some b))] w fun e w' => e = .returned (.bool false) ∧ w = w' := by
  have hn := run_eql_iface_nil_left (P := Tryd.prog) w 150 (.pointer (some b)) Tryd.underlying105
  go_enter Tryd.func80, Tryd.ntmps80
  go_wp2
  go_ret
  exact ⟨rfl, rfl⟩
end Go.Proofs.YtpdedhkoofemdaaDoor
