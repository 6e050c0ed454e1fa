/-
  NARROWER THAN 'FOR EVERY INPUT', by the rows' own cells (each row's printed sentence says how): FnExactGroupOwner: ifaces, laid · FnKinds: ifaces, laid · FnKindsAdd: ifaces, laid · FnKindsFind: ifaces, laid.
  DERIVED. THE GIVEN ROWS OF THIS SEAT. 4 by the template 'for every input the law returns true; each argument reads behind the call as it read before'; 0 by the template 'total and deterministic' (their statements: YtnfncnpnkmjjeaaDoorTotals.lean).
  GIVEN WITH THE SEED: the statements are not yours to turn. If you find one false, say at which input.
  Laid BY PROGRAM, IN A SANDBOX (cutbox-rows.mjs): the forced cells as the released guide's own fill.sh prints them over the translation faff8b6571dcaace… (all of the seat's roots in one cut). By AI agents, Wed Nov 11 2026. No macro, syntax, notation, axiom, sorry.
-/
import Derived.Test.YtnfncnpnkmjjeaaDoorChecked
import GoSem.Claim
import GoSem.ClaimJoined
import GoSem.ClaimMapViews
import Derived.JoinedTies
import Derived.KernelRfl
namespace Go.Proofs.YtnfncnpnkmjjeaaDoor
/- THE CELL 'sum', in the pinned program and in every row, IS THE sha256 OF THE DUMP (.gsa) THAT YtnfncnpnkmjjeaaDoorProg.lean LOADS. Nothing in Lean hashes anything: it is a label: what it is worth is what the hold of that sum in a sandbox is worth. -/
noncomputable def Tryd.pinned : Pinned := { name := "ytnfncnpnkmjjeaadoor", sum := "faff8b6571dcaace843593d7a908e0bf65fbbb3a0b94b9d72c91d3604757a072", checked := Tryd.checked }
namespace Rows
def none {H : Type} : Left H := { results := [], args := [] }

/- WHAT THE LISTED PACKAGE-LEVEL VARIABLES READ AS WHEN THE CALL BEGINS. Each datum BY PROGRAM (the guide's laid-datum.mjs) off the statement by which the dump's own 'gosem.cut.vars' lays the variable. In a bare row this is a premise. The card (YtnfncnpnkmjjeaaDoorCards.lean) ties it to the program's text. -/
def laid_loop_example_streambarrier_impl_errNoName {H : Type} : DataW H := .iface "*errors.errorString" (.ptr (.agg [.lit (.string [110, 111, 32, 110, 97, 109, 101, 32, 111, 102, 32, 97, 32, 115, 116, 114, 101, 97, 109])]))

/-- 'laws.FnExactGroupOwner': WHATEVER THE INPUT: true; the input reads as it did. -/
def fnExactGroupOwnerSpec : ChangeSpec := { name := "fnExactGroupOwner", vars := ["loop.example/streambarrier/impl.errNoName"], fn := fun _ => fun
  | [d1, d2, g1] => { results := [.lit (.bool true)], args := [d1, d2], vars := [g1] }
  | _ => none }
def fnExactGroupOwnerRow : OpenClaim := { program := "ytnfncnpnkmjjeaadoor", sum := "faff8b6571dcaace843593d7a908e0bf65fbbb3a0b94b9d72c91d3604757a072", func := "loop.example/streambarrier/laws.FnExactGroupOwner", spec := "fnExactGroupOwner", inPlace := ["internal/bytealg.IndexByteString", "internal/bytealg.IndexString", "internal/reflectlite.TypeOf"], unfollowed := true, recurses := true, named := ["loop.example/streambarrier/impl.errNoName", "internal/bytealg.MaxLen"], ifaces := true, apart := false, laid := [("loop.example/streambarrier/impl.errNoName", laid_loop_example_streambarrier_impl_errNoName)] }
def FnExactGroupOwnerSaid : Prop := fnExactGroupOwnerRow.holds Tryd.pinned (OpenSpec.ofChange fnExactGroupOwnerSpec)

/-- ITS FALSE NEIGHBOUR: 'it returns false'. Refute it at one input. -/
def fnExactGroupOwnerWrong : ChangeSpec := { name := "fnExactGroupOwner", vars := ["loop.example/streambarrier/impl.errNoName"], fn := fun _ => fun
  | [d1, d2, g1] => { results := [.lit (.bool false)], args := [d1, d2], vars := [g1] }
  | _ => none }
def FnExactGroupOwnerWrongFalsely : Prop := fnExactGroupOwnerRow.holds Tryd.pinned (OpenSpec.ofChange fnExactGroupOwnerWrong)

/-- 'laws.FnKinds': WHATEVER THE INPUT: true; the input reads as it did. -/
def fnKindsSpec : ChangeSpec := { name := "fnKinds", vars := ["loop.example/streambarrier/impl.errNoName"], fn := fun _ => fun
  | [d, g1] => { results := [.lit (.bool true)], args := [d], vars := [g1] }
  | _ => none }
def fnKindsRow : OpenClaim := { program := "ytnfncnpnkmjjeaadoor", sum := "faff8b6571dcaace843593d7a908e0bf65fbbb3a0b94b9d72c91d3604757a072", func := "loop.example/streambarrier/laws.FnKinds", spec := "fnKinds", inPlace := ["internal/bytealg.IndexByteString", "internal/bytealg.IndexString", "internal/reflectlite.TypeOf"], unfollowed := true, recurses := true, named := ["loop.example/streambarrier/impl.errNoName", "internal/bytealg.MaxLen"], ifaces := true, apart := false, laid := [("loop.example/streambarrier/impl.errNoName", laid_loop_example_streambarrier_impl_errNoName)] }
def FnKindsSaid : Prop := fnKindsRow.holds Tryd.pinned (OpenSpec.ofChange fnKindsSpec)

/-- ITS FALSE NEIGHBOUR: 'it returns false'. Refute it at one input. -/
def fnKindsWrong : ChangeSpec := { name := "fnKinds", vars := ["loop.example/streambarrier/impl.errNoName"], fn := fun _ => fun
  | [d, g1] => { results := [.lit (.bool false)], args := [d], vars := [g1] }
  | _ => none }
def FnKindsWrongFalsely : Prop := fnKindsRow.holds Tryd.pinned (OpenSpec.ofChange fnKindsWrong)

/-- 'laws.FnKindsAdd': WHATEVER THE INPUT: true; the input reads as it did. -/
def fnKindsAddSpec : ChangeSpec := { name := "fnKindsAdd", vars := ["loop.example/streambarrier/impl.errNoName"], fn := fun _ => fun
  | [d, g1] => { results := [.lit (.bool true)], args := [d], vars := [g1] }
  | _ => none }
def fnKindsAddRow : OpenClaim := { program := "ytnfncnpnkmjjeaadoor", sum := "faff8b6571dcaace843593d7a908e0bf65fbbb3a0b94b9d72c91d3604757a072", func := "loop.example/streambarrier/laws.FnKindsAdd", spec := "fnKindsAdd", inPlace := ["internal/bytealg.IndexByteString", "internal/bytealg.IndexString", "internal/reflectlite.TypeOf"], unfollowed := true, recurses := true, named := ["loop.example/streambarrier/impl.errNoName", "internal/bytealg.MaxLen"], ifaces := true, apart := false, laid := [("loop.example/streambarrier/impl.errNoName", laid_loop_example_streambarrier_impl_errNoName)] }
def FnKindsAddSaid : Prop := fnKindsAddRow.holds Tryd.pinned (OpenSpec.ofChange fnKindsAddSpec)

/-- ITS FALSE NEIGHBOUR: 'it returns false'. Refute it at one input. -/
def fnKindsAddWrong : ChangeSpec := { name := "fnKindsAdd", vars := ["loop.example/streambarrier/impl.errNoName"], fn := fun _ => fun
  | [d, g1] => { results := [.lit (.bool false)], args := [d], vars := [g1] }
  | _ => none }
def FnKindsAddWrongFalsely : Prop := fnKindsAddRow.holds Tryd.pinned (OpenSpec.ofChange fnKindsAddWrong)

/-- 'laws.FnKindsFind': WHATEVER THE INPUT: true; the input reads as it did. -/
def fnKindsFindSpec : ChangeSpec := { name := "fnKindsFind", vars := ["loop.example/streambarrier/impl.errNoName"], fn := fun _ => fun
  | [d1, d2, g1] => { results := [.lit (.bool true)], args := [d1, d2], vars := [g1] }
  | _ => none }
def fnKindsFindRow : OpenClaim := { program := "ytnfncnpnkmjjeaadoor", sum := "faff8b6571dcaace843593d7a908e0bf65fbbb3a0b94b9d72c91d3604757a072", func := "loop.example/streambarrier/laws.FnKindsFind", spec := "fnKindsFind", inPlace := ["internal/bytealg.IndexByteString", "internal/bytealg.IndexString", "internal/reflectlite.TypeOf"], unfollowed := true, recurses := true, named := ["loop.example/streambarrier/impl.errNoName", "internal/bytealg.MaxLen"], ifaces := true, apart := false, laid := [("loop.example/streambarrier/impl.errNoName", laid_loop_example_streambarrier_impl_errNoName)] }
def FnKindsFindSaid : Prop := fnKindsFindRow.holds Tryd.pinned (OpenSpec.ofChange fnKindsFindSpec)

/-- ITS FALSE NEIGHBOUR: 'it returns false'. Refute it at one input. -/
def fnKindsFindWrong : ChangeSpec := { name := "fnKindsFind", vars := ["loop.example/streambarrier/impl.errNoName"], fn := fun _ => fun
  | [d1, d2, g1] => { results := [.lit (.bool false)], args := [d1, d2], vars := [g1] }
  | _ => none }
def FnKindsFindWrongFalsely : Prop := fnKindsFindRow.holds Tryd.pinned (OpenSpec.ofChange fnKindsFindWrong)

/- THE SECOND FORM. 'bulk': how many values and letters a reading holds, each counted each time it is reached (what is shared counts as often as it is met; a slice's spare places count too). A statement '..UptoSaid' is the law's where the arguments, and the package variables that the reading takes, are together of bulk at most 1048576: NARROWER than '..Said'. Prove '..Said' where nothing that the law and all that it calls make is longer than what came in: it says more and counts as full. Else prove '..UptoSaid'. A law counts once. -/
mutual
def uptoBulk {H : Type} : DataW H → Nat
  | .lit (.string bytes) => bytes.length + 1
  | .lit _ => 1
  | .nil => 1
  | .ptr d => uptoBulk d + 1
  | .slice elems spare => uptoBulkAll elems + uptoBulkAll spare + 1
  | .agg parts => uptoBulkAll parts + 1
  | .iface _ d => uptoBulk d + 1
  | .map entries => uptoBulkEntries entries + 1
  | .held _ => 1
def uptoBulkAll {H : Type} : List (DataW H) → Nat
  | [] => 0
  | d :: r => uptoBulk d + uptoBulkAll r
def uptoBulkEntries {H : Type} : List (Lit × DataW H) → Nat
  | [] => 0
  | x :: r => uptoBulkEntry x + uptoBulkEntries r
def uptoBulkEntry {H : Type} : Lit × DataW H → Nat
  | (.string bytes, d) => bytes.length + uptoBulk d + 1
  | (_, d) => uptoBulk d + 1
 end
def uptoSmall : (H : Type) → List (DataW H) → Bool := fun _ ds => decide (uptoBulkAll ds ≤ 1048576)
def OpenSpec.upto (s : _root_.Go.ChangeSpec) : _root_.Go.OpenSpec := { _root_.Go.OpenSpec.ofChange s with cond := some uptoSmall }

/-- 'laws.FnExactGroupOwner', WHERE WHAT IT READS IS OF BULK AT MOST 1048576: true; the input reads as it did. -/
def fnExactGroupOwnerUptoRow : OpenClaim := { program := "ytnfncnpnkmjjeaadoor", sum := "faff8b6571dcaace843593d7a908e0bf65fbbb3a0b94b9d72c91d3604757a072", func := "loop.example/streambarrier/laws.FnExactGroupOwner", spec := "fnExactGroupOwner", inPlace := ["internal/bytealg.IndexByteString", "internal/bytealg.IndexString", "internal/reflectlite.TypeOf"], unfollowed := true, recurses := true, named := ["loop.example/streambarrier/impl.errNoName", "internal/bytealg.MaxLen"], ifaces := true, apart := false, laid := [("loop.example/streambarrier/impl.errNoName", laid_loop_example_streambarrier_impl_errNoName)], narrowed := true }
def FnExactGroupOwnerUptoSaid : Prop := fnExactGroupOwnerUptoRow.holds Tryd.pinned (OpenSpec.upto fnExactGroupOwnerSpec)

/-- 'laws.FnKinds', WHERE WHAT IT READS IS OF BULK AT MOST 1048576: true; the input reads as it did. -/
def fnKindsUptoRow : OpenClaim := { program := "ytnfncnpnkmjjeaadoor", sum := "faff8b6571dcaace843593d7a908e0bf65fbbb3a0b94b9d72c91d3604757a072", func := "loop.example/streambarrier/laws.FnKinds", spec := "fnKinds", inPlace := ["internal/bytealg.IndexByteString", "internal/bytealg.IndexString", "internal/reflectlite.TypeOf"], unfollowed := true, recurses := true, named := ["loop.example/streambarrier/impl.errNoName", "internal/bytealg.MaxLen"], ifaces := true, apart := false, laid := [("loop.example/streambarrier/impl.errNoName", laid_loop_example_streambarrier_impl_errNoName)], narrowed := true }
def FnKindsUptoSaid : Prop := fnKindsUptoRow.holds Tryd.pinned (OpenSpec.upto fnKindsSpec)

/-- 'laws.FnKindsAdd', WHERE WHAT IT READS IS OF BULK AT MOST 1048576: true; the input reads as it did. -/
def fnKindsAddUptoRow : OpenClaim := { program := "ytnfncnpnkmjjeaadoor", sum := "faff8b6571dcaace843593d7a908e0bf65fbbb3a0b94b9d72c91d3604757a072", func := "loop.example/streambarrier/laws.FnKindsAdd", spec := "fnKindsAdd", inPlace := ["internal/bytealg.IndexByteString", "internal/bytealg.IndexString", "internal/reflectlite.TypeOf"], unfollowed := true, recurses := true, named := ["loop.example/streambarrier/impl.errNoName", "internal/bytealg.MaxLen"], ifaces := true, apart := false, laid := [("loop.example/streambarrier/impl.errNoName", laid_loop_example_streambarrier_impl_errNoName)], narrowed := true }
def FnKindsAddUptoSaid : Prop := fnKindsAddUptoRow.holds Tryd.pinned (OpenSpec.upto fnKindsAddSpec)

/-- 'laws.FnKindsFind', WHERE WHAT IT READS IS OF BULK AT MOST 1048576: true; the input reads as it did. -/
def fnKindsFindUptoRow : OpenClaim := { program := "ytnfncnpnkmjjeaadoor", sum := "faff8b6571dcaace843593d7a908e0bf65fbbb3a0b94b9d72c91d3604757a072", func := "loop.example/streambarrier/laws.FnKindsFind", spec := "fnKindsFind", inPlace := ["internal/bytealg.IndexByteString", "internal/bytealg.IndexString", "internal/reflectlite.TypeOf"], unfollowed := true, recurses := true, named := ["loop.example/streambarrier/impl.errNoName", "internal/bytealg.MaxLen"], ifaces := true, apart := false, laid := [("loop.example/streambarrier/impl.errNoName", laid_loop_example_streambarrier_impl_errNoName)], narrowed := true }
def FnKindsFindUptoSaid : Prop := fnKindsFindUptoRow.holds Tryd.pinned (OpenSpec.upto fnKindsFindSpec)

end Rows
end Go.Proofs.YtnfncnpnkmjjeaaDoor
