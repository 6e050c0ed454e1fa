/-
  NARROWER THAN 'FOR EVERY INPUT', by the rows' own cells (each row's printed sentence says how): FnCutsRead: ifaces, laid · FnCutsReadNone: ifaces, laid · FnFoldStream: ifaces, laid · FnFoldStreamAll: ifaces, laid · FnCutsLeft: ifaces, laid · FnWasAny: ifaces, laid · FnAppendWrong: ifaces, laid · FnAppendRead: ifaces, laid · FnWas: ifaces, laid.
  DERIVED. THE GIVEN ROWS OF THIS SEAT. 9 by the template 'for every input the law returns true; each argument reads behind the call as it read before'; 0 by the template 'total and deterministic' (their statements: YtpdedhkoofemdaaDoorTotals.lean).
  GIVEN WITH THE SEED: the statements are not yours to turn. If you find one false, say at which input.
  Laid BY PROGRAM, IN A SANDBOX (cutbox-rows.mjs): the forced cells as the released guide's own fill.sh prints them over the translation b75eda771e4c2988… (all of the seat's roots in one cut). By AI agents, Wed Nov 11 2026. No macro, syntax, notation, axiom, sorry.
-/
import Derived.Test.YtpdedhkoofemdaaDoorChecked
import GoSem.Claim
import GoSem.ClaimJoined
import GoSem.ClaimMapViews
import Derived.JoinedTies
import Derived.KernelRfl
namespace Go.Proofs.YtpdedhkoofemdaaDoor
/- THE CELL 'sum', in the pinned program and in every row, IS THE sha256 OF THE DUMP (.gsa) THAT YtpdedhkoofemdaaDoorProg.lean LOADS. Nothing in Lean hashes anything: it is a label: what it is worth is what the hold of that sum in a sandbox is worth. -/
noncomputable def Tryd.pinned : Pinned := { name := "ytpdedhkoofemdaadoor", sum := "b75eda771e4c29881e8f76d8c6c2b283a0d7da2464f752fed65cb343378e119a", checked := Tryd.checked }
namespace Rows
def none {H : Type} : Left H := { results := [], args := [] }

/- WHAT THE LISTED PACKAGE-LEVEL VARIABLES READ AS WHEN THE CALL BEGINS. Each datum BY PROGRAM (the guide's laid-datum.mjs) off the statement by which the dump's own 'gosem.cut.vars' lays the variable. In a bare row this is a premise. The card (YtpdedhkoofemdaaDoorCards.lean) ties it to the program's text. -/
def laid_loop_example_streambarrier_impl_errNoName {H : Type} : DataW H := .iface "*errors.errorString" (.ptr (.agg [.lit (.string [110, 111, 32, 110, 97, 109, 101, 32, 111, 102, 32, 97, 32, 115, 116, 114, 101, 97, 109])]))

/-- 'laws.FnCutsRead': WHATEVER THE INPUT: true; the input reads as it did. -/
def fnCutsReadSpec : ChangeSpec := { name := "fnCutsRead", vars := ["loop.example/streambarrier/impl.errNoName"], fn := fun _ => fun
  | [d, g1] => { results := [.lit (.bool true)], args := [d], vars := [g1] }
  | _ => none }
def fnCutsReadRow : OpenClaim := { program := "ytpdedhkoofemdaadoor", sum := "b75eda771e4c29881e8f76d8c6c2b283a0d7da2464f752fed65cb343378e119a", func := "loop.example/streambarrier/laws.FnCutsRead", spec := "fnCutsRead", inPlace := ["internal/bytealg.IndexByteString", "internal/bytealg.IndexString", "internal/reflectlite.TypeOf"], unfollowed := true, recurses := true, named := ["loop.example/streambarrier/impl.errNoName", "internal/bytealg.MaxLen"], ifaces := true, apart := false, laid := [("loop.example/streambarrier/impl.errNoName", laid_loop_example_streambarrier_impl_errNoName)] }
def FnCutsReadSaid : Prop := fnCutsReadRow.holds Tryd.pinned (OpenSpec.ofChange fnCutsReadSpec)

/-- ITS FALSE NEIGHBOUR: 'it returns false'. Refute it at one input. -/
def fnCutsReadWrong : ChangeSpec := { name := "fnCutsRead", vars := ["loop.example/streambarrier/impl.errNoName"], fn := fun _ => fun
  | [d, g1] => { results := [.lit (.bool false)], args := [d], vars := [g1] }
  | _ => none }
def FnCutsReadWrongFalsely : Prop := fnCutsReadRow.holds Tryd.pinned (OpenSpec.ofChange fnCutsReadWrong)

/-- 'laws.FnCutsReadNone': WHATEVER THE INPUT: true; the input reads as it did. -/
def fnCutsReadNoneSpec : ChangeSpec := { name := "fnCutsReadNone", vars := ["loop.example/streambarrier/impl.errNoName"], fn := fun _ => fun
  | [d, g1] => { results := [.lit (.bool true)], args := [d], vars := [g1] }
  | _ => none }
def fnCutsReadNoneRow : OpenClaim := { program := "ytpdedhkoofemdaadoor", sum := "b75eda771e4c29881e8f76d8c6c2b283a0d7da2464f752fed65cb343378e119a", func := "loop.example/streambarrier/laws.FnCutsReadNone", spec := "fnCutsReadNone", inPlace := ["internal/bytealg.IndexByteString", "internal/bytealg.IndexString", "internal/reflectlite.TypeOf"], unfollowed := true, recurses := true, named := ["loop.example/streambarrier/impl.errNoName", "internal/bytealg.MaxLen"], ifaces := true, apart := false, laid := [("loop.example/streambarrier/impl.errNoName", laid_loop_example_streambarrier_impl_errNoName)] }
def FnCutsReadNoneSaid : Prop := fnCutsReadNoneRow.holds Tryd.pinned (OpenSpec.ofChange fnCutsReadNoneSpec)

/-- ITS FALSE NEIGHBOUR: 'it returns false'. Refute it at one input. -/
def fnCutsReadNoneWrong : ChangeSpec := { name := "fnCutsReadNone", vars := ["loop.example/streambarrier/impl.errNoName"], fn := fun _ => fun
  | [d, g1] => { results := [.lit (.bool false)], args := [d], vars := [g1] }
  | _ => none }
def FnCutsReadNoneWrongFalsely : Prop := fnCutsReadNoneRow.holds Tryd.pinned (OpenSpec.ofChange fnCutsReadNoneWrong)

/-- 'laws.FnFoldStream': WHATEVER THE INPUT: true; the input reads as it did. -/
def fnFoldStreamSpec : ChangeSpec := { name := "fnFoldStream", vars := ["loop.example/streambarrier/impl.errNoName"], fn := fun _ => fun
  | [d, g1] => { results := [.lit (.bool true)], args := [d], vars := [g1] }
  | _ => none }
def fnFoldStreamRow : OpenClaim := { program := "ytpdedhkoofemdaadoor", sum := "b75eda771e4c29881e8f76d8c6c2b283a0d7da2464f752fed65cb343378e119a", func := "loop.example/streambarrier/laws.FnFoldStream", spec := "fnFoldStream", inPlace := ["internal/bytealg.IndexByteString", "internal/bytealg.IndexString", "internal/reflectlite.TypeOf"], unfollowed := true, recurses := true, named := ["loop.example/streambarrier/impl.errNoName", "internal/bytealg.MaxLen"], ifaces := true, apart := false, laid := [("loop.example/streambarrier/impl.errNoName", laid_loop_example_streambarrier_impl_errNoName)] }
def FnFoldStreamSaid : Prop := fnFoldStreamRow.holds Tryd.pinned (OpenSpec.ofChange fnFoldStreamSpec)

/-- ITS FALSE NEIGHBOUR: 'it returns false'. Refute it at one input. -/
def fnFoldStreamWrong : ChangeSpec := { name := "fnFoldStream", vars := ["loop.example/streambarrier/impl.errNoName"], fn := fun _ => fun
  | [d, g1] => { results := [.lit (.bool false)], args := [d], vars := [g1] }
  | _ => none }
def FnFoldStreamWrongFalsely : Prop := fnFoldStreamRow.holds Tryd.pinned (OpenSpec.ofChange fnFoldStreamWrong)

/-- 'laws.FnFoldStreamAll': WHATEVER THE INPUT: true; the input reads as it did. -/
def fnFoldStreamAllSpec : ChangeSpec := { name := "fnFoldStreamAll", vars := ["loop.example/streambarrier/impl.errNoName"], fn := fun _ => fun
  | [d1, d2, g1] => { results := [.lit (.bool true)], args := [d1, d2], vars := [g1] }
  | _ => none }
def fnFoldStreamAllRow : OpenClaim := { program := "ytpdedhkoofemdaadoor", sum := "b75eda771e4c29881e8f76d8c6c2b283a0d7da2464f752fed65cb343378e119a", func := "loop.example/streambarrier/laws.FnFoldStreamAll", spec := "fnFoldStreamAll", inPlace := ["internal/bytealg.IndexByteString", "internal/bytealg.IndexString", "internal/reflectlite.TypeOf"], unfollowed := true, recurses := true, named := ["loop.example/streambarrier/impl.errNoName", "internal/bytealg.MaxLen"], ifaces := true, apart := false, laid := [("loop.example/streambarrier/impl.errNoName", laid_loop_example_streambarrier_impl_errNoName)] }
def FnFoldStreamAllSaid : Prop := fnFoldStreamAllRow.holds Tryd.pinned (OpenSpec.ofChange fnFoldStreamAllSpec)

/-- ITS FALSE NEIGHBOUR: 'it returns false'. Refute it at one input. -/
def fnFoldStreamAllWrong : ChangeSpec := { name := "fnFoldStreamAll", vars := ["loop.example/streambarrier/impl.errNoName"], fn := fun _ => fun
  | [d1, d2, g1] => { results := [.lit (.bool false)], args := [d1, d2], vars := [g1] }
  | _ => none }
def FnFoldStreamAllWrongFalsely : Prop := fnFoldStreamAllRow.holds Tryd.pinned (OpenSpec.ofChange fnFoldStreamAllWrong)

/-- 'laws.FnCutsLeft': WHATEVER THE INPUT: true; the input reads as it did. -/
def fnCutsLeftSpec : ChangeSpec := { name := "fnCutsLeft", vars := ["loop.example/streambarrier/impl.errNoName"], fn := fun _ => fun
  | [d1, d2, g1] => { results := [.lit (.bool true)], args := [d1, d2], vars := [g1] }
  | _ => none }
def fnCutsLeftRow : OpenClaim := { program := "ytpdedhkoofemdaadoor", sum := "b75eda771e4c29881e8f76d8c6c2b283a0d7da2464f752fed65cb343378e119a", func := "loop.example/streambarrier/laws.FnCutsLeft", spec := "fnCutsLeft", inPlace := ["internal/bytealg.IndexByteString", "internal/bytealg.IndexString", "internal/reflectlite.TypeOf"], unfollowed := true, recurses := true, named := ["loop.example/streambarrier/impl.errNoName", "internal/bytealg.MaxLen"], ifaces := true, apart := false, laid := [("loop.example/streambarrier/impl.errNoName", laid_loop_example_streambarrier_impl_errNoName)] }
def FnCutsLeftSaid : Prop := fnCutsLeftRow.holds Tryd.pinned (OpenSpec.ofChange fnCutsLeftSpec)

/-- ITS FALSE NEIGHBOUR: 'it returns false'. Refute it at one input. -/
def fnCutsLeftWrong : ChangeSpec := { name := "fnCutsLeft", vars := ["loop.example/streambarrier/impl.errNoName"], fn := fun _ => fun
  | [d1, d2, g1] => { results := [.lit (.bool false)], args := [d1, d2], vars := [g1] }
  | _ => none }
def FnCutsLeftWrongFalsely : Prop := fnCutsLeftRow.holds Tryd.pinned (OpenSpec.ofChange fnCutsLeftWrong)

/-- 'laws.FnWasAny': WHATEVER THE INPUT: true; the input reads as it did. -/
def fnWasAnySpec : ChangeSpec := { name := "fnWasAny", vars := ["loop.example/streambarrier/impl.errNoName"], fn := fun _ => fun
  | [d1, d2, g1] => { results := [.lit (.bool true)], args := [d1, d2], vars := [g1] }
  | _ => none }
def fnWasAnyRow : OpenClaim := { program := "ytpdedhkoofemdaadoor", sum := "b75eda771e4c29881e8f76d8c6c2b283a0d7da2464f752fed65cb343378e119a", func := "loop.example/streambarrier/laws.FnWasAny", spec := "fnWasAny", inPlace := ["internal/bytealg.IndexByteString", "internal/bytealg.IndexString", "internal/reflectlite.TypeOf"], unfollowed := true, recurses := true, named := ["loop.example/streambarrier/impl.errNoName", "internal/bytealg.MaxLen"], ifaces := true, apart := false, laid := [("loop.example/streambarrier/impl.errNoName", laid_loop_example_streambarrier_impl_errNoName)] }
def FnWasAnySaid : Prop := fnWasAnyRow.holds Tryd.pinned (OpenSpec.ofChange fnWasAnySpec)

/-- ITS FALSE NEIGHBOUR: 'it returns false'. Refute it at one input. -/
def fnWasAnyWrong : ChangeSpec := { name := "fnWasAny", vars := ["loop.example/streambarrier/impl.errNoName"], fn := fun _ => fun
  | [d1, d2, g1] => { results := [.lit (.bool false)], args := [d1, d2], vars := [g1] }
  | _ => none }
def FnWasAnyWrongFalsely : Prop := fnWasAnyRow.holds Tryd.pinned (OpenSpec.ofChange fnWasAnyWrong)

/-- 'laws.FnAppendWrong': WHATEVER THE INPUT: true; the input reads as it did. -/
def fnAppendWrongSpec : ChangeSpec := { name := "fnAppendWrong", vars := ["loop.example/streambarrier/impl.errNoName"], fn := fun _ => fun
  | [d, g1] => { results := [.lit (.bool true)], args := [d], vars := [g1] }
  | _ => none }
def fnAppendWrongRow : OpenClaim := { program := "ytpdedhkoofemdaadoor", sum := "b75eda771e4c29881e8f76d8c6c2b283a0d7da2464f752fed65cb343378e119a", func := "loop.example/streambarrier/laws.FnAppendWrong", spec := "fnAppendWrong", inPlace := ["internal/bytealg.IndexByteString", "internal/bytealg.IndexString", "internal/reflectlite.TypeOf"], unfollowed := true, recurses := true, named := ["loop.example/streambarrier/impl.errNoName", "internal/bytealg.MaxLen"], ifaces := true, apart := false, laid := [("loop.example/streambarrier/impl.errNoName", laid_loop_example_streambarrier_impl_errNoName)] }
def FnAppendWrongSaid : Prop := fnAppendWrongRow.holds Tryd.pinned (OpenSpec.ofChange fnAppendWrongSpec)

/-- ITS FALSE NEIGHBOUR: 'it returns false'. Refute it at one input. -/
def fnAppendWrongWrong : ChangeSpec := { name := "fnAppendWrong", vars := ["loop.example/streambarrier/impl.errNoName"], fn := fun _ => fun
  | [d, g1] => { results := [.lit (.bool false)], args := [d], vars := [g1] }
  | _ => none }
def FnAppendWrongWrongFalsely : Prop := fnAppendWrongRow.holds Tryd.pinned (OpenSpec.ofChange fnAppendWrongWrong)

/-- 'laws.FnAppendRead': WHATEVER THE INPUT: true; the input reads as it did. -/
def fnAppendReadSpec : ChangeSpec := { name := "fnAppendRead", vars := ["loop.example/streambarrier/impl.errNoName"], fn := fun _ => fun
  | [d, g1] => { results := [.lit (.bool true)], args := [d], vars := [g1] }
  | _ => none }
def fnAppendReadRow : OpenClaim := { program := "ytpdedhkoofemdaadoor", sum := "b75eda771e4c29881e8f76d8c6c2b283a0d7da2464f752fed65cb343378e119a", func := "loop.example/streambarrier/laws.FnAppendRead", spec := "fnAppendRead", inPlace := ["internal/bytealg.IndexByteString", "internal/bytealg.IndexString", "internal/reflectlite.TypeOf"], unfollowed := true, recurses := true, named := ["loop.example/streambarrier/impl.errNoName", "internal/bytealg.MaxLen"], ifaces := true, apart := false, laid := [("loop.example/streambarrier/impl.errNoName", laid_loop_example_streambarrier_impl_errNoName)] }
def FnAppendReadSaid : Prop := fnAppendReadRow.holds Tryd.pinned (OpenSpec.ofChange fnAppendReadSpec)

/-- ITS FALSE NEIGHBOUR: 'it returns false'. Refute it at one input. -/
def fnAppendReadWrong : ChangeSpec := { name := "fnAppendRead", vars := ["loop.example/streambarrier/impl.errNoName"], fn := fun _ => fun
  | [d, g1] => { results := [.lit (.bool false)], args := [d], vars := [g1] }
  | _ => none }
def FnAppendReadWrongFalsely : Prop := fnAppendReadRow.holds Tryd.pinned (OpenSpec.ofChange fnAppendReadWrong)

/-- 'laws.FnWas': WHATEVER THE INPUT: true; the input reads as it did. -/
def fnWasSpec : ChangeSpec := { name := "fnWas", vars := ["loop.example/streambarrier/impl.errNoName"], fn := fun _ => fun
  | [d, g1] => { results := [.lit (.bool true)], args := [d], vars := [g1] }
  | _ => none }
def fnWasRow : OpenClaim := { program := "ytpdedhkoofemdaadoor", sum := "b75eda771e4c29881e8f76d8c6c2b283a0d7da2464f752fed65cb343378e119a", func := "loop.example/streambarrier/laws.FnWas", spec := "fnWas", inPlace := ["internal/bytealg.IndexByteString", "internal/bytealg.IndexString", "internal/reflectlite.TypeOf"], unfollowed := true, recurses := true, named := ["loop.example/streambarrier/impl.errNoName", "internal/bytealg.MaxLen"], ifaces := true, apart := false, laid := [("loop.example/streambarrier/impl.errNoName", laid_loop_example_streambarrier_impl_errNoName)] }
def FnWasSaid : Prop := fnWasRow.holds Tryd.pinned (OpenSpec.ofChange fnWasSpec)

/-- ITS FALSE NEIGHBOUR: 'it returns false'. Refute it at one input. -/
def fnWasWrong : ChangeSpec := { name := "fnWas", vars := ["loop.example/streambarrier/impl.errNoName"], fn := fun _ => fun
  | [d, g1] => { results := [.lit (.bool false)], args := [d], vars := [g1] }
  | _ => none }
def FnWasWrongFalsely : Prop := fnWasRow.holds Tryd.pinned (OpenSpec.ofChange fnWasWrong)

/- THE SECOND FORM. 'bulk': how many values and letters a reading holds, each counted each time it is reached (what is shared counts as often as it is met; a slice's spare places count too). A statement '..UptoSaid' is the law's where the arguments, and the package variables that the reading takes, are together of bulk at most 1048576: NARROWER than '..Said'. Prove '..Said' where nothing that the law and all that it calls make is longer than what came in: it says more and counts as full. Else prove '..UptoSaid'. A law counts once. -/
mutual
def uptoBulk {H : Type} : DataW H → Nat
  | .lit (.string bytes) => bytes.length + 1
  | .lit _ => 1
  | .nil => 1
  | .ptr d => uptoBulk d + 1
  | .slice elems spare => uptoBulkAll elems + uptoBulkAll spare + 1
  | .agg parts => uptoBulkAll parts + 1
  | .iface _ d => uptoBulk d + 1
  | .map entries => uptoBulkEntries entries + 1
  | .held _ => 1
def uptoBulkAll {H : Type} : List (DataW H) → Nat
  | [] => 0
  | d :: r => uptoBulk d + uptoBulkAll r
def uptoBulkEntries {H : Type} : List (Lit × DataW H) → Nat
  | [] => 0
  | x :: r => uptoBulkEntry x + uptoBulkEntries r
def uptoBulkEntry {H : Type} : Lit × DataW H → Nat
  | (.string bytes, d) => bytes.length + uptoBulk d + 1
  | (_, d) => uptoBulk d + 1
 end
def uptoSmall : (H : Type) → List (DataW H) → Bool := fun _ ds => decide (uptoBulkAll ds ≤ 1048576)
def OpenSpec.upto (s : _root_.Go.ChangeSpec) : _root_.Go.OpenSpec := { _root_.Go.OpenSpec.ofChange s with cond := some uptoSmall }

/-- 'laws.FnCutsRead', WHERE WHAT IT READS IS OF BULK AT MOST 1048576: true; the input reads as it did. -/
def fnCutsReadUptoRow : OpenClaim := { program := "ytpdedhkoofemdaadoor", sum := "b75eda771e4c29881e8f76d8c6c2b283a0d7da2464f752fed65cb343378e119a", func := "loop.example/streambarrier/laws.FnCutsRead", spec := "fnCutsRead", inPlace := ["internal/bytealg.IndexByteString", "internal/bytealg.IndexString", "internal/reflectlite.TypeOf"], unfollowed := true, recurses := true, named := ["loop.example/streambarrier/impl.errNoName", "internal/bytealg.MaxLen"], ifaces := true, apart := false, laid := [("loop.example/streambarrier/impl.errNoName", laid_loop_example_streambarrier_impl_errNoName)], narrowed := true }
def FnCutsReadUptoSaid : Prop := fnCutsReadUptoRow.holds Tryd.pinned (OpenSpec.upto fnCutsReadSpec)

/-- 'laws.FnCutsReadNone', WHERE WHAT IT READS IS OF BULK AT MOST 1048576: true; the input reads as it did. -/
def fnCutsReadNoneUptoRow : OpenClaim := { program := "ytpdedhkoofemdaadoor", sum := "b75eda771e4c29881e8f76d8c6c2b283a0d7da2464f752fed65cb343378e119a", func := "loop.example/streambarrier/laws.FnCutsReadNone", spec := "fnCutsReadNone", inPlace := ["internal/bytealg.IndexByteString", "internal/bytealg.IndexString", "internal/reflectlite.TypeOf"], unfollowed := true, recurses := true, named := ["loop.example/streambarrier/impl.errNoName", "internal/bytealg.MaxLen"], ifaces := true, apart := false, laid := [("loop.example/streambarrier/impl.errNoName", laid_loop_example_streambarrier_impl_errNoName)], narrowed := true }
def FnCutsReadNoneUptoSaid : Prop := fnCutsReadNoneUptoRow.holds Tryd.pinned (OpenSpec.upto fnCutsReadNoneSpec)

/-- 'laws.FnFoldStream', WHERE WHAT IT READS IS OF BULK AT MOST 1048576: true; the input reads as it did. -/
def fnFoldStreamUptoRow : OpenClaim := { program := "ytpdedhkoofemdaadoor", sum := "b75eda771e4c29881e8f76d8c6c2b283a0d7da2464f752fed65cb343378e119a", func := "loop.example/streambarrier/laws.FnFoldStream", spec := "fnFoldStream", inPlace := ["internal/bytealg.IndexByteString", "internal/bytealg.IndexString", "internal/reflectlite.TypeOf"], unfollowed := true, recurses := true, named := ["loop.example/streambarrier/impl.errNoName", "internal/bytealg.MaxLen"], ifaces := true, apart := false, laid := [("loop.example/streambarrier/impl.errNoName", laid_loop_example_streambarrier_impl_errNoName)], narrowed := true }
def FnFoldStreamUptoSaid : Prop := fnFoldStreamUptoRow.holds Tryd.pinned (OpenSpec.upto fnFoldStreamSpec)

/-- 'laws.FnFoldStreamAll', WHERE WHAT IT READS IS OF BULK AT MOST 1048576: true; the input reads as it did. -/
def fnFoldStreamAllUptoRow : OpenClaim := { program := "ytpdedhkoofemdaadoor", sum := "b75eda771e4c29881e8f76d8c6c2b283a0d7da2464f752fed65cb343378e119a", func := "loop.example/streambarrier/laws.FnFoldStreamAll", spec := "fnFoldStreamAll", inPlace := ["internal/bytealg.IndexByteString", "internal/bytealg.IndexString", "internal/reflectlite.TypeOf"], unfollowed := true, recurses := true, named := ["loop.example/streambarrier/impl.errNoName", "internal/bytealg.MaxLen"], ifaces := true, apart := false, laid := [("loop.example/streambarrier/impl.errNoName", laid_loop_example_streambarrier_impl_errNoName)], narrowed := true }
def FnFoldStreamAllUptoSaid : Prop := fnFoldStreamAllUptoRow.holds Tryd.pinned (OpenSpec.upto fnFoldStreamAllSpec)

/-- 'laws.FnCutsLeft', WHERE WHAT IT READS IS OF BULK AT MOST 1048576: true; the input reads as it did. -/
def fnCutsLeftUptoRow : OpenClaim := { program := "ytpdedhkoofemdaadoor", sum := "b75eda771e4c29881e8f76d8c6c2b283a0d7da2464f752fed65cb343378e119a", func := "loop.example/streambarrier/laws.FnCutsLeft", spec := "fnCutsLeft", inPlace := ["internal/bytealg.IndexByteString", "internal/bytealg.IndexString", "internal/reflectlite.TypeOf"], unfollowed := true, recurses := true, named := ["loop.example/streambarrier/impl.errNoName", "internal/bytealg.MaxLen"], ifaces := true, apart := false, laid := [("loop.example/streambarrier/impl.errNoName", laid_loop_example_streambarrier_impl_errNoName)], narrowed := true }
def FnCutsLeftUptoSaid : Prop := fnCutsLeftUptoRow.holds Tryd.pinned (OpenSpec.upto fnCutsLeftSpec)

/-- 'laws.FnWasAny', WHERE WHAT IT READS IS OF BULK AT MOST 1048576: true; the input reads as it did. -/
def fnWasAnyUptoRow : OpenClaim := { program := "ytpdedhkoofemdaadoor", sum := "b75eda771e4c29881e8f76d8c6c2b283a0d7da2464f752fed65cb343378e119a", func := "loop.example/streambarrier/laws.FnWasAny", spec := "fnWasAny", inPlace := ["internal/bytealg.IndexByteString", "internal/bytealg.IndexString", "internal/reflectlite.TypeOf"], unfollowed := true, recurses := true, named := ["loop.example/streambarrier/impl.errNoName", "internal/bytealg.MaxLen"], ifaces := true, apart := false, laid := [("loop.example/streambarrier/impl.errNoName", laid_loop_example_streambarrier_impl_errNoName)], narrowed := true }
def FnWasAnyUptoSaid : Prop := fnWasAnyUptoRow.holds Tryd.pinned (OpenSpec.upto fnWasAnySpec)

/-- 'laws.FnAppendWrong', WHERE WHAT IT READS IS OF BULK AT MOST 1048576: true; the input reads as it did. -/
def fnAppendWrongUptoRow : OpenClaim := { program := "ytpdedhkoofemdaadoor", sum := "b75eda771e4c29881e8f76d8c6c2b283a0d7da2464f752fed65cb343378e119a", func := "loop.example/streambarrier/laws.FnAppendWrong", spec := "fnAppendWrong", inPlace := ["internal/bytealg.IndexByteString", "internal/bytealg.IndexString", "internal/reflectlite.TypeOf"], unfollowed := true, recurses := true, named := ["loop.example/streambarrier/impl.errNoName", "internal/bytealg.MaxLen"], ifaces := true, apart := false, laid := [("loop.example/streambarrier/impl.errNoName", laid_loop_example_streambarrier_impl_errNoName)], narrowed := true }
def FnAppendWrongUptoSaid : Prop := fnAppendWrongUptoRow.holds Tryd.pinned (OpenSpec.upto fnAppendWrongSpec)

/-- 'laws.FnAppendRead', WHERE WHAT IT READS IS OF BULK AT MOST 1048576: true; the input reads as it did. -/
def fnAppendReadUptoRow : OpenClaim := { program := "ytpdedhkoofemdaadoor", sum := "b75eda771e4c29881e8f76d8c6c2b283a0d7da2464f752fed65cb343378e119a", func := "loop.example/streambarrier/laws.FnAppendRead", spec := "fnAppendRead", inPlace := ["internal/bytealg.IndexByteString", "internal/bytealg.IndexString", "internal/reflectlite.TypeOf"], unfollowed := true, recurses := true, named := ["loop.example/streambarrier/impl.errNoName", "internal/bytealg.MaxLen"], ifaces := true, apart := false, laid := [("loop.example/streambarrier/impl.errNoName", laid_loop_example_streambarrier_impl_errNoName)], narrowed := true }
def FnAppendReadUptoSaid : Prop := fnAppendReadUptoRow.holds Tryd.pinned (OpenSpec.upto fnAppendReadSpec)

/-- 'laws.FnWas', WHERE WHAT IT READS IS OF BULK AT MOST 1048576: true; the input reads as it did. -/
def fnWasUptoRow : OpenClaim := { program := "ytpdedhkoofemdaadoor", sum := "b75eda771e4c29881e8f76d8c6c2b283a0d7da2464f752fed65cb343378e119a", func := "loop.example/streambarrier/laws.FnWas", spec := "fnWas", inPlace := ["internal/bytealg.IndexByteString", "internal/bytealg.IndexString", "internal/reflectlite.TypeOf"], unfollowed := true, recurses := true, named := ["loop.example/streambarrier/impl.errNoName", "internal/bytealg.MaxLen"], ifaces := true, apart := false, laid := [("loop.example/streambarrier/impl.errNoName", laid_loop_example_streambarrier_impl_errNoName)], narrowed := true }
def FnWasUptoSaid : Prop := fnWasUptoRow.holds Tryd.pinned (OpenSpec.upto fnWasSpec)

end Rows
end Go.Proofs.YtpdedhkoofemdaaDoor
