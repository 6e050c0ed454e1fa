/-
  NARROWER THAN 'FOR EVERY INPUT', by the rows' own cells (each row's printed sentence says how): FnCutsLeft: ifaces, laid · FnCutsPart: ifaces, laid · FnCutsPut: ifaces, laid · FnCutsPutOthers: ifaces, laid · FnFoldStream: ifaces, laid · FnFoldStreamAll: ifaces, laid · FnSubLeft: ifaces, laid · FnSubLeftAll: ifaces, laid · FnSubTake: ifaces, laid · FnSubTakeAll: ifaces, laid · FnSubTakeLeft: ifaces, laid · FnSubTakeOn: ifaces, laid.
  DERIVED. THE GIVEN ROWS OF THIS SEAT. 12 by the template 'for every input the law returns true; each argument reads behind the call as it read before'; 0 by the template 'total and deterministic' (their statements: YtbcfbkcadceniaaDoorTotals.lean).
  GIVEN WITH THE SEED: the statements are not yours to turn. If you find one false, say at which input.
  Laid BY PROGRAM, IN A SANDBOX (cutbox-rows.mjs): the forced cells as the released guide's own fill.sh prints them over the translation 5aa02cb7cabb85bc… (all of the seat's roots in one cut). By AI agents, Wed Nov 11 2026. No macro, syntax, notation, axiom, sorry.
-/
import Derived.Test.YtbcfbkcadceniaaDoorChecked
import GoSem.Claim
import GoSem.ClaimJoined
import GoSem.ClaimMapViews
import Derived.JoinedTies
import Derived.KernelRfl
namespace Go.Proofs.YtbcfbkcadceniaaDoor
/- THE CELL 'sum', in the pinned program and in every row, IS THE sha256 OF THE DUMP (.gsa) THAT YtbcfbkcadceniaaDoorProg.lean LOADS. Nothing in Lean hashes anything: it is a label: what it is worth is what the hold of that sum in a sandbox is worth. -/
noncomputable def Tryd.pinned : Pinned := { name := "ytbcfbkcadceniaadoor", sum := "5aa02cb7cabb85bccdd4aa33ccd213028d033aee115fb4cd9aef2986c2e8eabf", checked := Tryd.checked }
namespace Rows
def none {H : Type} : Left H := { results := [], args := [] }

/- WHAT THE LISTED PACKAGE-LEVEL VARIABLES READ AS WHEN THE CALL BEGINS. Each datum BY PROGRAM (the guide's laid-datum.mjs) off the statement by which the dump's own 'gosem.cut.vars' lays the variable. In a bare row this is a premise. The card (YtbcfbkcadceniaaDoorCards.lean) ties it to the program's text. -/
def laid_loop_example_streambarrier_impl_errNoName {H : Type} : DataW H := .iface "*errors.errorString" (.ptr (.agg [.lit (.string [110, 111, 32, 110, 97, 109, 101, 32, 111, 102, 32, 97, 32, 115, 116, 114, 101, 97, 109])]))

/-- 'laws.FnCutsLeft': WHATEVER THE INPUT: true; the input reads as it did. -/
def fnCutsLeftSpec : ChangeSpec := { name := "fnCutsLeft", vars := ["loop.example/streambarrier/impl.errNoName"], fn := fun _ => fun
  | [d1, d2, g1] => { results := [.lit (.bool true)], args := [d1, d2], vars := [g1] }
  | _ => none }
def fnCutsLeftRow : OpenClaim := { program := "ytbcfbkcadceniaadoor", sum := "5aa02cb7cabb85bccdd4aa33ccd213028d033aee115fb4cd9aef2986c2e8eabf", func := "loop.example/streambarrier/laws.FnCutsLeft", spec := "fnCutsLeft", inPlace := ["internal/bytealg.IndexByteString", "internal/bytealg.IndexString", "internal/reflectlite.TypeOf"], unfollowed := true, recurses := true, named := ["loop.example/streambarrier/impl.errNoName", "internal/bytealg.MaxLen"], ifaces := true, apart := false, laid := [("loop.example/streambarrier/impl.errNoName", laid_loop_example_streambarrier_impl_errNoName)] }
def FnCutsLeftSaid : Prop := fnCutsLeftRow.holds Tryd.pinned (OpenSpec.ofChange fnCutsLeftSpec)

/-- ITS FALSE NEIGHBOUR: 'it returns false'. Refute it at one input. -/
def fnCutsLeftWrong : ChangeSpec := { name := "fnCutsLeft", vars := ["loop.example/streambarrier/impl.errNoName"], fn := fun _ => fun
  | [d1, d2, g1] => { results := [.lit (.bool false)], args := [d1, d2], vars := [g1] }
  | _ => none }
def FnCutsLeftWrongFalsely : Prop := fnCutsLeftRow.holds Tryd.pinned (OpenSpec.ofChange fnCutsLeftWrong)

/-- 'laws.FnCutsPart': WHATEVER THE INPUT: true; the input reads as it did. -/
def fnCutsPartSpec : ChangeSpec := { name := "fnCutsPart", vars := ["loop.example/streambarrier/impl.errNoName"], fn := fun _ => fun
  | [d1, d2, g1] => { results := [.lit (.bool true)], args := [d1, d2], vars := [g1] }
  | _ => none }
def fnCutsPartRow : OpenClaim := { program := "ytbcfbkcadceniaadoor", sum := "5aa02cb7cabb85bccdd4aa33ccd213028d033aee115fb4cd9aef2986c2e8eabf", func := "loop.example/streambarrier/laws.FnCutsPart", spec := "fnCutsPart", inPlace := ["internal/bytealg.IndexByteString", "internal/bytealg.IndexString", "internal/reflectlite.TypeOf"], unfollowed := true, recurses := true, named := ["loop.example/streambarrier/impl.errNoName", "internal/bytealg.MaxLen"], ifaces := true, apart := false, laid := [("loop.example/streambarrier/impl.errNoName", laid_loop_example_streambarrier_impl_errNoName)] }
def FnCutsPartSaid : Prop := fnCutsPartRow.holds Tryd.pinned (OpenSpec.ofChange fnCutsPartSpec)

/-- ITS FALSE NEIGHBOUR: 'it returns false'. Refute it at one input. -/
def fnCutsPartWrong : ChangeSpec := { name := "fnCutsPart", vars := ["loop.example/streambarrier/impl.errNoName"], fn := fun _ => fun
  | [d1, d2, g1] => { results := [.lit (.bool false)], args := [d1, d2], vars := [g1] }
  | _ => none }
def FnCutsPartWrongFalsely : Prop := fnCutsPartRow.holds Tryd.pinned (OpenSpec.ofChange fnCutsPartWrong)

/-- 'laws.FnCutsPut': WHATEVER THE INPUT: true; the input reads as it did. -/
def fnCutsPutSpec : ChangeSpec := { name := "fnCutsPut", vars := ["loop.example/streambarrier/impl.errNoName"], fn := fun _ => fun
  | [d, g1] => { results := [.lit (.bool true)], args := [d], vars := [g1] }
  | _ => none }
def fnCutsPutRow : OpenClaim := { program := "ytbcfbkcadceniaadoor", sum := "5aa02cb7cabb85bccdd4aa33ccd213028d033aee115fb4cd9aef2986c2e8eabf", func := "loop.example/streambarrier/laws.FnCutsPut", spec := "fnCutsPut", inPlace := ["internal/bytealg.IndexByteString", "internal/bytealg.IndexString", "internal/reflectlite.TypeOf", "slices.overlaps[loop.example/streambarrier/impl.Cut]"], unfollowed := true, recurses := true, named := ["loop.example/streambarrier/impl.errNoName", "internal/bytealg.MaxLen"], ifaces := true, apart := false, laid := [("loop.example/streambarrier/impl.errNoName", laid_loop_example_streambarrier_impl_errNoName)] }
def FnCutsPutSaid : Prop := fnCutsPutRow.holds Tryd.pinned (OpenSpec.ofChange fnCutsPutSpec)

/-- ITS FALSE NEIGHBOUR: 'it returns false'. Refute it at one input. -/
def fnCutsPutWrong : ChangeSpec := { name := "fnCutsPut", vars := ["loop.example/streambarrier/impl.errNoName"], fn := fun _ => fun
  | [d, g1] => { results := [.lit (.bool false)], args := [d], vars := [g1] }
  | _ => none }
def FnCutsPutWrongFalsely : Prop := fnCutsPutRow.holds Tryd.pinned (OpenSpec.ofChange fnCutsPutWrong)

/-- 'laws.FnCutsPutOthers': WHATEVER THE INPUT: true; the input reads as it did. -/
def fnCutsPutOthersSpec : ChangeSpec := { name := "fnCutsPutOthers", vars := ["loop.example/streambarrier/impl.errNoName"], fn := fun _ => fun
  | [d, g1] => { results := [.lit (.bool true)], args := [d], vars := [g1] }
  | _ => none }
def fnCutsPutOthersRow : OpenClaim := { program := "ytbcfbkcadceniaadoor", sum := "5aa02cb7cabb85bccdd4aa33ccd213028d033aee115fb4cd9aef2986c2e8eabf", func := "loop.example/streambarrier/laws.FnCutsPutOthers", spec := "fnCutsPutOthers", inPlace := ["internal/bytealg.IndexByteString", "internal/bytealg.IndexString", "internal/reflectlite.TypeOf", "slices.overlaps[loop.example/streambarrier/impl.Cut]"], unfollowed := true, recurses := true, named := ["loop.example/streambarrier/impl.errNoName", "internal/bytealg.MaxLen"], ifaces := true, apart := false, laid := [("loop.example/streambarrier/impl.errNoName", laid_loop_example_streambarrier_impl_errNoName)] }
def FnCutsPutOthersSaid : Prop := fnCutsPutOthersRow.holds Tryd.pinned (OpenSpec.ofChange fnCutsPutOthersSpec)

/-- ITS FALSE NEIGHBOUR: 'it returns false'. Refute it at one input. -/
def fnCutsPutOthersWrong : ChangeSpec := { name := "fnCutsPutOthers", vars := ["loop.example/streambarrier/impl.errNoName"], fn := fun _ => fun
  | [d, g1] => { results := [.lit (.bool false)], args := [d], vars := [g1] }
  | _ => none }
def FnCutsPutOthersWrongFalsely : Prop := fnCutsPutOthersRow.holds Tryd.pinned (OpenSpec.ofChange fnCutsPutOthersWrong)

/-- 'laws.FnFoldStream': WHATEVER THE INPUT: true; the input reads as it did. -/
def fnFoldStreamSpec : ChangeSpec := { name := "fnFoldStream", vars := ["loop.example/streambarrier/impl.errNoName"], fn := fun _ => fun
  | [d, g1] => { results := [.lit (.bool true)], args := [d], vars := [g1] }
  | _ => none }
def fnFoldStreamRow : OpenClaim := { program := "ytbcfbkcadceniaadoor", sum := "5aa02cb7cabb85bccdd4aa33ccd213028d033aee115fb4cd9aef2986c2e8eabf", func := "loop.example/streambarrier/laws.FnFoldStream", spec := "fnFoldStream", inPlace := ["internal/bytealg.IndexByteString", "internal/bytealg.IndexString", "internal/reflectlite.TypeOf"], unfollowed := true, recurses := true, named := ["loop.example/streambarrier/impl.errNoName", "internal/bytealg.MaxLen"], ifaces := true, apart := false, laid := [("loop.example/streambarrier/impl.errNoName", laid_loop_example_streambarrier_impl_errNoName)] }
def FnFoldStreamSaid : Prop := fnFoldStreamRow.holds Tryd.pinned (OpenSpec.ofChange fnFoldStreamSpec)

/-- ITS FALSE NEIGHBOUR: 'it returns false'. Refute it at one input. -/
def fnFoldStreamWrong : ChangeSpec := { name := "fnFoldStream", vars := ["loop.example/streambarrier/impl.errNoName"], fn := fun _ => fun
  | [d, g1] => { results := [.lit (.bool false)], args := [d], vars := [g1] }
  | _ => none }
def FnFoldStreamWrongFalsely : Prop := fnFoldStreamRow.holds Tryd.pinned (OpenSpec.ofChange fnFoldStreamWrong)

/-- 'laws.FnFoldStreamAll': WHATEVER THE INPUT: true; the input reads as it did. -/
def fnFoldStreamAllSpec : ChangeSpec := { name := "fnFoldStreamAll", vars := ["loop.example/streambarrier/impl.errNoName"], fn := fun _ => fun
  | [d1, d2, g1] => { results := [.lit (.bool true)], args := [d1, d2], vars := [g1] }
  | _ => none }
def fnFoldStreamAllRow : OpenClaim := { program := "ytbcfbkcadceniaadoor", sum := "5aa02cb7cabb85bccdd4aa33ccd213028d033aee115fb4cd9aef2986c2e8eabf", func := "loop.example/streambarrier/laws.FnFoldStreamAll", spec := "fnFoldStreamAll", inPlace := ["internal/bytealg.IndexByteString", "internal/bytealg.IndexString", "internal/reflectlite.TypeOf"], unfollowed := true, recurses := true, named := ["loop.example/streambarrier/impl.errNoName", "internal/bytealg.MaxLen"], ifaces := true, apart := false, laid := [("loop.example/streambarrier/impl.errNoName", laid_loop_example_streambarrier_impl_errNoName)] }
def FnFoldStreamAllSaid : Prop := fnFoldStreamAllRow.holds Tryd.pinned (OpenSpec.ofChange fnFoldStreamAllSpec)

/-- ITS FALSE NEIGHBOUR: 'it returns false'. Refute it at one input. -/
def fnFoldStreamAllWrong : ChangeSpec := { name := "fnFoldStreamAll", vars := ["loop.example/streambarrier/impl.errNoName"], fn := fun _ => fun
  | [d1, d2, g1] => { results := [.lit (.bool false)], args := [d1, d2], vars := [g1] }
  | _ => none }
def FnFoldStreamAllWrongFalsely : Prop := fnFoldStreamAllRow.holds Tryd.pinned (OpenSpec.ofChange fnFoldStreamAllWrong)

/-- 'laws.FnSubLeft': WHATEVER THE INPUT: true; the input reads as it did. -/
def fnSubLeftSpec : ChangeSpec := { name := "fnSubLeft", vars := ["loop.example/streambarrier/impl.errNoName"], fn := fun _ => fun
  | [d, g1] => { results := [.lit (.bool true)], args := [d], vars := [g1] }
  | _ => none }
def fnSubLeftRow : OpenClaim := { program := "ytbcfbkcadceniaadoor", sum := "5aa02cb7cabb85bccdd4aa33ccd213028d033aee115fb4cd9aef2986c2e8eabf", func := "loop.example/streambarrier/laws.FnSubLeft", spec := "fnSubLeft", inPlace := ["internal/bytealg.IndexByteString", "internal/bytealg.IndexString", "internal/reflectlite.TypeOf"], unfollowed := true, recurses := true, named := ["loop.example/streambarrier/impl.errNoName", "internal/bytealg.MaxLen"], ifaces := true, apart := false, laid := [("loop.example/streambarrier/impl.errNoName", laid_loop_example_streambarrier_impl_errNoName)] }
def FnSubLeftSaid : Prop := fnSubLeftRow.holds Tryd.pinned (OpenSpec.ofChange fnSubLeftSpec)

/-- ITS FALSE NEIGHBOUR: 'it returns false'. Refute it at one input. -/
def fnSubLeftWrong : ChangeSpec := { name := "fnSubLeft", vars := ["loop.example/streambarrier/impl.errNoName"], fn := fun _ => fun
  | [d, g1] => { results := [.lit (.bool false)], args := [d], vars := [g1] }
  | _ => none }
def FnSubLeftWrongFalsely : Prop := fnSubLeftRow.holds Tryd.pinned (OpenSpec.ofChange fnSubLeftWrong)

/-- 'laws.FnSubLeftAll': WHATEVER THE INPUT: true; the input reads as it did. -/
def fnSubLeftAllSpec : ChangeSpec := { name := "fnSubLeftAll", vars := ["loop.example/streambarrier/impl.errNoName"], fn := fun _ => fun
  | [d, g1] => { results := [.lit (.bool true)], args := [d], vars := [g1] }
  | _ => none }
def fnSubLeftAllRow : OpenClaim := { program := "ytbcfbkcadceniaadoor", sum := "5aa02cb7cabb85bccdd4aa33ccd213028d033aee115fb4cd9aef2986c2e8eabf", func := "loop.example/streambarrier/laws.FnSubLeftAll", spec := "fnSubLeftAll", inPlace := ["internal/bytealg.IndexByteString", "internal/bytealg.IndexString", "internal/reflectlite.TypeOf"], unfollowed := true, recurses := true, named := ["loop.example/streambarrier/impl.errNoName", "internal/bytealg.MaxLen"], ifaces := true, apart := false, laid := [("loop.example/streambarrier/impl.errNoName", laid_loop_example_streambarrier_impl_errNoName)] }
def FnSubLeftAllSaid : Prop := fnSubLeftAllRow.holds Tryd.pinned (OpenSpec.ofChange fnSubLeftAllSpec)

/-- ITS FALSE NEIGHBOUR: 'it returns false'. Refute it at one input. -/
def fnSubLeftAllWrong : ChangeSpec := { name := "fnSubLeftAll", vars := ["loop.example/streambarrier/impl.errNoName"], fn := fun _ => fun
  | [d, g1] => { results := [.lit (.bool false)], args := [d], vars := [g1] }
  | _ => none }
def FnSubLeftAllWrongFalsely : Prop := fnSubLeftAllRow.holds Tryd.pinned (OpenSpec.ofChange fnSubLeftAllWrong)

/-- 'laws.FnSubTake': WHATEVER THE INPUT: true; the input reads as it did. -/
def fnSubTakeSpec : ChangeSpec := { name := "fnSubTake", vars := ["loop.example/streambarrier/impl.errNoName"], fn := fun _ => fun
  | [d, g1] => { results := [.lit (.bool true)], args := [d], vars := [g1] }
  | _ => none }
def fnSubTakeRow : OpenClaim := { program := "ytbcfbkcadceniaadoor", sum := "5aa02cb7cabb85bccdd4aa33ccd213028d033aee115fb4cd9aef2986c2e8eabf", func := "loop.example/streambarrier/laws.FnSubTake", spec := "fnSubTake", inPlace := ["internal/bytealg.IndexByteString", "internal/bytealg.IndexString", "internal/reflectlite.TypeOf"], unfollowed := true, recurses := true, named := ["loop.example/streambarrier/impl.errNoName", "internal/bytealg.MaxLen"], ifaces := true, apart := false, laid := [("loop.example/streambarrier/impl.errNoName", laid_loop_example_streambarrier_impl_errNoName)] }
def FnSubTakeSaid : Prop := fnSubTakeRow.holds Tryd.pinned (OpenSpec.ofChange fnSubTakeSpec)

/-- ITS FALSE NEIGHBOUR: 'it returns false'. Refute it at one input. -/
def fnSubTakeWrong : ChangeSpec := { name := "fnSubTake", vars := ["loop.example/streambarrier/impl.errNoName"], fn := fun _ => fun
  | [d, g1] => { results := [.lit (.bool false)], args := [d], vars := [g1] }
  | _ => none }
def FnSubTakeWrongFalsely : Prop := fnSubTakeRow.holds Tryd.pinned (OpenSpec.ofChange fnSubTakeWrong)

/-- 'laws.FnSubTakeAll': WHATEVER THE INPUT: true; the input reads as it did. -/
def fnSubTakeAllSpec : ChangeSpec := { name := "fnSubTakeAll", vars := ["loop.example/streambarrier/impl.errNoName"], fn := fun _ => fun
  | [d, g1] => { results := [.lit (.bool true)], args := [d], vars := [g1] }
  | _ => none }
def fnSubTakeAllRow : OpenClaim := { program := "ytbcfbkcadceniaadoor", sum := "5aa02cb7cabb85bccdd4aa33ccd213028d033aee115fb4cd9aef2986c2e8eabf", func := "loop.example/streambarrier/laws.FnSubTakeAll", spec := "fnSubTakeAll", inPlace := ["internal/bytealg.IndexByteString", "internal/bytealg.IndexString", "internal/reflectlite.TypeOf"], unfollowed := true, recurses := true, named := ["loop.example/streambarrier/impl.errNoName", "internal/bytealg.MaxLen"], ifaces := true, apart := false, laid := [("loop.example/streambarrier/impl.errNoName", laid_loop_example_streambarrier_impl_errNoName)] }
def FnSubTakeAllSaid : Prop := fnSubTakeAllRow.holds Tryd.pinned (OpenSpec.ofChange fnSubTakeAllSpec)

/-- ITS FALSE NEIGHBOUR: 'it returns false'. Refute it at one input. -/
def fnSubTakeAllWrong : ChangeSpec := { name := "fnSubTakeAll", vars := ["loop.example/streambarrier/impl.errNoName"], fn := fun _ => fun
  | [d, g1] => { results := [.lit (.bool false)], args := [d], vars := [g1] }
  | _ => none }
def FnSubTakeAllWrongFalsely : Prop := fnSubTakeAllRow.holds Tryd.pinned (OpenSpec.ofChange fnSubTakeAllWrong)

/-- 'laws.FnSubTakeLeft': WHATEVER THE INPUT: true; the input reads as it did. -/
def fnSubTakeLeftSpec : ChangeSpec := { name := "fnSubTakeLeft", vars := ["loop.example/streambarrier/impl.errNoName"], fn := fun _ => fun
  | [d, g1] => { results := [.lit (.bool true)], args := [d], vars := [g1] }
  | _ => none }
def fnSubTakeLeftRow : OpenClaim := { program := "ytbcfbkcadceniaadoor", sum := "5aa02cb7cabb85bccdd4aa33ccd213028d033aee115fb4cd9aef2986c2e8eabf", func := "loop.example/streambarrier/laws.FnSubTakeLeft", spec := "fnSubTakeLeft", inPlace := ["internal/bytealg.IndexByteString", "internal/bytealg.IndexString", "internal/reflectlite.TypeOf"], unfollowed := true, recurses := true, named := ["loop.example/streambarrier/impl.errNoName", "internal/bytealg.MaxLen"], ifaces := true, apart := false, laid := [("loop.example/streambarrier/impl.errNoName", laid_loop_example_streambarrier_impl_errNoName)] }
def FnSubTakeLeftSaid : Prop := fnSubTakeLeftRow.holds Tryd.pinned (OpenSpec.ofChange fnSubTakeLeftSpec)

/-- ITS FALSE NEIGHBOUR: 'it returns false'. Refute it at one input. -/
def fnSubTakeLeftWrong : ChangeSpec := { name := "fnSubTakeLeft", vars := ["loop.example/streambarrier/impl.errNoName"], fn := fun _ => fun
  | [d, g1] => { results := [.lit (.bool false)], args := [d], vars := [g1] }
  | _ => none }
def FnSubTakeLeftWrongFalsely : Prop := fnSubTakeLeftRow.holds Tryd.pinned (OpenSpec.ofChange fnSubTakeLeftWrong)

/-- 'laws.FnSubTakeOn': WHATEVER THE INPUT: true; the input reads as it did. -/
def fnSubTakeOnSpec : ChangeSpec := { name := "fnSubTakeOn", vars := ["loop.example/streambarrier/impl.errNoName"], fn := fun _ => fun
  | [d1, d2, g1] => { results := [.lit (.bool true)], args := [d1, d2], vars := [g1] }
  | _ => none }
def fnSubTakeOnRow : OpenClaim := { program := "ytbcfbkcadceniaadoor", sum := "5aa02cb7cabb85bccdd4aa33ccd213028d033aee115fb4cd9aef2986c2e8eabf", func := "loop.example/streambarrier/laws.FnSubTakeOn", spec := "fnSubTakeOn", inPlace := ["internal/bytealg.IndexByteString", "internal/bytealg.IndexString", "internal/reflectlite.TypeOf"], unfollowed := true, recurses := true, named := ["loop.example/streambarrier/impl.errNoName", "internal/bytealg.MaxLen"], ifaces := true, apart := false, laid := [("loop.example/streambarrier/impl.errNoName", laid_loop_example_streambarrier_impl_errNoName)] }
def FnSubTakeOnSaid : Prop := fnSubTakeOnRow.holds Tryd.pinned (OpenSpec.ofChange fnSubTakeOnSpec)

/-- ITS FALSE NEIGHBOUR: 'it returns false'. Refute it at one input. -/
def fnSubTakeOnWrong : ChangeSpec := { name := "fnSubTakeOn", vars := ["loop.example/streambarrier/impl.errNoName"], fn := fun _ => fun
  | [d1, d2, g1] => { results := [.lit (.bool false)], args := [d1, d2], vars := [g1] }
  | _ => none }
def FnSubTakeOnWrongFalsely : Prop := fnSubTakeOnRow.holds Tryd.pinned (OpenSpec.ofChange fnSubTakeOnWrong)

/- THE SECOND FORM. 'bulk': how many values and letters a reading holds, each counted each time it is reached (what is shared counts as often as it is met; a slice's spare places count too). A statement '..UptoSaid' is the law's where the arguments, and the package variables that the reading takes, are together of bulk at most 1048576: NARROWER than '..Said'. Prove '..Said' where nothing that the law and all that it calls make is longer than what came in: it says more and counts as full. Else prove '..UptoSaid'. A law counts once. -/
mutual
def uptoBulk {H : Type} : DataW H → Nat
  | .lit (.string bytes) => bytes.length + 1
  | .lit _ => 1
  | .nil => 1
  | .ptr d => uptoBulk d + 1
  | .slice elems spare => uptoBulkAll elems + uptoBulkAll spare + 1
  | .agg parts => uptoBulkAll parts + 1
  | .iface _ d => uptoBulk d + 1
  | .map entries => uptoBulkEntries entries + 1
  | .held _ => 1
def uptoBulkAll {H : Type} : List (DataW H) → Nat
  | [] => 0
  | d :: r => uptoBulk d + uptoBulkAll r
def uptoBulkEntries {H : Type} : List (Lit × DataW H) → Nat
  | [] => 0
  | x :: r => uptoBulkEntry x + uptoBulkEntries r
def uptoBulkEntry {H : Type} : Lit × DataW H → Nat
  | (.string bytes, d) => bytes.length + uptoBulk d + 1
  | (_, d) => uptoBulk d + 1
 end
def uptoSmall : (H : Type) → List (DataW H) → Bool := fun _ ds => decide (uptoBulkAll ds ≤ 1048576)
def OpenSpec.upto (s : _root_.Go.ChangeSpec) : _root_.Go.OpenSpec := { _root_.Go.OpenSpec.ofChange s with cond := some uptoSmall }

/-- 'laws.FnCutsLeft', WHERE WHAT IT READS IS OF BULK AT MOST 1048576: true; the input reads as it did. -/
def fnCutsLeftUptoRow : OpenClaim := { program := "ytbcfbkcadceniaadoor", sum := "5aa02cb7cabb85bccdd4aa33ccd213028d033aee115fb4cd9aef2986c2e8eabf", func := "loop.example/streambarrier/laws.FnCutsLeft", spec := "fnCutsLeft", inPlace := ["internal/bytealg.IndexByteString", "internal/bytealg.IndexString", "internal/reflectlite.TypeOf"], unfollowed := true, recurses := true, named := ["loop.example/streambarrier/impl.errNoName", "internal/bytealg.MaxLen"], ifaces := true, apart := false, laid := [("loop.example/streambarrier/impl.errNoName", laid_loop_example_streambarrier_impl_errNoName)], narrowed := true }
def FnCutsLeftUptoSaid : Prop := fnCutsLeftUptoRow.holds Tryd.pinned (OpenSpec.upto fnCutsLeftSpec)

/-- 'laws.FnCutsPart', WHERE WHAT IT READS IS OF BULK AT MOST 1048576: true; the input reads as it did. -/
def fnCutsPartUptoRow : OpenClaim := { program := "ytbcfbkcadceniaadoor", sum := "5aa02cb7cabb85bccdd4aa33ccd213028d033aee115fb4cd9aef2986c2e8eabf", func := "loop.example/streambarrier/laws.FnCutsPart", spec := "fnCutsPart", inPlace := ["internal/bytealg.IndexByteString", "internal/bytealg.IndexString", "internal/reflectlite.TypeOf"], unfollowed := true, recurses := true, named := ["loop.example/streambarrier/impl.errNoName", "internal/bytealg.MaxLen"], ifaces := true, apart := false, laid := [("loop.example/streambarrier/impl.errNoName", laid_loop_example_streambarrier_impl_errNoName)], narrowed := true }
def FnCutsPartUptoSaid : Prop := fnCutsPartUptoRow.holds Tryd.pinned (OpenSpec.upto fnCutsPartSpec)

/-- 'laws.FnCutsPut', WHERE WHAT IT READS IS OF BULK AT MOST 1048576: true; the input reads as it did. -/
def fnCutsPutUptoRow : OpenClaim := { program := "ytbcfbkcadceniaadoor", sum := "5aa02cb7cabb85bccdd4aa33ccd213028d033aee115fb4cd9aef2986c2e8eabf", func := "loop.example/streambarrier/laws.FnCutsPut", spec := "fnCutsPut", inPlace := ["internal/bytealg.IndexByteString", "internal/bytealg.IndexString", "internal/reflectlite.TypeOf", "slices.overlaps[loop.example/streambarrier/impl.Cut]"], unfollowed := true, recurses := true, named := ["loop.example/streambarrier/impl.errNoName", "internal/bytealg.MaxLen"], ifaces := true, apart := false, laid := [("loop.example/streambarrier/impl.errNoName", laid_loop_example_streambarrier_impl_errNoName)], narrowed := true }
def FnCutsPutUptoSaid : Prop := fnCutsPutUptoRow.holds Tryd.pinned (OpenSpec.upto fnCutsPutSpec)

/-- 'laws.FnCutsPutOthers', WHERE WHAT IT READS IS OF BULK AT MOST 1048576: true; the input reads as it did. -/
def fnCutsPutOthersUptoRow : OpenClaim := { program := "ytbcfbkcadceniaadoor", sum := "5aa02cb7cabb85bccdd4aa33ccd213028d033aee115fb4cd9aef2986c2e8eabf", func := "loop.example/streambarrier/laws.FnCutsPutOthers", spec := "fnCutsPutOthers", inPlace := ["internal/bytealg.IndexByteString", "internal/bytealg.IndexString", "internal/reflectlite.TypeOf", "slices.overlaps[loop.example/streambarrier/impl.Cut]"], unfollowed := true, recurses := true, named := ["loop.example/streambarrier/impl.errNoName", "internal/bytealg.MaxLen"], ifaces := true, apart := false, laid := [("loop.example/streambarrier/impl.errNoName", laid_loop_example_streambarrier_impl_errNoName)], narrowed := true }
def FnCutsPutOthersUptoSaid : Prop := fnCutsPutOthersUptoRow.holds Tryd.pinned (OpenSpec.upto fnCutsPutOthersSpec)

/-- 'laws.FnFoldStream', WHERE WHAT IT READS IS OF BULK AT MOST 1048576: true; the input reads as it did. -/
def fnFoldStreamUptoRow : OpenClaim := { program := "ytbcfbkcadceniaadoor", sum := "5aa02cb7cabb85bccdd4aa33ccd213028d033aee115fb4cd9aef2986c2e8eabf", func := "loop.example/streambarrier/laws.FnFoldStream", spec := "fnFoldStream", inPlace := ["internal/bytealg.IndexByteString", "internal/bytealg.IndexString", "internal/reflectlite.TypeOf"], unfollowed := true, recurses := true, named := ["loop.example/streambarrier/impl.errNoName", "internal/bytealg.MaxLen"], ifaces := true, apart := false, laid := [("loop.example/streambarrier/impl.errNoName", laid_loop_example_streambarrier_impl_errNoName)], narrowed := true }
def FnFoldStreamUptoSaid : Prop := fnFoldStreamUptoRow.holds Tryd.pinned (OpenSpec.upto fnFoldStreamSpec)

/-- 'laws.FnFoldStreamAll', WHERE WHAT IT READS IS OF BULK AT MOST 1048576: true; the input reads as it did. -/
def fnFoldStreamAllUptoRow : OpenClaim := { program := "ytbcfbkcadceniaadoor", sum := "5aa02cb7cabb85bccdd4aa33ccd213028d033aee115fb4cd9aef2986c2e8eabf", func := "loop.example/streambarrier/laws.FnFoldStreamAll", spec := "fnFoldStreamAll", inPlace := ["internal/bytealg.IndexByteString", "internal/bytealg.IndexString", "internal/reflectlite.TypeOf"], unfollowed := true, recurses := true, named := ["loop.example/streambarrier/impl.errNoName", "internal/bytealg.MaxLen"], ifaces := true, apart := false, laid := [("loop.example/streambarrier/impl.errNoName", laid_loop_example_streambarrier_impl_errNoName)], narrowed := true }
def FnFoldStreamAllUptoSaid : Prop := fnFoldStreamAllUptoRow.holds Tryd.pinned (OpenSpec.upto fnFoldStreamAllSpec)

/-- 'laws.FnSubLeft', WHERE WHAT IT READS IS OF BULK AT MOST 1048576: true; the input reads as it did. -/
def fnSubLeftUptoRow : OpenClaim := { program := "ytbcfbkcadceniaadoor", sum := "5aa02cb7cabb85bccdd4aa33ccd213028d033aee115fb4cd9aef2986c2e8eabf", func := "loop.example/streambarrier/laws.FnSubLeft", spec := "fnSubLeft", inPlace := ["internal/bytealg.IndexByteString", "internal/bytealg.IndexString", "internal/reflectlite.TypeOf"], unfollowed := true, recurses := true, named := ["loop.example/streambarrier/impl.errNoName", "internal/bytealg.MaxLen"], ifaces := true, apart := false, laid := [("loop.example/streambarrier/impl.errNoName", laid_loop_example_streambarrier_impl_errNoName)], narrowed := true }
def FnSubLeftUptoSaid : Prop := fnSubLeftUptoRow.holds Tryd.pinned (OpenSpec.upto fnSubLeftSpec)

/-- 'laws.FnSubLeftAll', WHERE WHAT IT READS IS OF BULK AT MOST 1048576: true; the input reads as it did. -/
def fnSubLeftAllUptoRow : OpenClaim := { program := "ytbcfbkcadceniaadoor", sum := "5aa02cb7cabb85bccdd4aa33ccd213028d033aee115fb4cd9aef2986c2e8eabf", func := "loop.example/streambarrier/laws.FnSubLeftAll", spec := "fnSubLeftAll", inPlace := ["internal/bytealg.IndexByteString", "internal/bytealg.IndexString", "internal/reflectlite.TypeOf"], unfollowed := true, recurses := true, named := ["loop.example/streambarrier/impl.errNoName", "internal/bytealg.MaxLen"], ifaces := true, apart := false, laid := [("loop.example/streambarrier/impl.errNoName", laid_loop_example_streambarrier_impl_errNoName)], narrowed := true }
def FnSubLeftAllUptoSaid : Prop := fnSubLeftAllUptoRow.holds Tryd.pinned (OpenSpec.upto fnSubLeftAllSpec)

/-- 'laws.FnSubTake', WHERE WHAT IT READS IS OF BULK AT MOST 1048576: true; the input reads as it did. -/
def fnSubTakeUptoRow : OpenClaim := { program := "ytbcfbkcadceniaadoor", sum := "5aa02cb7cabb85bccdd4aa33ccd213028d033aee115fb4cd9aef2986c2e8eabf", func := "loop.example/streambarrier/laws.FnSubTake", spec := "fnSubTake", inPlace := ["internal/bytealg.IndexByteString", "internal/bytealg.IndexString", "internal/reflectlite.TypeOf"], unfollowed := true, recurses := true, named := ["loop.example/streambarrier/impl.errNoName", "internal/bytealg.MaxLen"], ifaces := true, apart := false, laid := [("loop.example/streambarrier/impl.errNoName", laid_loop_example_streambarrier_impl_errNoName)], narrowed := true }
def FnSubTakeUptoSaid : Prop := fnSubTakeUptoRow.holds Tryd.pinned (OpenSpec.upto fnSubTakeSpec)

/-- 'laws.FnSubTakeAll', WHERE WHAT IT READS IS OF BULK AT MOST 1048576: true; the input reads as it did. -/
def fnSubTakeAllUptoRow : OpenClaim := { program := "ytbcfbkcadceniaadoor", sum := "5aa02cb7cabb85bccdd4aa33ccd213028d033aee115fb4cd9aef2986c2e8eabf", func := "loop.example/streambarrier/laws.FnSubTakeAll", spec := "fnSubTakeAll", inPlace := ["internal/bytealg.IndexByteString", "internal/bytealg.IndexString", "internal/reflectlite.TypeOf"], unfollowed := true, recurses := true, named := ["loop.example/streambarrier/impl.errNoName", "internal/bytealg.MaxLen"], ifaces := true, apart := false, laid := [("loop.example/streambarrier/impl.errNoName", laid_loop_example_streambarrier_impl_errNoName)], narrowed := true }
def FnSubTakeAllUptoSaid : Prop := fnSubTakeAllUptoRow.holds Tryd.pinned (OpenSpec.upto fnSubTakeAllSpec)

/-- 'laws.FnSubTakeLeft', WHERE WHAT IT READS IS OF BULK AT MOST 1048576: true; the input reads as it did. -/
def fnSubTakeLeftUptoRow : OpenClaim := { program := "ytbcfbkcadceniaadoor", sum := "5aa02cb7cabb85bccdd4aa33ccd213028d033aee115fb4cd9aef2986c2e8eabf", func := "loop.example/streambarrier/laws.FnSubTakeLeft", spec := "fnSubTakeLeft", inPlace := ["internal/bytealg.IndexByteString", "internal/bytealg.IndexString", "internal/reflectlite.TypeOf"], unfollowed := true, recurses := true, named := ["loop.example/streambarrier/impl.errNoName", "internal/bytealg.MaxLen"], ifaces := true, apart := false, laid := [("loop.example/streambarrier/impl.errNoName", laid_loop_example_streambarrier_impl_errNoName)], narrowed := true }
def FnSubTakeLeftUptoSaid : Prop := fnSubTakeLeftUptoRow.holds Tryd.pinned (OpenSpec.upto fnSubTakeLeftSpec)

/-- 'laws.FnSubTakeOn', WHERE WHAT IT READS IS OF BULK AT MOST 1048576: true; the input reads as it did. -/
def fnSubTakeOnUptoRow : OpenClaim := { program := "ytbcfbkcadceniaadoor", sum := "5aa02cb7cabb85bccdd4aa33ccd213028d033aee115fb4cd9aef2986c2e8eabf", func := "loop.example/streambarrier/laws.FnSubTakeOn", spec := "fnSubTakeOn", inPlace := ["internal/bytealg.IndexByteString", "internal/bytealg.IndexString", "internal/reflectlite.TypeOf"], unfollowed := true, recurses := true, named := ["loop.example/streambarrier/impl.errNoName", "internal/bytealg.MaxLen"], ifaces := true, apart := false, laid := [("loop.example/streambarrier/impl.errNoName", laid_loop_example_streambarrier_impl_errNoName)], narrowed := true }
def FnSubTakeOnUptoSaid : Prop := fnSubTakeOnUptoRow.holds Tryd.pinned (OpenSpec.upto fnSubTakeOnSpec)

end Rows
end Go.Proofs.YtbcfbkcadceniaaDoor
