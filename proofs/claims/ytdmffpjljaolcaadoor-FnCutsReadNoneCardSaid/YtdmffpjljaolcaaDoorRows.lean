/-
  NARROWER THAN 'FOR EVERY INPUT', by the rows' own cells (each row's printed sentence says how): FnApart: ifaces, laid · FnApartBoth: ifaces, laid · FnCutsRead: ifaces, laid · FnCutsReadNone: ifaces, laid · FnFollow: ifaces, laid · FnFollowLeft: ifaces, laid · FnFollowLeftApart: ifaces, laid · FnFollowOn: ifaces, laid · FnMend: ifaces, laid · FnMendApart: ifaces, laid · FnWas: ifaces, laid · FnWasAny: ifaces, laid.
  DERIVED. THE GIVEN ROWS OF THIS SEAT. 12 by the template 'for every input the law returns true; each argument reads behind the call as it read before'; 0 by the template 'total and deterministic' (their statements: YtdmffpjljaolcaaDoorTotals.lean).
  GIVEN WITH THE SEED: the statements are not yours to turn. If you find one false, say at which input.
  Laid BY PROGRAM, IN A SANDBOX (cutbox-rows.mjs): the forced cells as the released guide's own fill.sh prints them over the translation 1dff8a0b7f1a914e… (all of the seat's roots in one cut). By AI agents, Wed Nov 11 2026. No macro, syntax, notation, axiom, sorry.
-/
import Derived.Test.YtdmffpjljaolcaaDoorChecked
import GoSem.Claim
import GoSem.ClaimJoined
import GoSem.ClaimMapViews
import Derived.JoinedTies
import Derived.KernelRfl
namespace Go.Proofs.YtdmffpjljaolcaaDoor
/- THE CELL 'sum', in the pinned program and in every row, IS THE sha256 OF THE DUMP (.gsa) THAT YtdmffpjljaolcaaDoorProg.lean LOADS. Nothing in Lean hashes anything: it is a label: what it is worth is what the hold of that sum in a sandbox is worth. -/
noncomputable def Tryd.pinned : Pinned := { name := "ytdmffpjljaolcaadoor", sum := "1dff8a0b7f1a914e50ceadab8512f6ff0fb8c92f75fe0e7b5a56a2ad9f156dc6", checked := Tryd.checked }
namespace Rows
def none {H : Type} : Left H := { results := [], args := [] }

/- WHAT THE LISTED PACKAGE-LEVEL VARIABLES READ AS WHEN THE CALL BEGINS. Each datum BY PROGRAM (the guide's laid-datum.mjs) off the statement by which the dump's own 'gosem.cut.vars' lays the variable. In a bare row this is a premise. The card (YtdmffpjljaolcaaDoorCards.lean) ties it to the program's text. -/
def laid_loop_example_streambarrier_impl_errNoName {H : Type} : DataW H := .iface "*errors.errorString" (.ptr (.agg [.lit (.string [110, 111, 32, 110, 97, 109, 101, 32, 111, 102, 32, 97, 32, 115, 116, 114, 101, 97, 109])]))

/-- 'laws.FnApart': WHATEVER THE INPUT: true; the input reads as it did. -/
def fnApartSpec : ChangeSpec := { name := "fnApart", vars := ["loop.example/streambarrier/impl.errNoName"], fn := fun _ => fun
  | [d, g1] => { results := [.lit (.bool true)], args := [d], vars := [g1] }
  | _ => none }
def fnApartRow : OpenClaim := { program := "ytdmffpjljaolcaadoor", sum := "1dff8a0b7f1a914e50ceadab8512f6ff0fb8c92f75fe0e7b5a56a2ad9f156dc6", func := "loop.example/streambarrier/laws.FnApart", spec := "fnApart", inPlace := ["internal/bytealg.IndexByteString", "internal/bytealg.IndexString", "internal/reflectlite.TypeOf"], unfollowed := true, recurses := true, named := ["loop.example/streambarrier/impl.errNoName", "internal/bytealg.MaxLen"], ifaces := true, apart := false, laid := [("loop.example/streambarrier/impl.errNoName", laid_loop_example_streambarrier_impl_errNoName)] }
def FnApartSaid : Prop := fnApartRow.holds Tryd.pinned (OpenSpec.ofChange fnApartSpec)

/-- ITS FALSE NEIGHBOUR: 'it returns false'. Refute it at one input. -/
def fnApartWrong : ChangeSpec := { name := "fnApart", vars := ["loop.example/streambarrier/impl.errNoName"], fn := fun _ => fun
  | [d, g1] => { results := [.lit (.bool false)], args := [d], vars := [g1] }
  | _ => none }
def FnApartWrongFalsely : Prop := fnApartRow.holds Tryd.pinned (OpenSpec.ofChange fnApartWrong)

/-- 'laws.FnApartBoth': WHATEVER THE INPUT: true; the input reads as it did. -/
def fnApartBothSpec : ChangeSpec := { name := "fnApartBoth", vars := ["loop.example/streambarrier/impl.errNoName"], fn := fun _ => fun
  | [d, g1] => { results := [.lit (.bool true)], args := [d], vars := [g1] }
  | _ => none }
def fnApartBothRow : OpenClaim := { program := "ytdmffpjljaolcaadoor", sum := "1dff8a0b7f1a914e50ceadab8512f6ff0fb8c92f75fe0e7b5a56a2ad9f156dc6", func := "loop.example/streambarrier/laws.FnApartBoth", spec := "fnApartBoth", inPlace := ["internal/bytealg.IndexByteString", "internal/bytealg.IndexString", "internal/reflectlite.TypeOf"], unfollowed := true, recurses := true, named := ["loop.example/streambarrier/impl.errNoName", "internal/bytealg.MaxLen"], ifaces := true, apart := false, laid := [("loop.example/streambarrier/impl.errNoName", laid_loop_example_streambarrier_impl_errNoName)] }
def FnApartBothSaid : Prop := fnApartBothRow.holds Tryd.pinned (OpenSpec.ofChange fnApartBothSpec)

/-- ITS FALSE NEIGHBOUR: 'it returns false'. Refute it at one input. -/
def fnApartBothWrong : ChangeSpec := { name := "fnApartBoth", vars := ["loop.example/streambarrier/impl.errNoName"], fn := fun _ => fun
  | [d, g1] => { results := [.lit (.bool false)], args := [d], vars := [g1] }
  | _ => none }
def FnApartBothWrongFalsely : Prop := fnApartBothRow.holds Tryd.pinned (OpenSpec.ofChange fnApartBothWrong)

/-- 'laws.FnCutsRead': WHATEVER THE INPUT: true; the input reads as it did. -/
def fnCutsReadSpec : ChangeSpec := { name := "fnCutsRead", vars := ["loop.example/streambarrier/impl.errNoName"], fn := fun _ => fun
  | [d, g1] => { results := [.lit (.bool true)], args := [d], vars := [g1] }
  | _ => none }
def fnCutsReadRow : OpenClaim := { program := "ytdmffpjljaolcaadoor", sum := "1dff8a0b7f1a914e50ceadab8512f6ff0fb8c92f75fe0e7b5a56a2ad9f156dc6", func := "loop.example/streambarrier/laws.FnCutsRead", spec := "fnCutsRead", inPlace := ["internal/bytealg.IndexByteString", "internal/bytealg.IndexString", "internal/reflectlite.TypeOf"], unfollowed := true, recurses := true, named := ["loop.example/streambarrier/impl.errNoName", "internal/bytealg.MaxLen"], ifaces := true, apart := false, laid := [("loop.example/streambarrier/impl.errNoName", laid_loop_example_streambarrier_impl_errNoName)] }
def FnCutsReadSaid : Prop := fnCutsReadRow.holds Tryd.pinned (OpenSpec.ofChange fnCutsReadSpec)

/-- ITS FALSE NEIGHBOUR: 'it returns false'. Refute it at one input. -/
def fnCutsReadWrong : ChangeSpec := { name := "fnCutsRead", vars := ["loop.example/streambarrier/impl.errNoName"], fn := fun _ => fun
  | [d, g1] => { results := [.lit (.bool false)], args := [d], vars := [g1] }
  | _ => none }
def FnCutsReadWrongFalsely : Prop := fnCutsReadRow.holds Tryd.pinned (OpenSpec.ofChange fnCutsReadWrong)

/-- 'laws.FnCutsReadNone': WHATEVER THE INPUT: true; the input reads as it did. -/
def fnCutsReadNoneSpec : ChangeSpec := { name := "fnCutsReadNone", vars := ["loop.example/streambarrier/impl.errNoName"], fn := fun _ => fun
  | [d, g1] => { results := [.lit (.bool true)], args := [d], vars := [g1] }
  | _ => none }
def fnCutsReadNoneRow : OpenClaim := { program := "ytdmffpjljaolcaadoor", sum := "1dff8a0b7f1a914e50ceadab8512f6ff0fb8c92f75fe0e7b5a56a2ad9f156dc6", func := "loop.example/streambarrier/laws.FnCutsReadNone", spec := "fnCutsReadNone", inPlace := ["internal/bytealg.IndexByteString", "internal/bytealg.IndexString", "internal/reflectlite.TypeOf"], unfollowed := true, recurses := true, named := ["loop.example/streambarrier/impl.errNoName", "internal/bytealg.MaxLen"], ifaces := true, apart := false, laid := [("loop.example/streambarrier/impl.errNoName", laid_loop_example_streambarrier_impl_errNoName)] }
def FnCutsReadNoneSaid : Prop := fnCutsReadNoneRow.holds Tryd.pinned (OpenSpec.ofChange fnCutsReadNoneSpec)

/-- ITS FALSE NEIGHBOUR: 'it returns false'. Refute it at one input. -/
def fnCutsReadNoneWrong : ChangeSpec := { name := "fnCutsReadNone", vars := ["loop.example/streambarrier/impl.errNoName"], fn := fun _ => fun
  | [d, g1] => { results := [.lit (.bool false)], args := [d], vars := [g1] }
  | _ => none }
def FnCutsReadNoneWrongFalsely : Prop := fnCutsReadNoneRow.holds Tryd.pinned (OpenSpec.ofChange fnCutsReadNoneWrong)

/-- 'laws.FnFollow': WHATEVER THE INPUT: true; the input reads as it did. -/
def fnFollowSpec : ChangeSpec := { name := "fnFollow", vars := ["loop.example/streambarrier/impl.errNoName"], fn := fun _ => fun
  | [d, g1] => { results := [.lit (.bool true)], args := [d], vars := [g1] }
  | _ => none }
def fnFollowRow : OpenClaim := { program := "ytdmffpjljaolcaadoor", sum := "1dff8a0b7f1a914e50ceadab8512f6ff0fb8c92f75fe0e7b5a56a2ad9f156dc6", func := "loop.example/streambarrier/laws.FnFollow", spec := "fnFollow", inPlace := ["internal/bytealg.IndexByteString", "internal/bytealg.IndexString", "internal/reflectlite.TypeOf"], unfollowed := true, recurses := true, named := ["loop.example/streambarrier/impl.errNoName", "internal/bytealg.MaxLen"], ifaces := true, apart := false, laid := [("loop.example/streambarrier/impl.errNoName", laid_loop_example_streambarrier_impl_errNoName)] }
def FnFollowSaid : Prop := fnFollowRow.holds Tryd.pinned (OpenSpec.ofChange fnFollowSpec)

/-- ITS FALSE NEIGHBOUR: 'it returns false'. Refute it at one input. -/
def fnFollowWrong : ChangeSpec := { name := "fnFollow", vars := ["loop.example/streambarrier/impl.errNoName"], fn := fun _ => fun
  | [d, g1] => { results := [.lit (.bool false)], args := [d], vars := [g1] }
  | _ => none }
def FnFollowWrongFalsely : Prop := fnFollowRow.holds Tryd.pinned (OpenSpec.ofChange fnFollowWrong)

/-- 'laws.FnFollowLeft': WHATEVER THE INPUT: true; the input reads as it did. -/
def fnFollowLeftSpec : ChangeSpec := { name := "fnFollowLeft", vars := ["loop.example/streambarrier/impl.errNoName"], fn := fun _ => fun
  | [d, g1] => { results := [.lit (.bool true)], args := [d], vars := [g1] }
  | _ => none }
def fnFollowLeftRow : OpenClaim := { program := "ytdmffpjljaolcaadoor", sum := "1dff8a0b7f1a914e50ceadab8512f6ff0fb8c92f75fe0e7b5a56a2ad9f156dc6", func := "loop.example/streambarrier/laws.FnFollowLeft", spec := "fnFollowLeft", inPlace := ["internal/bytealg.IndexByteString", "internal/bytealg.IndexString", "internal/reflectlite.TypeOf"], unfollowed := true, recurses := true, named := ["loop.example/streambarrier/impl.errNoName", "internal/bytealg.MaxLen"], ifaces := true, apart := false, laid := [("loop.example/streambarrier/impl.errNoName", laid_loop_example_streambarrier_impl_errNoName)] }
def FnFollowLeftSaid : Prop := fnFollowLeftRow.holds Tryd.pinned (OpenSpec.ofChange fnFollowLeftSpec)

/-- ITS FALSE NEIGHBOUR: 'it returns false'. Refute it at one input. -/
def fnFollowLeftWrong : ChangeSpec := { name := "fnFollowLeft", vars := ["loop.example/streambarrier/impl.errNoName"], fn := fun _ => fun
  | [d, g1] => { results := [.lit (.bool false)], args := [d], vars := [g1] }
  | _ => none }
def FnFollowLeftWrongFalsely : Prop := fnFollowLeftRow.holds Tryd.pinned (OpenSpec.ofChange fnFollowLeftWrong)

/-- 'laws.FnFollowLeftApart': WHATEVER THE INPUT: true; the input reads as it did. -/
def fnFollowLeftApartSpec : ChangeSpec := { name := "fnFollowLeftApart", vars := ["loop.example/streambarrier/impl.errNoName"], fn := fun _ => fun
  | [d, g1] => { results := [.lit (.bool true)], args := [d], vars := [g1] }
  | _ => none }
def fnFollowLeftApartRow : OpenClaim := { program := "ytdmffpjljaolcaadoor", sum := "1dff8a0b7f1a914e50ceadab8512f6ff0fb8c92f75fe0e7b5a56a2ad9f156dc6", func := "loop.example/streambarrier/laws.FnFollowLeftApart", spec := "fnFollowLeftApart", inPlace := ["internal/bytealg.IndexByteString", "internal/bytealg.IndexString", "internal/reflectlite.TypeOf"], unfollowed := true, recurses := true, named := ["loop.example/streambarrier/impl.errNoName", "internal/bytealg.MaxLen"], ifaces := true, apart := false, laid := [("loop.example/streambarrier/impl.errNoName", laid_loop_example_streambarrier_impl_errNoName)] }
def FnFollowLeftApartSaid : Prop := fnFollowLeftApartRow.holds Tryd.pinned (OpenSpec.ofChange fnFollowLeftApartSpec)

/-- ITS FALSE NEIGHBOUR: 'it returns false'. Refute it at one input. -/
def fnFollowLeftApartWrong : ChangeSpec := { name := "fnFollowLeftApart", vars := ["loop.example/streambarrier/impl.errNoName"], fn := fun _ => fun
  | [d, g1] => { results := [.lit (.bool false)], args := [d], vars := [g1] }
  | _ => none }
def FnFollowLeftApartWrongFalsely : Prop := fnFollowLeftApartRow.holds Tryd.pinned (OpenSpec.ofChange fnFollowLeftApartWrong)

/-- 'laws.FnFollowOn': WHATEVER THE INPUT: true; the input reads as it did. -/
def fnFollowOnSpec : ChangeSpec := { name := "fnFollowOn", vars := ["loop.example/streambarrier/impl.errNoName"], fn := fun _ => fun
  | [d1, d2, g1] => { results := [.lit (.bool true)], args := [d1, d2], vars := [g1] }
  | _ => none }
def fnFollowOnRow : OpenClaim := { program := "ytdmffpjljaolcaadoor", sum := "1dff8a0b7f1a914e50ceadab8512f6ff0fb8c92f75fe0e7b5a56a2ad9f156dc6", func := "loop.example/streambarrier/laws.FnFollowOn", spec := "fnFollowOn", inPlace := ["internal/bytealg.IndexByteString", "internal/bytealg.IndexString", "internal/reflectlite.TypeOf"], unfollowed := true, recurses := true, named := ["loop.example/streambarrier/impl.errNoName", "internal/bytealg.MaxLen"], ifaces := true, apart := false, laid := [("loop.example/streambarrier/impl.errNoName", laid_loop_example_streambarrier_impl_errNoName)] }
def FnFollowOnSaid : Prop := fnFollowOnRow.holds Tryd.pinned (OpenSpec.ofChange fnFollowOnSpec)

/-- ITS FALSE NEIGHBOUR: 'it returns false'. Refute it at one input. -/
def fnFollowOnWrong : ChangeSpec := { name := "fnFollowOn", vars := ["loop.example/streambarrier/impl.errNoName"], fn := fun _ => fun
  | [d1, d2, g1] => { results := [.lit (.bool false)], args := [d1, d2], vars := [g1] }
  | _ => none }
def FnFollowOnWrongFalsely : Prop := fnFollowOnRow.holds Tryd.pinned (OpenSpec.ofChange fnFollowOnWrong)

/-- 'laws.FnMend': WHATEVER THE INPUT: true; the input reads as it did. -/
def fnMendSpec : ChangeSpec := { name := "fnMend", vars := ["loop.example/streambarrier/impl.errNoName"], fn := fun _ => fun
  | [d, g1] => { results := [.lit (.bool true)], args := [d], vars := [g1] }
  | _ => none }
def fnMendRow : OpenClaim := { program := "ytdmffpjljaolcaadoor", sum := "1dff8a0b7f1a914e50ceadab8512f6ff0fb8c92f75fe0e7b5a56a2ad9f156dc6", func := "loop.example/streambarrier/laws.FnMend", spec := "fnMend", inPlace := ["internal/bytealg.IndexByteString", "internal/bytealg.IndexString", "internal/reflectlite.TypeOf"], unfollowed := true, recurses := true, named := ["loop.example/streambarrier/impl.errNoName", "internal/bytealg.MaxLen"], ifaces := true, apart := false, laid := [("loop.example/streambarrier/impl.errNoName", laid_loop_example_streambarrier_impl_errNoName)] }
def FnMendSaid : Prop := fnMendRow.holds Tryd.pinned (OpenSpec.ofChange fnMendSpec)

/-- ITS FALSE NEIGHBOUR: 'it returns false'. Refute it at one input. -/
def fnMendWrong : ChangeSpec := { name := "fnMend", vars := ["loop.example/streambarrier/impl.errNoName"], fn := fun _ => fun
  | [d, g1] => { results := [.lit (.bool false)], args := [d], vars := [g1] }
  | _ => none }
def FnMendWrongFalsely : Prop := fnMendRow.holds Tryd.pinned (OpenSpec.ofChange fnMendWrong)

/-- 'laws.FnMendApart': WHATEVER THE INPUT: true; the input reads as it did. -/
def fnMendApartSpec : ChangeSpec := { name := "fnMendApart", vars := ["loop.example/streambarrier/impl.errNoName"], fn := fun _ => fun
  | [d, g1] => { results := [.lit (.bool true)], args := [d], vars := [g1] }
  | _ => none }
def fnMendApartRow : OpenClaim := { program := "ytdmffpjljaolcaadoor", sum := "1dff8a0b7f1a914e50ceadab8512f6ff0fb8c92f75fe0e7b5a56a2ad9f156dc6", func := "loop.example/streambarrier/laws.FnMendApart", spec := "fnMendApart", inPlace := ["internal/bytealg.IndexByteString", "internal/bytealg.IndexString", "internal/reflectlite.TypeOf"], unfollowed := true, recurses := true, named := ["loop.example/streambarrier/impl.errNoName", "internal/bytealg.MaxLen"], ifaces := true, apart := false, laid := [("loop.example/streambarrier/impl.errNoName", laid_loop_example_streambarrier_impl_errNoName)] }
def FnMendApartSaid : Prop := fnMendApartRow.holds Tryd.pinned (OpenSpec.ofChange fnMendApartSpec)

/-- ITS FALSE NEIGHBOUR: 'it returns false'. Refute it at one input. -/
def fnMendApartWrong : ChangeSpec := { name := "fnMendApart", vars := ["loop.example/streambarrier/impl.errNoName"], fn := fun _ => fun
  | [d, g1] => { results := [.lit (.bool false)], args := [d], vars := [g1] }
  | _ => none }
def FnMendApartWrongFalsely : Prop := fnMendApartRow.holds Tryd.pinned (OpenSpec.ofChange fnMendApartWrong)

/-- 'laws.FnWas': WHATEVER THE INPUT: true; the input reads as it did. -/
def fnWasSpec : ChangeSpec := { name := "fnWas", vars := ["loop.example/streambarrier/impl.errNoName"], fn := fun _ => fun
  | [d, g1] => { results := [.lit (.bool true)], args := [d], vars := [g1] }
  | _ => none }
def fnWasRow : OpenClaim := { program := "ytdmffpjljaolcaadoor", sum := "1dff8a0b7f1a914e50ceadab8512f6ff0fb8c92f75fe0e7b5a56a2ad9f156dc6", func := "loop.example/streambarrier/laws.FnWas", spec := "fnWas", inPlace := ["internal/bytealg.IndexByteString", "internal/bytealg.IndexString", "internal/reflectlite.TypeOf"], unfollowed := true, recurses := true, named := ["loop.example/streambarrier/impl.errNoName", "internal/bytealg.MaxLen"], ifaces := true, apart := false, laid := [("loop.example/streambarrier/impl.errNoName", laid_loop_example_streambarrier_impl_errNoName)] }
def FnWasSaid : Prop := fnWasRow.holds Tryd.pinned (OpenSpec.ofChange fnWasSpec)

/-- ITS FALSE NEIGHBOUR: 'it returns false'. Refute it at one input. -/
def fnWasWrong : ChangeSpec := { name := "fnWas", vars := ["loop.example/streambarrier/impl.errNoName"], fn := fun _ => fun
  | [d, g1] => { results := [.lit (.bool false)], args := [d], vars := [g1] }
  | _ => none }
def FnWasWrongFalsely : Prop := fnWasRow.holds Tryd.pinned (OpenSpec.ofChange fnWasWrong)

/-- 'laws.FnWasAny': WHATEVER THE INPUT: true; the input reads as it did. -/
def fnWasAnySpec : ChangeSpec := { name := "fnWasAny", vars := ["loop.example/streambarrier/impl.errNoName"], fn := fun _ => fun
  | [d1, d2, g1] => { results := [.lit (.bool true)], args := [d1, d2], vars := [g1] }
  | _ => none }
def fnWasAnyRow : OpenClaim := { program := "ytdmffpjljaolcaadoor", sum := "1dff8a0b7f1a914e50ceadab8512f6ff0fb8c92f75fe0e7b5a56a2ad9f156dc6", func := "loop.example/streambarrier/laws.FnWasAny", spec := "fnWasAny", inPlace := ["internal/bytealg.IndexByteString", "internal/bytealg.IndexString", "internal/reflectlite.TypeOf"], unfollowed := true, recurses := true, named := ["loop.example/streambarrier/impl.errNoName", "internal/bytealg.MaxLen"], ifaces := true, apart := false, laid := [("loop.example/streambarrier/impl.errNoName", laid_loop_example_streambarrier_impl_errNoName)] }
def FnWasAnySaid : Prop := fnWasAnyRow.holds Tryd.pinned (OpenSpec.ofChange fnWasAnySpec)

/-- ITS FALSE NEIGHBOUR: 'it returns false'. Refute it at one input. -/
def fnWasAnyWrong : ChangeSpec := { name := "fnWasAny", vars := ["loop.example/streambarrier/impl.errNoName"], fn := fun _ => fun
  | [d1, d2, g1] => { results := [.lit (.bool false)], args := [d1, d2], vars := [g1] }
  | _ => none }
def FnWasAnyWrongFalsely : Prop := fnWasAnyRow.holds Tryd.pinned (OpenSpec.ofChange fnWasAnyWrong)

/- THE SECOND FORM. 'bulk': how many values and letters a reading holds, each counted each time it is reached (what is shared counts as often as it is met; a slice's spare places count too). A statement '..UptoSaid' is the law's where the arguments, and the package variables that the reading takes, are together of bulk at most 1048576: NARROWER than '..Said'. Prove '..Said' where nothing that the law and all that it calls make is longer than what came in: it says more and counts as full. Else prove '..UptoSaid'. A law counts once. -/
mutual
def uptoBulk {H : Type} : DataW H → Nat
  | .lit (.string bytes) => bytes.length + 1
  | .lit _ => 1
  | .nil => 1
  | .ptr d => uptoBulk d + 1
  | .slice elems spare => uptoBulkAll elems + uptoBulkAll spare + 1
  | .agg parts => uptoBulkAll parts + 1
  | .iface _ d => uptoBulk d + 1
  | .map entries => uptoBulkEntries entries + 1
  | .held _ => 1
def uptoBulkAll {H : Type} : List (DataW H) → Nat
  | [] => 0
  | d :: r => uptoBulk d + uptoBulkAll r
def uptoBulkEntries {H : Type} : List (Lit × DataW H) → Nat
  | [] => 0
  | x :: r => uptoBulkEntry x + uptoBulkEntries r
def uptoBulkEntry {H : Type} : Lit × DataW H → Nat
  | (.string bytes, d) => bytes.length + uptoBulk d + 1
  | (_, d) => uptoBulk d + 1
 end
def uptoSmall : (H : Type) → List (DataW H) → Bool := fun _ ds => decide (uptoBulkAll ds ≤ 1048576)
def OpenSpec.upto (s : _root_.Go.ChangeSpec) : _root_.Go.OpenSpec := { _root_.Go.OpenSpec.ofChange s with cond := some uptoSmall }

/-- 'laws.FnApart', WHERE WHAT IT READS IS OF BULK AT MOST 1048576: true; the input reads as it did. -/
def fnApartUptoRow : OpenClaim := { program := "ytdmffpjljaolcaadoor", sum := "1dff8a0b7f1a914e50ceadab8512f6ff0fb8c92f75fe0e7b5a56a2ad9f156dc6", func := "loop.example/streambarrier/laws.FnApart", spec := "fnApart", inPlace := ["internal/bytealg.IndexByteString", "internal/bytealg.IndexString", "internal/reflectlite.TypeOf"], unfollowed := true, recurses := true, named := ["loop.example/streambarrier/impl.errNoName", "internal/bytealg.MaxLen"], ifaces := true, apart := false, laid := [("loop.example/streambarrier/impl.errNoName", laid_loop_example_streambarrier_impl_errNoName)], narrowed := true }
def FnApartUptoSaid : Prop := fnApartUptoRow.holds Tryd.pinned (OpenSpec.upto fnApartSpec)

/-- 'laws.FnApartBoth', WHERE WHAT IT READS IS OF BULK AT MOST 1048576: true; the input reads as it did. -/
def fnApartBothUptoRow : OpenClaim := { program := "ytdmffpjljaolcaadoor", sum := "1dff8a0b7f1a914e50ceadab8512f6ff0fb8c92f75fe0e7b5a56a2ad9f156dc6", func := "loop.example/streambarrier/laws.FnApartBoth", spec := "fnApartBoth", inPlace := ["internal/bytealg.IndexByteString", "internal/bytealg.IndexString", "internal/reflectlite.TypeOf"], unfollowed := true, recurses := true, named := ["loop.example/streambarrier/impl.errNoName", "internal/bytealg.MaxLen"], ifaces := true, apart := false, laid := [("loop.example/streambarrier/impl.errNoName", laid_loop_example_streambarrier_impl_errNoName)], narrowed := true }
def FnApartBothUptoSaid : Prop := fnApartBothUptoRow.holds Tryd.pinned (OpenSpec.upto fnApartBothSpec)

/-- 'laws.FnCutsRead', WHERE WHAT IT READS IS OF BULK AT MOST 1048576: true; the input reads as it did. -/
def fnCutsReadUptoRow : OpenClaim := { program := "ytdmffpjljaolcaadoor", sum := "1dff8a0b7f1a914e50ceadab8512f6ff0fb8c92f75fe0e7b5a56a2ad9f156dc6", func := "loop.example/streambarrier/laws.FnCutsRead", spec := "fnCutsRead", inPlace := ["internal/bytealg.IndexByteString", "internal/bytealg.IndexString", "internal/reflectlite.TypeOf"], unfollowed := true, recurses := true, named := ["loop.example/streambarrier/impl.errNoName", "internal/bytealg.MaxLen"], ifaces := true, apart := false, laid := [("loop.example/streambarrier/impl.errNoName", laid_loop_example_streambarrier_impl_errNoName)], narrowed := true }
def FnCutsReadUptoSaid : Prop := fnCutsReadUptoRow.holds Tryd.pinned (OpenSpec.upto fnCutsReadSpec)

/-- 'laws.FnCutsReadNone', WHERE WHAT IT READS IS OF BULK AT MOST 1048576: true; the input reads as it did. -/
def fnCutsReadNoneUptoRow : OpenClaim := { program := "ytdmffpjljaolcaadoor", sum := "1dff8a0b7f1a914e50ceadab8512f6ff0fb8c92f75fe0e7b5a56a2ad9f156dc6", func := "loop.example/streambarrier/laws.FnCutsReadNone", spec := "fnCutsReadNone", inPlace := ["internal/bytealg.IndexByteString", "internal/bytealg.IndexString", "internal/reflectlite.TypeOf"], unfollowed := true, recurses := true, named := ["loop.example/streambarrier/impl.errNoName", "internal/bytealg.MaxLen"], ifaces := true, apart := false, laid := [("loop.example/streambarrier/impl.errNoName", laid_loop_example_streambarrier_impl_errNoName)], narrowed := true }
def FnCutsReadNoneUptoSaid : Prop := fnCutsReadNoneUptoRow.holds Tryd.pinned (OpenSpec.upto fnCutsReadNoneSpec)

/-- 'laws.FnFollow', WHERE WHAT IT READS IS OF BULK AT MOST 1048576: true; the input reads as it did. -/
def fnFollowUptoRow : OpenClaim := { program := "ytdmffpjljaolcaadoor", sum := "1dff8a0b7f1a914e50ceadab8512f6ff0fb8c92f75fe0e7b5a56a2ad9f156dc6", func := "loop.example/streambarrier/laws.FnFollow", spec := "fnFollow", inPlace := ["internal/bytealg.IndexByteString", "internal/bytealg.IndexString", "internal/reflectlite.TypeOf"], unfollowed := true, recurses := true, named := ["loop.example/streambarrier/impl.errNoName", "internal/bytealg.MaxLen"], ifaces := true, apart := false, laid := [("loop.example/streambarrier/impl.errNoName", laid_loop_example_streambarrier_impl_errNoName)], narrowed := true }
def FnFollowUptoSaid : Prop := fnFollowUptoRow.holds Tryd.pinned (OpenSpec.upto fnFollowSpec)

/-- 'laws.FnFollowLeft', WHERE WHAT IT READS IS OF BULK AT MOST 1048576: true; the input reads as it did. -/
def fnFollowLeftUptoRow : OpenClaim := { program := "ytdmffpjljaolcaadoor", sum := "1dff8a0b7f1a914e50ceadab8512f6ff0fb8c92f75fe0e7b5a56a2ad9f156dc6", func := "loop.example/streambarrier/laws.FnFollowLeft", spec := "fnFollowLeft", inPlace := ["internal/bytealg.IndexByteString", "internal/bytealg.IndexString", "internal/reflectlite.TypeOf"], unfollowed := true, recurses := true, named := ["loop.example/streambarrier/impl.errNoName", "internal/bytealg.MaxLen"], ifaces := true, apart := false, laid := [("loop.example/streambarrier/impl.errNoName", laid_loop_example_streambarrier_impl_errNoName)], narrowed := true }
def FnFollowLeftUptoSaid : Prop := fnFollowLeftUptoRow.holds Tryd.pinned (OpenSpec.upto fnFollowLeftSpec)

/-- 'laws.FnFollowLeftApart', WHERE WHAT IT READS IS OF BULK AT MOST 1048576: true; the input reads as it did. -/
def fnFollowLeftApartUptoRow : OpenClaim := { program := "ytdmffpjljaolcaadoor", sum := "1dff8a0b7f1a914e50ceadab8512f6ff0fb8c92f75fe0e7b5a56a2ad9f156dc6", func := "loop.example/streambarrier/laws.FnFollowLeftApart", spec := "fnFollowLeftApart", inPlace := ["internal/bytealg.IndexByteString", "internal/bytealg.IndexString", "internal/reflectlite.TypeOf"], unfollowed := true, recurses := true, named := ["loop.example/streambarrier/impl.errNoName", "internal/bytealg.MaxLen"], ifaces := true, apart := false, laid := [("loop.example/streambarrier/impl.errNoName", laid_loop_example_streambarrier_impl_errNoName)], narrowed := true }
def FnFollowLeftApartUptoSaid : Prop := fnFollowLeftApartUptoRow.holds Tryd.pinned (OpenSpec.upto fnFollowLeftApartSpec)

/-- 'laws.FnFollowOn', WHERE WHAT IT READS IS OF BULK AT MOST 1048576: true; the input reads as it did. -/
def fnFollowOnUptoRow : OpenClaim := { program := "ytdmffpjljaolcaadoor", sum := "1dff8a0b7f1a914e50ceadab8512f6ff0fb8c92f75fe0e7b5a56a2ad9f156dc6", func := "loop.example/streambarrier/laws.FnFollowOn", spec := "fnFollowOn", inPlace := ["internal/bytealg.IndexByteString", "internal/bytealg.IndexString", "internal/reflectlite.TypeOf"], unfollowed := true, recurses := true, named := ["loop.example/streambarrier/impl.errNoName", "internal/bytealg.MaxLen"], ifaces := true, apart := false, laid := [("loop.example/streambarrier/impl.errNoName", laid_loop_example_streambarrier_impl_errNoName)], narrowed := true }
def FnFollowOnUptoSaid : Prop := fnFollowOnUptoRow.holds Tryd.pinned (OpenSpec.upto fnFollowOnSpec)

/-- 'laws.FnMend', WHERE WHAT IT READS IS OF BULK AT MOST 1048576: true; the input reads as it did. -/
def fnMendUptoRow : OpenClaim := { program := "ytdmffpjljaolcaadoor", sum := "1dff8a0b7f1a914e50ceadab8512f6ff0fb8c92f75fe0e7b5a56a2ad9f156dc6", func := "loop.example/streambarrier/laws.FnMend", spec := "fnMend", inPlace := ["internal/bytealg.IndexByteString", "internal/bytealg.IndexString", "internal/reflectlite.TypeOf"], unfollowed := true, recurses := true, named := ["loop.example/streambarrier/impl.errNoName", "internal/bytealg.MaxLen"], ifaces := true, apart := false, laid := [("loop.example/streambarrier/impl.errNoName", laid_loop_example_streambarrier_impl_errNoName)], narrowed := true }
def FnMendUptoSaid : Prop := fnMendUptoRow.holds Tryd.pinned (OpenSpec.upto fnMendSpec)

/-- 'laws.FnMendApart', WHERE WHAT IT READS IS OF BULK AT MOST 1048576: true; the input reads as it did. -/
def fnMendApartUptoRow : OpenClaim := { program := "ytdmffpjljaolcaadoor", sum := "1dff8a0b7f1a914e50ceadab8512f6ff0fb8c92f75fe0e7b5a56a2ad9f156dc6", func := "loop.example/streambarrier/laws.FnMendApart", spec := "fnMendApart", inPlace := ["internal/bytealg.IndexByteString", "internal/bytealg.IndexString", "internal/reflectlite.TypeOf"], unfollowed := true, recurses := true, named := ["loop.example/streambarrier/impl.errNoName", "internal/bytealg.MaxLen"], ifaces := true, apart := false, laid := [("loop.example/streambarrier/impl.errNoName", laid_loop_example_streambarrier_impl_errNoName)], narrowed := true }
def FnMendApartUptoSaid : Prop := fnMendApartUptoRow.holds Tryd.pinned (OpenSpec.upto fnMendApartSpec)

/-- 'laws.FnWas', WHERE WHAT IT READS IS OF BULK AT MOST 1048576: true; the input reads as it did. -/
def fnWasUptoRow : OpenClaim := { program := "ytdmffpjljaolcaadoor", sum := "1dff8a0b7f1a914e50ceadab8512f6ff0fb8c92f75fe0e7b5a56a2ad9f156dc6", func := "loop.example/streambarrier/laws.FnWas", spec := "fnWas", inPlace := ["internal/bytealg.IndexByteString", "internal/bytealg.IndexString", "internal/reflectlite.TypeOf"], unfollowed := true, recurses := true, named := ["loop.example/streambarrier/impl.errNoName", "internal/bytealg.MaxLen"], ifaces := true, apart := false, laid := [("loop.example/streambarrier/impl.errNoName", laid_loop_example_streambarrier_impl_errNoName)], narrowed := true }
def FnWasUptoSaid : Prop := fnWasUptoRow.holds Tryd.pinned (OpenSpec.upto fnWasSpec)

/-- 'laws.FnWasAny', WHERE WHAT IT READS IS OF BULK AT MOST 1048576: true; the input reads as it did. -/
def fnWasAnyUptoRow : OpenClaim := { program := "ytdmffpjljaolcaadoor", sum := "1dff8a0b7f1a914e50ceadab8512f6ff0fb8c92f75fe0e7b5a56a2ad9f156dc6", func := "loop.example/streambarrier/laws.FnWasAny", spec := "fnWasAny", inPlace := ["internal/bytealg.IndexByteString", "internal/bytealg.IndexString", "internal/reflectlite.TypeOf"], unfollowed := true, recurses := true, named := ["loop.example/streambarrier/impl.errNoName", "internal/bytealg.MaxLen"], ifaces := true, apart := false, laid := [("loop.example/streambarrier/impl.errNoName", laid_loop_example_streambarrier_impl_errNoName)], narrowed := true }
def FnWasAnyUptoSaid : Prop := fnWasAnyUptoRow.holds Tryd.pinned (OpenSpec.upto fnWasAnySpec)

end Rows
end Go.Proofs.YtdmffpjljaolcaaDoor
