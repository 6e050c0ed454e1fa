/-
  NARROWER THAN 'FOR EVERY INPUT', by the rows' own cells (each row's printed sentence says how): FnWrite: ifaces, laid · FnStorePart: ifaces, laid · FnWriteAgain: ifaces, laid · FnAll: ifaces, laid · FnVersion: ifaces, laid · FnRead: ifaces, laid · FnWriteFine: ifaces, laid · FnReadOrder: ifaces, laid · FnFindNone: ifaces, laid · FnFind: ifaces, laid · FnAppend: ifaces, laid · FnAppendTwo: ifaces, laid.
  DERIVED. THE GIVEN ROWS OF THIS SEAT. 12 by the template 'for every input the law returns true; each argument reads behind the call as it read before'; 0 by the template 'total and deterministic' (their statements: YtihgdebfjoooeaaDoorTotals.lean).
  GIVEN WITH THE SEED: the statements are not yours to turn. If you find one false, say at which input.
  Laid BY PROGRAM, IN A SANDBOX (cutbox-rows.mjs): the forced cells as the released guide's own fill.sh prints them over the translation 1ceb86169a06a0c7… (all of the seat's roots in one cut). By AI agents, Wed Nov 11 2026. No macro, syntax, notation, axiom, sorry.
-/
import Derived.Test.YtihgdebfjoooeaaDoorChecked
import GoSem.Claim
import GoSem.ClaimJoined
import GoSem.ClaimMapViews
import Derived.JoinedTies
import Derived.KernelRfl
namespace Go.Proofs.YtihgdebfjoooeaaDoor
/- THE CELL 'sum', in the pinned program and in every row, IS THE sha256 OF THE DUMP (.gsa) THAT YtihgdebfjoooeaaDoorProg.lean LOADS. Nothing in Lean hashes anything: it is a label: what it is worth is what the hold of that sum in a sandbox is worth. -/
noncomputable def Tryd.pinned : Pinned := { name := "ytihgdebfjoooeaadoor", sum := "1ceb86169a06a0c7e7a14c66d8009d0336212817624215e3f5749ff45ee687a1", checked := Tryd.checked }
namespace Rows
def none {H : Type} : Left H := { results := [], args := [] }

/- WHAT THE LISTED PACKAGE-LEVEL VARIABLES READ AS WHEN THE CALL BEGINS. Each datum BY PROGRAM (the guide's laid-datum.mjs) off the statement by which the dump's own 'gosem.cut.vars' lays the variable. In a bare row this is a premise. The card (YtihgdebfjoooeaaDoorCards.lean) ties it to the program's text. -/
def laid_loop_example_streambarrier_impl_errNoName {H : Type} : DataW H := .iface "*errors.errorString" (.ptr (.agg [.lit (.string [110, 111, 32, 110, 97, 109, 101, 32, 111, 102, 32, 97, 32, 115, 116, 114, 101, 97, 109])]))

/-- 'laws.FnWrite': WHATEVER THE INPUT: true; the input reads as it did. -/
def fnWriteSpec : ChangeSpec := { name := "fnWrite", vars := ["loop.example/streambarrier/impl.errNoName"], fn := fun _ => fun
  | [d, g1] => { results := [.lit (.bool true)], args := [d], vars := [g1] }
  | _ => none }
def fnWriteRow : OpenClaim := { program := "ytihgdebfjoooeaadoor", sum := "1ceb86169a06a0c7e7a14c66d8009d0336212817624215e3f5749ff45ee687a1", func := "loop.example/streambarrier/laws.FnWrite", spec := "fnWrite", inPlace := ["internal/bytealg.IndexByteString", "internal/bytealg.IndexString", "internal/reflectlite.TypeOf"], unfollowed := true, recurses := true, named := ["loop.example/streambarrier/impl.errNoName", "internal/bytealg.MaxLen"], ifaces := true, apart := false, laid := [("loop.example/streambarrier/impl.errNoName", laid_loop_example_streambarrier_impl_errNoName)] }
def FnWriteSaid : Prop := fnWriteRow.holds Tryd.pinned (OpenSpec.ofChange fnWriteSpec)

/-- ITS FALSE NEIGHBOUR: 'it returns false'. Refute it at one input. -/
def fnWriteWrong : ChangeSpec := { name := "fnWrite", vars := ["loop.example/streambarrier/impl.errNoName"], fn := fun _ => fun
  | [d, g1] => { results := [.lit (.bool false)], args := [d], vars := [g1] }
  | _ => none }
def FnWriteWrongFalsely : Prop := fnWriteRow.holds Tryd.pinned (OpenSpec.ofChange fnWriteWrong)

/-- 'laws.FnStorePart': WHATEVER THE INPUT: true; the input reads as it did. -/
def fnStorePartSpec : ChangeSpec := { name := "fnStorePart", vars := ["loop.example/streambarrier/impl.errNoName"], fn := fun _ => fun
  | [d1, d2, g1] => { results := [.lit (.bool true)], args := [d1, d2], vars := [g1] }
  | _ => none }
def fnStorePartRow : OpenClaim := { program := "ytihgdebfjoooeaadoor", sum := "1ceb86169a06a0c7e7a14c66d8009d0336212817624215e3f5749ff45ee687a1", func := "loop.example/streambarrier/laws.FnStorePart", spec := "fnStorePart", inPlace := ["internal/bytealg.IndexByteString", "internal/bytealg.IndexString", "internal/reflectlite.TypeOf"], unfollowed := true, recurses := true, named := ["loop.example/streambarrier/impl.errNoName", "internal/bytealg.MaxLen"], ifaces := true, apart := false, laid := [("loop.example/streambarrier/impl.errNoName", laid_loop_example_streambarrier_impl_errNoName)] }
def FnStorePartSaid : Prop := fnStorePartRow.holds Tryd.pinned (OpenSpec.ofChange fnStorePartSpec)

/-- ITS FALSE NEIGHBOUR: 'it returns false'. Refute it at one input. -/
def fnStorePartWrong : ChangeSpec := { name := "fnStorePart", vars := ["loop.example/streambarrier/impl.errNoName"], fn := fun _ => fun
  | [d1, d2, g1] => { results := [.lit (.bool false)], args := [d1, d2], vars := [g1] }
  | _ => none }
def FnStorePartWrongFalsely : Prop := fnStorePartRow.holds Tryd.pinned (OpenSpec.ofChange fnStorePartWrong)

/-- 'laws.FnWriteAgain': WHATEVER THE INPUT: true; the input reads as it did. -/
def fnWriteAgainSpec : ChangeSpec := { name := "fnWriteAgain", vars := ["loop.example/streambarrier/impl.errNoName"], fn := fun _ => fun
  | [d, g1] => { results := [.lit (.bool true)], args := [d], vars := [g1] }
  | _ => none }
def fnWriteAgainRow : OpenClaim := { program := "ytihgdebfjoooeaadoor", sum := "1ceb86169a06a0c7e7a14c66d8009d0336212817624215e3f5749ff45ee687a1", func := "loop.example/streambarrier/laws.FnWriteAgain", spec := "fnWriteAgain", inPlace := ["internal/bytealg.IndexByteString", "internal/bytealg.IndexString", "internal/reflectlite.TypeOf"], unfollowed := true, recurses := true, named := ["loop.example/streambarrier/impl.errNoName", "internal/bytealg.MaxLen"], ifaces := true, apart := false, laid := [("loop.example/streambarrier/impl.errNoName", laid_loop_example_streambarrier_impl_errNoName)] }
def FnWriteAgainSaid : Prop := fnWriteAgainRow.holds Tryd.pinned (OpenSpec.ofChange fnWriteAgainSpec)

/-- ITS FALSE NEIGHBOUR: 'it returns false'. Refute it at one input. -/
def fnWriteAgainWrong : ChangeSpec := { name := "fnWriteAgain", vars := ["loop.example/streambarrier/impl.errNoName"], fn := fun _ => fun
  | [d, g1] => { results := [.lit (.bool false)], args := [d], vars := [g1] }
  | _ => none }
def FnWriteAgainWrongFalsely : Prop := fnWriteAgainRow.holds Tryd.pinned (OpenSpec.ofChange fnWriteAgainWrong)

/-- 'laws.FnAll': WHATEVER THE INPUT: true; the input reads as it did. -/
def fnAllSpec : ChangeSpec := { name := "fnAll", vars := ["loop.example/streambarrier/impl.errNoName"], fn := fun _ => fun
  | [d, g1] => { results := [.lit (.bool true)], args := [d], vars := [g1] }
  | _ => none }
def fnAllRow : OpenClaim := { program := "ytihgdebfjoooeaadoor", sum := "1ceb86169a06a0c7e7a14c66d8009d0336212817624215e3f5749ff45ee687a1", func := "loop.example/streambarrier/laws.FnAll", spec := "fnAll", inPlace := ["internal/bytealg.IndexByteString", "internal/bytealg.IndexString", "internal/reflectlite.TypeOf"], unfollowed := true, recurses := true, named := ["loop.example/streambarrier/impl.errNoName", "internal/bytealg.MaxLen"], ifaces := true, apart := false, laid := [("loop.example/streambarrier/impl.errNoName", laid_loop_example_streambarrier_impl_errNoName)] }
def FnAllSaid : Prop := fnAllRow.holds Tryd.pinned (OpenSpec.ofChange fnAllSpec)

/-- ITS FALSE NEIGHBOUR: 'it returns false'. Refute it at one input. -/
def fnAllWrong : ChangeSpec := { name := "fnAll", vars := ["loop.example/streambarrier/impl.errNoName"], fn := fun _ => fun
  | [d, g1] => { results := [.lit (.bool false)], args := [d], vars := [g1] }
  | _ => none }
def FnAllWrongFalsely : Prop := fnAllRow.holds Tryd.pinned (OpenSpec.ofChange fnAllWrong)

/-- 'laws.FnVersion': WHATEVER THE INPUT: true; the input reads as it did. -/
def fnVersionSpec : ChangeSpec := { name := "fnVersion", vars := ["loop.example/streambarrier/impl.errNoName"], fn := fun _ => fun
  | [d, g1] => { results := [.lit (.bool true)], args := [d], vars := [g1] }
  | _ => none }
def fnVersionRow : OpenClaim := { program := "ytihgdebfjoooeaadoor", sum := "1ceb86169a06a0c7e7a14c66d8009d0336212817624215e3f5749ff45ee687a1", func := "loop.example/streambarrier/laws.FnVersion", spec := "fnVersion", inPlace := ["internal/bytealg.IndexByteString", "internal/bytealg.IndexString", "internal/reflectlite.TypeOf"], unfollowed := true, recurses := true, named := ["loop.example/streambarrier/impl.errNoName", "internal/bytealg.MaxLen"], ifaces := true, apart := false, laid := [("loop.example/streambarrier/impl.errNoName", laid_loop_example_streambarrier_impl_errNoName)] }
def FnVersionSaid : Prop := fnVersionRow.holds Tryd.pinned (OpenSpec.ofChange fnVersionSpec)

/-- ITS FALSE NEIGHBOUR: 'it returns false'. Refute it at one input. -/
def fnVersionWrong : ChangeSpec := { name := "fnVersion", vars := ["loop.example/streambarrier/impl.errNoName"], fn := fun _ => fun
  | [d, g1] => { results := [.lit (.bool false)], args := [d], vars := [g1] }
  | _ => none }
def FnVersionWrongFalsely : Prop := fnVersionRow.holds Tryd.pinned (OpenSpec.ofChange fnVersionWrong)

/-- 'laws.FnRead': WHATEVER THE INPUT: true; the input reads as it did. -/
def fnReadSpec : ChangeSpec := { name := "fnRead", vars := ["loop.example/streambarrier/impl.errNoName"], fn := fun _ => fun
  | [d1, d2, g1] => { results := [.lit (.bool true)], args := [d1, d2], vars := [g1] }
  | _ => none }
def fnReadRow : OpenClaim := { program := "ytihgdebfjoooeaadoor", sum := "1ceb86169a06a0c7e7a14c66d8009d0336212817624215e3f5749ff45ee687a1", func := "loop.example/streambarrier/laws.FnRead", spec := "fnRead", inPlace := ["internal/bytealg.IndexByteString", "internal/bytealg.IndexString", "internal/reflectlite.TypeOf"], unfollowed := true, recurses := true, named := ["loop.example/streambarrier/impl.errNoName", "internal/bytealg.MaxLen"], ifaces := true, apart := false, laid := [("loop.example/streambarrier/impl.errNoName", laid_loop_example_streambarrier_impl_errNoName)] }
def FnReadSaid : Prop := fnReadRow.holds Tryd.pinned (OpenSpec.ofChange fnReadSpec)

/-- ITS FALSE NEIGHBOUR: 'it returns false'. Refute it at one input. -/
def fnReadWrong : ChangeSpec := { name := "fnRead", vars := ["loop.example/streambarrier/impl.errNoName"], fn := fun _ => fun
  | [d1, d2, g1] => { results := [.lit (.bool false)], args := [d1, d2], vars := [g1] }
  | _ => none }
def FnReadWrongFalsely : Prop := fnReadRow.holds Tryd.pinned (OpenSpec.ofChange fnReadWrong)

/-- 'laws.FnWriteFine': WHATEVER THE INPUT: true; the input reads as it did. -/
def fnWriteFineSpec : ChangeSpec := { name := "fnWriteFine", vars := ["loop.example/streambarrier/impl.errNoName"], fn := fun _ => fun
  | [d, g1] => { results := [.lit (.bool true)], args := [d], vars := [g1] }
  | _ => none }
def fnWriteFineRow : OpenClaim := { program := "ytihgdebfjoooeaadoor", sum := "1ceb86169a06a0c7e7a14c66d8009d0336212817624215e3f5749ff45ee687a1", func := "loop.example/streambarrier/laws.FnWriteFine", spec := "fnWriteFine", inPlace := ["internal/bytealg.IndexByteString", "internal/bytealg.IndexString", "internal/reflectlite.TypeOf"], unfollowed := true, recurses := true, named := ["loop.example/streambarrier/impl.errNoName", "internal/bytealg.MaxLen"], ifaces := true, apart := false, laid := [("loop.example/streambarrier/impl.errNoName", laid_loop_example_streambarrier_impl_errNoName)] }
def FnWriteFineSaid : Prop := fnWriteFineRow.holds Tryd.pinned (OpenSpec.ofChange fnWriteFineSpec)

/-- ITS FALSE NEIGHBOUR: 'it returns false'. Refute it at one input. -/
def fnWriteFineWrong : ChangeSpec := { name := "fnWriteFine", vars := ["loop.example/streambarrier/impl.errNoName"], fn := fun _ => fun
  | [d, g1] => { results := [.lit (.bool false)], args := [d], vars := [g1] }
  | _ => none }
def FnWriteFineWrongFalsely : Prop := fnWriteFineRow.holds Tryd.pinned (OpenSpec.ofChange fnWriteFineWrong)

/-- 'laws.FnReadOrder': WHATEVER THE INPUT: true; the input reads as it did. -/
def fnReadOrderSpec : ChangeSpec := { name := "fnReadOrder", vars := ["loop.example/streambarrier/impl.errNoName"], fn := fun _ => fun
  | [d, g1] => { results := [.lit (.bool true)], args := [d], vars := [g1] }
  | _ => none }
def fnReadOrderRow : OpenClaim := { program := "ytihgdebfjoooeaadoor", sum := "1ceb86169a06a0c7e7a14c66d8009d0336212817624215e3f5749ff45ee687a1", func := "loop.example/streambarrier/laws.FnReadOrder", spec := "fnReadOrder", inPlace := ["internal/bytealg.IndexByteString", "internal/bytealg.IndexString", "internal/reflectlite.TypeOf"], unfollowed := true, recurses := true, named := ["loop.example/streambarrier/impl.errNoName", "internal/bytealg.MaxLen"], ifaces := true, apart := false, laid := [("loop.example/streambarrier/impl.errNoName", laid_loop_example_streambarrier_impl_errNoName)] }
def FnReadOrderSaid : Prop := fnReadOrderRow.holds Tryd.pinned (OpenSpec.ofChange fnReadOrderSpec)

/-- ITS FALSE NEIGHBOUR: 'it returns false'. Refute it at one input. -/
def fnReadOrderWrong : ChangeSpec := { name := "fnReadOrder", vars := ["loop.example/streambarrier/impl.errNoName"], fn := fun _ => fun
  | [d, g1] => { results := [.lit (.bool false)], args := [d], vars := [g1] }
  | _ => none }
def FnReadOrderWrongFalsely : Prop := fnReadOrderRow.holds Tryd.pinned (OpenSpec.ofChange fnReadOrderWrong)

/-- 'laws.FnFindNone': WHATEVER THE INPUT: true; the input reads as it did. -/
def fnFindNoneSpec : ChangeSpec := { name := "fnFindNone", vars := ["loop.example/streambarrier/impl.errNoName"], fn := fun _ => fun
  | [d, g1] => { results := [.lit (.bool true)], args := [d], vars := [g1] }
  | _ => none }
def fnFindNoneRow : OpenClaim := { program := "ytihgdebfjoooeaadoor", sum := "1ceb86169a06a0c7e7a14c66d8009d0336212817624215e3f5749ff45ee687a1", func := "loop.example/streambarrier/laws.FnFindNone", spec := "fnFindNone", inPlace := ["internal/bytealg.IndexByteString", "internal/bytealg.IndexString", "internal/reflectlite.TypeOf"], unfollowed := true, recurses := true, named := ["loop.example/streambarrier/impl.errNoName", "internal/bytealg.MaxLen"], ifaces := true, apart := false, laid := [("loop.example/streambarrier/impl.errNoName", laid_loop_example_streambarrier_impl_errNoName)] }
def FnFindNoneSaid : Prop := fnFindNoneRow.holds Tryd.pinned (OpenSpec.ofChange fnFindNoneSpec)

/-- ITS FALSE NEIGHBOUR: 'it returns false'. Refute it at one input. -/
def fnFindNoneWrong : ChangeSpec := { name := "fnFindNone", vars := ["loop.example/streambarrier/impl.errNoName"], fn := fun _ => fun
  | [d, g1] => { results := [.lit (.bool false)], args := [d], vars := [g1] }
  | _ => none }
def FnFindNoneWrongFalsely : Prop := fnFindNoneRow.holds Tryd.pinned (OpenSpec.ofChange fnFindNoneWrong)

/-- 'laws.FnFind': WHATEVER THE INPUT: true; the input reads as it did. -/
def fnFindSpec : ChangeSpec := { name := "fnFind", vars := ["loop.example/streambarrier/impl.errNoName"], fn := fun _ => fun
  | [d, g1] => { results := [.lit (.bool true)], args := [d], vars := [g1] }
  | _ => none }
def fnFindRow : OpenClaim := { program := "ytihgdebfjoooeaadoor", sum := "1ceb86169a06a0c7e7a14c66d8009d0336212817624215e3f5749ff45ee687a1", func := "loop.example/streambarrier/laws.FnFind", spec := "fnFind", inPlace := ["internal/bytealg.IndexByteString", "internal/bytealg.IndexString", "internal/reflectlite.TypeOf"], unfollowed := true, recurses := true, named := ["loop.example/streambarrier/impl.errNoName", "internal/bytealg.MaxLen"], ifaces := true, apart := false, laid := [("loop.example/streambarrier/impl.errNoName", laid_loop_example_streambarrier_impl_errNoName)] }
def FnFindSaid : Prop := fnFindRow.holds Tryd.pinned (OpenSpec.ofChange fnFindSpec)

/-- ITS FALSE NEIGHBOUR: 'it returns false'. Refute it at one input. -/
def fnFindWrong : ChangeSpec := { name := "fnFind", vars := ["loop.example/streambarrier/impl.errNoName"], fn := fun _ => fun
  | [d, g1] => { results := [.lit (.bool false)], args := [d], vars := [g1] }
  | _ => none }
def FnFindWrongFalsely : Prop := fnFindRow.holds Tryd.pinned (OpenSpec.ofChange fnFindWrong)

/-- 'laws.FnAppend': WHATEVER THE INPUT: true; the input reads as it did. -/
def fnAppendSpec : ChangeSpec := { name := "fnAppend", vars := ["loop.example/streambarrier/impl.errNoName"], fn := fun _ => fun
  | [d, g1] => { results := [.lit (.bool true)], args := [d], vars := [g1] }
  | _ => none }
def fnAppendRow : OpenClaim := { program := "ytihgdebfjoooeaadoor", sum := "1ceb86169a06a0c7e7a14c66d8009d0336212817624215e3f5749ff45ee687a1", func := "loop.example/streambarrier/laws.FnAppend", spec := "fnAppend", inPlace := ["internal/bytealg.IndexByteString", "internal/bytealg.IndexString", "internal/reflectlite.TypeOf"], unfollowed := true, recurses := true, named := ["loop.example/streambarrier/impl.errNoName", "internal/bytealg.MaxLen"], ifaces := true, apart := false, laid := [("loop.example/streambarrier/impl.errNoName", laid_loop_example_streambarrier_impl_errNoName)] }
def FnAppendSaid : Prop := fnAppendRow.holds Tryd.pinned (OpenSpec.ofChange fnAppendSpec)

/-- ITS FALSE NEIGHBOUR: 'it returns false'. Refute it at one input. -/
def fnAppendWrong : ChangeSpec := { name := "fnAppend", vars := ["loop.example/streambarrier/impl.errNoName"], fn := fun _ => fun
  | [d, g1] => { results := [.lit (.bool false)], args := [d], vars := [g1] }
  | _ => none }
def FnAppendWrongFalsely : Prop := fnAppendRow.holds Tryd.pinned (OpenSpec.ofChange fnAppendWrong)

/-- 'laws.FnAppendTwo': WHATEVER THE INPUT: true; the input reads as it did. -/
def fnAppendTwoSpec : ChangeSpec := { name := "fnAppendTwo", vars := ["loop.example/streambarrier/impl.errNoName"], fn := fun _ => fun
  | [d, g1] => { results := [.lit (.bool true)], args := [d], vars := [g1] }
  | _ => none }
def fnAppendTwoRow : OpenClaim := { program := "ytihgdebfjoooeaadoor", sum := "1ceb86169a06a0c7e7a14c66d8009d0336212817624215e3f5749ff45ee687a1", func := "loop.example/streambarrier/laws.FnAppendTwo", spec := "fnAppendTwo", inPlace := ["internal/bytealg.IndexByteString", "internal/bytealg.IndexString", "internal/reflectlite.TypeOf"], unfollowed := true, recurses := true, named := ["loop.example/streambarrier/impl.errNoName", "internal/bytealg.MaxLen"], ifaces := true, apart := false, laid := [("loop.example/streambarrier/impl.errNoName", laid_loop_example_streambarrier_impl_errNoName)] }
def FnAppendTwoSaid : Prop := fnAppendTwoRow.holds Tryd.pinned (OpenSpec.ofChange fnAppendTwoSpec)

/-- ITS FALSE NEIGHBOUR: 'it returns false'. Refute it at one input. -/
def fnAppendTwoWrong : ChangeSpec := { name := "fnAppendTwo", vars := ["loop.example/streambarrier/impl.errNoName"], fn := fun _ => fun
  | [d, g1] => { results := [.lit (.bool false)], args := [d], vars := [g1] }
  | _ => none }
def FnAppendTwoWrongFalsely : Prop := fnAppendTwoRow.holds Tryd.pinned (OpenSpec.ofChange fnAppendTwoWrong)

/- THE SECOND FORM. 'bulk': how many values and letters a reading holds, each counted each time it is reached (what is shared counts as often as it is met; a slice's spare places count too). A statement '..UptoSaid' is the law's where the arguments, and the package variables that the reading takes, are together of bulk at most 1048576: NARROWER than '..Said'. Prove '..Said' where nothing that the law and all that it calls make is longer than what came in: it says more and counts as full. Else prove '..UptoSaid'. A law counts once. -/
mutual
def uptoBulk {H : Type} : DataW H → Nat
  | .lit (.string bytes) => bytes.length + 1
  | .lit _ => 1
  | .nil => 1
  | .ptr d => uptoBulk d + 1
  | .slice elems spare => uptoBulkAll elems + uptoBulkAll spare + 1
  | .agg parts => uptoBulkAll parts + 1
  | .iface _ d => uptoBulk d + 1
  | .map entries => uptoBulkEntries entries + 1
  | .held _ => 1
def uptoBulkAll {H : Type} : List (DataW H) → Nat
  | [] => 0
  | d :: r => uptoBulk d + uptoBulkAll r
def uptoBulkEntries {H : Type} : List (Lit × DataW H) → Nat
  | [] => 0
  | x :: r => uptoBulkEntry x + uptoBulkEntries r
def uptoBulkEntry {H : Type} : Lit × DataW H → Nat
  | (.string bytes, d) => bytes.length + uptoBulk d + 1
  | (_, d) => uptoBulk d + 1
 end
def uptoSmall : (H : Type) → List (DataW H) → Bool := fun _ ds => decide (uptoBulkAll ds ≤ 1048576)
def OpenSpec.upto (s : _root_.Go.ChangeSpec) : _root_.Go.OpenSpec := { _root_.Go.OpenSpec.ofChange s with cond := some uptoSmall }

/-- 'laws.FnWrite', WHERE WHAT IT READS IS OF BULK AT MOST 1048576: true; the input reads as it did. -/
def fnWriteUptoRow : OpenClaim := { program := "ytihgdebfjoooeaadoor", sum := "1ceb86169a06a0c7e7a14c66d8009d0336212817624215e3f5749ff45ee687a1", func := "loop.example/streambarrier/laws.FnWrite", spec := "fnWrite", inPlace := ["internal/bytealg.IndexByteString", "internal/bytealg.IndexString", "internal/reflectlite.TypeOf"], unfollowed := true, recurses := true, named := ["loop.example/streambarrier/impl.errNoName", "internal/bytealg.MaxLen"], ifaces := true, apart := false, laid := [("loop.example/streambarrier/impl.errNoName", laid_loop_example_streambarrier_impl_errNoName)], narrowed := true }
def FnWriteUptoSaid : Prop := fnWriteUptoRow.holds Tryd.pinned (OpenSpec.upto fnWriteSpec)

/-- 'laws.FnStorePart', WHERE WHAT IT READS IS OF BULK AT MOST 1048576: true; the input reads as it did. -/
def fnStorePartUptoRow : OpenClaim := { program := "ytihgdebfjoooeaadoor", sum := "1ceb86169a06a0c7e7a14c66d8009d0336212817624215e3f5749ff45ee687a1", func := "loop.example/streambarrier/laws.FnStorePart", spec := "fnStorePart", inPlace := ["internal/bytealg.IndexByteString", "internal/bytealg.IndexString", "internal/reflectlite.TypeOf"], unfollowed := true, recurses := true, named := ["loop.example/streambarrier/impl.errNoName", "internal/bytealg.MaxLen"], ifaces := true, apart := false, laid := [("loop.example/streambarrier/impl.errNoName", laid_loop_example_streambarrier_impl_errNoName)], narrowed := true }
def FnStorePartUptoSaid : Prop := fnStorePartUptoRow.holds Tryd.pinned (OpenSpec.upto fnStorePartSpec)

/-- 'laws.FnWriteAgain', WHERE WHAT IT READS IS OF BULK AT MOST 1048576: true; the input reads as it did. -/
def fnWriteAgainUptoRow : OpenClaim := { program := "ytihgdebfjoooeaadoor", sum := "1ceb86169a06a0c7e7a14c66d8009d0336212817624215e3f5749ff45ee687a1", func := "loop.example/streambarrier/laws.FnWriteAgain", spec := "fnWriteAgain", inPlace := ["internal/bytealg.IndexByteString", "internal/bytealg.IndexString", "internal/reflectlite.TypeOf"], unfollowed := true, recurses := true, named := ["loop.example/streambarrier/impl.errNoName", "internal/bytealg.MaxLen"], ifaces := true, apart := false, laid := [("loop.example/streambarrier/impl.errNoName", laid_loop_example_streambarrier_impl_errNoName)], narrowed := true }
def FnWriteAgainUptoSaid : Prop := fnWriteAgainUptoRow.holds Tryd.pinned (OpenSpec.upto fnWriteAgainSpec)

/-- 'laws.FnAll', WHERE WHAT IT READS IS OF BULK AT MOST 1048576: true; the input reads as it did. -/
def fnAllUptoRow : OpenClaim := { program := "ytihgdebfjoooeaadoor", sum := "1ceb86169a06a0c7e7a14c66d8009d0336212817624215e3f5749ff45ee687a1", func := "loop.example/streambarrier/laws.FnAll", spec := "fnAll", inPlace := ["internal/bytealg.IndexByteString", "internal/bytealg.IndexString", "internal/reflectlite.TypeOf"], unfollowed := true, recurses := true, named := ["loop.example/streambarrier/impl.errNoName", "internal/bytealg.MaxLen"], ifaces := true, apart := false, laid := [("loop.example/streambarrier/impl.errNoName", laid_loop_example_streambarrier_impl_errNoName)], narrowed := true }
def FnAllUptoSaid : Prop := fnAllUptoRow.holds Tryd.pinned (OpenSpec.upto fnAllSpec)

/-- 'laws.FnVersion', WHERE WHAT IT READS IS OF BULK AT MOST 1048576: true; the input reads as it did. -/
def fnVersionUptoRow : OpenClaim := { program := "ytihgdebfjoooeaadoor", sum := "1ceb86169a06a0c7e7a14c66d8009d0336212817624215e3f5749ff45ee687a1", func := "loop.example/streambarrier/laws.FnVersion", spec := "fnVersion", inPlace := ["internal/bytealg.IndexByteString", "internal/bytealg.IndexString", "internal/reflectlite.TypeOf"], unfollowed := true, recurses := true, named := ["loop.example/streambarrier/impl.errNoName", "internal/bytealg.MaxLen"], ifaces := true, apart := false, laid := [("loop.example/streambarrier/impl.errNoName", laid_loop_example_streambarrier_impl_errNoName)], narrowed := true }
def FnVersionUptoSaid : Prop := fnVersionUptoRow.holds Tryd.pinned (OpenSpec.upto fnVersionSpec)

/-- 'laws.FnRead', WHERE WHAT IT READS IS OF BULK AT MOST 1048576: true; the input reads as it did. -/
def fnReadUptoRow : OpenClaim := { program := "ytihgdebfjoooeaadoor", sum := "1ceb86169a06a0c7e7a14c66d8009d0336212817624215e3f5749ff45ee687a1", func := "loop.example/streambarrier/laws.FnRead", spec := "fnRead", inPlace := ["internal/bytealg.IndexByteString", "internal/bytealg.IndexString", "internal/reflectlite.TypeOf"], unfollowed := true, recurses := true, named := ["loop.example/streambarrier/impl.errNoName", "internal/bytealg.MaxLen"], ifaces := true, apart := false, laid := [("loop.example/streambarrier/impl.errNoName", laid_loop_example_streambarrier_impl_errNoName)], narrowed := true }
def FnReadUptoSaid : Prop := fnReadUptoRow.holds Tryd.pinned (OpenSpec.upto fnReadSpec)

/-- 'laws.FnWriteFine', WHERE WHAT IT READS IS OF BULK AT MOST 1048576: true; the input reads as it did. -/
def fnWriteFineUptoRow : OpenClaim := { program := "ytihgdebfjoooeaadoor", sum := "1ceb86169a06a0c7e7a14c66d8009d0336212817624215e3f5749ff45ee687a1", func := "loop.example/streambarrier/laws.FnWriteFine", spec := "fnWriteFine", inPlace := ["internal/bytealg.IndexByteString", "internal/bytealg.IndexString", "internal/reflectlite.TypeOf"], unfollowed := true, recurses := true, named := ["loop.example/streambarrier/impl.errNoName", "internal/bytealg.MaxLen"], ifaces := true, apart := false, laid := [("loop.example/streambarrier/impl.errNoName", laid_loop_example_streambarrier_impl_errNoName)], narrowed := true }
def FnWriteFineUptoSaid : Prop := fnWriteFineUptoRow.holds Tryd.pinned (OpenSpec.upto fnWriteFineSpec)

/-- 'laws.FnReadOrder', WHERE WHAT IT READS IS OF BULK AT MOST 1048576: true; the input reads as it did. -/
def fnReadOrderUptoRow : OpenClaim := { program := "ytihgdebfjoooeaadoor", sum := "1ceb86169a06a0c7e7a14c66d8009d0336212817624215e3f5749ff45ee687a1", func := "loop.example/streambarrier/laws.FnReadOrder", spec := "fnReadOrder", inPlace := ["internal/bytealg.IndexByteString", "internal/bytealg.IndexString", "internal/reflectlite.TypeOf"], unfollowed := true, recurses := true, named := ["loop.example/streambarrier/impl.errNoName", "internal/bytealg.MaxLen"], ifaces := true, apart := false, laid := [("loop.example/streambarrier/impl.errNoName", laid_loop_example_streambarrier_impl_errNoName)], narrowed := true }
def FnReadOrderUptoSaid : Prop := fnReadOrderUptoRow.holds Tryd.pinned (OpenSpec.upto fnReadOrderSpec)

/-- 'laws.FnFindNone', WHERE WHAT IT READS IS OF BULK AT MOST 1048576: true; the input reads as it did. -/
def fnFindNoneUptoRow : OpenClaim := { program := "ytihgdebfjoooeaadoor", sum := "1ceb86169a06a0c7e7a14c66d8009d0336212817624215e3f5749ff45ee687a1", func := "loop.example/streambarrier/laws.FnFindNone", spec := "fnFindNone", inPlace := ["internal/bytealg.IndexByteString", "internal/bytealg.IndexString", "internal/reflectlite.TypeOf"], unfollowed := true, recurses := true, named := ["loop.example/streambarrier/impl.errNoName", "internal/bytealg.MaxLen"], ifaces := true, apart := false, laid := [("loop.example/streambarrier/impl.errNoName", laid_loop_example_streambarrier_impl_errNoName)], narrowed := true }
def FnFindNoneUptoSaid : Prop := fnFindNoneUptoRow.holds Tryd.pinned (OpenSpec.upto fnFindNoneSpec)

/-- 'laws.FnFind', WHERE WHAT IT READS IS OF BULK AT MOST 1048576: true; the input reads as it did. -/
def fnFindUptoRow : OpenClaim := { program := "ytihgdebfjoooeaadoor", sum := "1ceb86169a06a0c7e7a14c66d8009d0336212817624215e3f5749ff45ee687a1", func := "loop.example/streambarrier/laws.FnFind", spec := "fnFind", inPlace := ["internal/bytealg.IndexByteString", "internal/bytealg.IndexString", "internal/reflectlite.TypeOf"], unfollowed := true, recurses := true, named := ["loop.example/streambarrier/impl.errNoName", "internal/bytealg.MaxLen"], ifaces := true, apart := false, laid := [("loop.example/streambarrier/impl.errNoName", laid_loop_example_streambarrier_impl_errNoName)], narrowed := true }
def FnFindUptoSaid : Prop := fnFindUptoRow.holds Tryd.pinned (OpenSpec.upto fnFindSpec)

/-- 'laws.FnAppend', WHERE WHAT IT READS IS OF BULK AT MOST 1048576: true; the input reads as it did. -/
def fnAppendUptoRow : OpenClaim := { program := "ytihgdebfjoooeaadoor", sum := "1ceb86169a06a0c7e7a14c66d8009d0336212817624215e3f5749ff45ee687a1", func := "loop.example/streambarrier/laws.FnAppend", spec := "fnAppend", inPlace := ["internal/bytealg.IndexByteString", "internal/bytealg.IndexString", "internal/reflectlite.TypeOf"], unfollowed := true, recurses := true, named := ["loop.example/streambarrier/impl.errNoName", "internal/bytealg.MaxLen"], ifaces := true, apart := false, laid := [("loop.example/streambarrier/impl.errNoName", laid_loop_example_streambarrier_impl_errNoName)], narrowed := true }
def FnAppendUptoSaid : Prop := fnAppendUptoRow.holds Tryd.pinned (OpenSpec.upto fnAppendSpec)

/-- 'laws.FnAppendTwo', WHERE WHAT IT READS IS OF BULK AT MOST 1048576: true; the input reads as it did. -/
def fnAppendTwoUptoRow : OpenClaim := { program := "ytihgdebfjoooeaadoor", sum := "1ceb86169a06a0c7e7a14c66d8009d0336212817624215e3f5749ff45ee687a1", func := "loop.example/streambarrier/laws.FnAppendTwo", spec := "fnAppendTwo", inPlace := ["internal/bytealg.IndexByteString", "internal/bytealg.IndexString", "internal/reflectlite.TypeOf"], unfollowed := true, recurses := true, named := ["loop.example/streambarrier/impl.errNoName", "internal/bytealg.MaxLen"], ifaces := true, apart := false, laid := [("loop.example/streambarrier/impl.errNoName", laid_loop_example_streambarrier_impl_errNoName)], narrowed := true }
def FnAppendTwoUptoSaid : Prop := fnAppendTwoUptoRow.holds Tryd.pinned (OpenSpec.upto fnAppendTwoSpec)

end Rows
end Go.Proofs.YtihgdebfjoooeaaDoor
