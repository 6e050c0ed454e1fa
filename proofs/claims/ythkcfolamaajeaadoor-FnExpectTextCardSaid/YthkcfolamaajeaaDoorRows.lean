/-
  NARROWER THAN 'FOR EVERY INPUT', by the rows' own cells (each row's printed sentence says how): FnNameValid: ifaces, laid · FnExpectText: laid · FnStripe: ifaces, laid · FnStripeHalf: ifaces, laid · FnCutsPart: ifaces, laid · FnExpectFrom: laid · FnExactGroupOwner: ifaces, laid · FnStripesOrder: ifaces, laid.
  DERIVED. THE GIVEN ROWS OF THIS SEAT. 8 by the template 'for every input the law returns true; each argument reads behind the call as it read before'; 0 by the template 'total and deterministic' (their statements: YthkcfolamaajeaaDoorTotals.lean).
  GIVEN WITH THE SEED: the statements are not yours to turn. If you find one false, say at which input.
  Laid BY PROGRAM, IN A SANDBOX (cutbox-rows.mjs): the forced cells as the released guide's own fill.sh prints them over the translation 6218674e1f4d80d9… (all of the seat's roots in one cut). By AI agents, Wed Nov 11 2026. No macro, syntax, notation, axiom, sorry.
-/
import Derived.Test.YthkcfolamaajeaaDoorChecked
import GoSem.Claim
import GoSem.ClaimJoined
import GoSem.ClaimMapViews
import Derived.JoinedTies
import Derived.KernelRfl
namespace Go.Proofs.YthkcfolamaajeaaDoor
/- THE CELL 'sum', in the pinned program and in every row, IS THE sha256 OF THE DUMP (.gsa) THAT YthkcfolamaajeaaDoorProg.lean LOADS. Nothing in Lean hashes anything: it is a label: what it is worth is what the hold of that sum in a sandbox is worth. -/
noncomputable def Tryd.pinned : Pinned := { name := "ythkcfolamaajeaadoor", sum := "6218674e1f4d80d93e088077daaa7040e7cdbce298cb399b6cd14d3f3f66d472", checked := Tryd.checked }
namespace Rows
def none {H : Type} : Left H := { results := [], args := [] }

/- WHAT THE LISTED PACKAGE-LEVEL VARIABLES READ AS WHEN THE CALL BEGINS. Each datum BY PROGRAM (the guide's laid-datum.mjs) off the statement by which the dump's own 'gosem.cut.vars' lays the variable. In a bare row this is a premise. The card (YthkcfolamaajeaaDoorCards.lean) ties it to the program's text. -/
def laid_loop_example_streambarrier_impl_errNoName {H : Type} : DataW H := .iface "*errors.errorString" (.ptr (.agg [.lit (.string [110, 111, 32, 110, 97, 109, 101, 32, 111, 102, 32, 97, 32, 115, 116, 114, 101, 97, 109])]))
def laid_math_bits_deBruijn32tab {H : Type} : DataW H := .agg [.lit (.int .u8 0), .lit (.int .u8 1), .lit (.int .u8 28), .lit (.int .u8 2), .lit (.int .u8 29), .lit (.int .u8 14), .lit (.int .u8 24), .lit (.int .u8 3), .lit (.int .u8 30), .lit (.int .u8 22), .lit (.int .u8 20), .lit (.int .u8 15), .lit (.int .u8 25), .lit (.int .u8 17), .lit (.int .u8 4), .lit (.int .u8 8), .lit (.int .u8 31), .lit (.int .u8 27), .lit (.int .u8 13), .lit (.int .u8 23), .lit (.int .u8 21), .lit (.int .u8 19), .lit (.int .u8 16), .lit (.int .u8 7), .lit (.int .u8 26), .lit (.int .u8 12), .lit (.int .u8 18), .lit (.int .u8 6), .lit (.int .u8 11), .lit (.int .u8 5), .lit (.int .u8 10), .lit (.int .u8 9)]
def laid_math_bits_deBruijn64tab {H : Type} : DataW H := .agg [.lit (.int .u8 0), .lit (.int .u8 1), .lit (.int .u8 56), .lit (.int .u8 2), .lit (.int .u8 57), .lit (.int .u8 49), .lit (.int .u8 28), .lit (.int .u8 3), .lit (.int .u8 61), .lit (.int .u8 58), .lit (.int .u8 42), .lit (.int .u8 50), .lit (.int .u8 38), .lit (.int .u8 29), .lit (.int .u8 17), .lit (.int .u8 4), .lit (.int .u8 62), .lit (.int .u8 47), .lit (.int .u8 59), .lit (.int .u8 36), .lit (.int .u8 45), .lit (.int .u8 43), .lit (.int .u8 51), .lit (.int .u8 22), .lit (.int .u8 53), .lit (.int .u8 39), .lit (.int .u8 33), .lit (.int .u8 30), .lit (.int .u8 24), .lit (.int .u8 18), .lit (.int .u8 12), .lit (.int .u8 5), .lit (.int .u8 63), .lit (.int .u8 55), .lit (.int .u8 48), .lit (.int .u8 27), .lit (.int .u8 60), .lit (.int .u8 41), .lit (.int .u8 37), .lit (.int .u8 16), .lit (.int .u8 46), .lit (.int .u8 35), .lit (.int .u8 44), .lit (.int .u8 21), .lit (.int .u8 52), .lit (.int .u8 32), .lit (.int .u8 23), .lit (.int .u8 11), .lit (.int .u8 54), .lit (.int .u8 26), .lit (.int .u8 40), .lit (.int .u8 15), .lit (.int .u8 34), .lit (.int .u8 20), .lit (.int .u8 31), .lit (.int .u8 10), .lit (.int .u8 25), .lit (.int .u8 14), .lit (.int .u8 19), .lit (.int .u8 9), .lit (.int .u8 13), .lit (.int .u8 8), .lit (.int .u8 7), .lit (.int .u8 6)]
def laid_internal_strconv_uint64pow10 {H : Type} : DataW H := .agg [.lit (.int .u64 1), .lit (.int .u64 10), .lit (.int .u64 100), .lit (.int .u64 1000), .lit (.int .u64 10000), .lit (.int .u64 100000), .lit (.int .u64 1000000), .lit (.int .u64 10000000), .lit (.int .u64 100000000), .lit (.int .u64 1000000000), .lit (.int .u64 10000000000), .lit (.int .u64 100000000000), .lit (.int .u64 1000000000000), .lit (.int .u64 10000000000000), .lit (.int .u64 100000000000000), .lit (.int .u64 1000000000000000), .lit (.int .u64 10000000000000000), .lit (.int .u64 100000000000000000), .lit (.int .u64 1000000000000000000), .lit (.int .u64 10000000000000000000)]

/-- 'laws.FnNameValid': WHATEVER THE INPUT: true; the input reads as it did. -/
def fnNameValidSpec : ChangeSpec := { name := "fnNameValid", vars := ["loop.example/streambarrier/impl.errNoName"], fn := fun _ => fun
  | [d, g1] => { results := [.lit (.bool true)], args := [d], vars := [g1] }
  | _ => none }
def fnNameValidRow : OpenClaim := { program := "ythkcfolamaajeaadoor", sum := "6218674e1f4d80d93e088077daaa7040e7cdbce298cb399b6cd14d3f3f66d472", func := "loop.example/streambarrier/laws.FnNameValid", spec := "fnNameValid", inPlace := ["internal/bytealg.IndexByteString", "internal/bytealg.IndexString", "internal/reflectlite.TypeOf"], unfollowed := true, recurses := true, named := ["loop.example/streambarrier/impl.errNoName", "internal/bytealg.MaxLen"], ifaces := true, apart := false, laid := [("loop.example/streambarrier/impl.errNoName", laid_loop_example_streambarrier_impl_errNoName)] }
def FnNameValidSaid : Prop := fnNameValidRow.holds Tryd.pinned (OpenSpec.ofChange fnNameValidSpec)

/-- ITS FALSE NEIGHBOUR: 'it returns false'. Refute it at one input. -/
def fnNameValidWrong : ChangeSpec := { name := "fnNameValid", vars := ["loop.example/streambarrier/impl.errNoName"], fn := fun _ => fun
  | [d, g1] => { results := [.lit (.bool false)], args := [d], vars := [g1] }
  | _ => none }
def FnNameValidWrongFalsely : Prop := fnNameValidRow.holds Tryd.pinned (OpenSpec.ofChange fnNameValidWrong)

/-- 'laws.FnExpectText': WHATEVER THE INPUT: true; the input reads as it did. -/
def fnExpectTextSpec : ChangeSpec := { name := "fnExpectText", fn := fun _ => fun
  | [d] => { results := [.lit (.bool true)], args := [d] }
  | _ => none }
def fnExpectTextRow : OpenClaim := { program := "ythkcfolamaajeaadoor", sum := "6218674e1f4d80d93e088077daaa7040e7cdbce298cb399b6cd14d3f3f66d472", func := "loop.example/streambarrier/laws.FnExpectText", spec := "fnExpectText", recurses := true, named := ["internal/strconv.uint64pow10", "math/bits.deBruijn32tab", "math/bits.deBruijn64tab"], apart := false, laid := [("math/bits.deBruijn32tab", laid_math_bits_deBruijn32tab), ("math/bits.deBruijn64tab", laid_math_bits_deBruijn64tab), ("internal/strconv.uint64pow10", laid_internal_strconv_uint64pow10)] }
def FnExpectTextSaid : Prop := fnExpectTextRow.holds Tryd.pinned (OpenSpec.ofChange fnExpectTextSpec)

/-- ITS FALSE NEIGHBOUR: 'it returns false'. Refute it at one input. -/
def fnExpectTextWrong : ChangeSpec := { name := "fnExpectText", fn := fun _ => fun
  | [d] => { results := [.lit (.bool false)], args := [d] }
  | _ => none }
def FnExpectTextWrongFalsely : Prop := fnExpectTextRow.holds Tryd.pinned (OpenSpec.ofChange fnExpectTextWrong)

/-- 'laws.FnStripe': WHATEVER THE INPUT: true; the input reads as it did. -/
def fnStripeSpec : ChangeSpec := { name := "fnStripe", vars := ["loop.example/streambarrier/impl.errNoName"], fn := fun _ => fun
  | [d, g1] => { results := [.lit (.bool true)], args := [d], vars := [g1] }
  | _ => none }
def fnStripeRow : OpenClaim := { program := "ythkcfolamaajeaadoor", sum := "6218674e1f4d80d93e088077daaa7040e7cdbce298cb399b6cd14d3f3f66d472", func := "loop.example/streambarrier/laws.FnStripe", spec := "fnStripe", inPlace := ["internal/bytealg.IndexByteString", "internal/bytealg.IndexString", "internal/reflectlite.TypeOf"], unfollowed := true, recurses := true, named := ["loop.example/streambarrier/impl.errNoName", "internal/bytealg.MaxLen"], ifaces := true, apart := false, laid := [("loop.example/streambarrier/impl.errNoName", laid_loop_example_streambarrier_impl_errNoName)] }
def FnStripeSaid : Prop := fnStripeRow.holds Tryd.pinned (OpenSpec.ofChange fnStripeSpec)

/-- ITS FALSE NEIGHBOUR: 'it returns false'. Refute it at one input. -/
def fnStripeWrong : ChangeSpec := { name := "fnStripe", vars := ["loop.example/streambarrier/impl.errNoName"], fn := fun _ => fun
  | [d, g1] => { results := [.lit (.bool false)], args := [d], vars := [g1] }
  | _ => none }
def FnStripeWrongFalsely : Prop := fnStripeRow.holds Tryd.pinned (OpenSpec.ofChange fnStripeWrong)

/-- 'laws.FnStripeHalf': WHATEVER THE INPUT: true; the input reads as it did. -/
def fnStripeHalfSpec : ChangeSpec := { name := "fnStripeHalf", vars := ["loop.example/streambarrier/impl.errNoName"], fn := fun _ => fun
  | [d, g1] => { results := [.lit (.bool true)], args := [d], vars := [g1] }
  | _ => none }
def fnStripeHalfRow : OpenClaim := { program := "ythkcfolamaajeaadoor", sum := "6218674e1f4d80d93e088077daaa7040e7cdbce298cb399b6cd14d3f3f66d472", func := "loop.example/streambarrier/laws.FnStripeHalf", spec := "fnStripeHalf", inPlace := ["internal/bytealg.IndexByteString", "internal/bytealg.IndexString", "internal/reflectlite.TypeOf"], unfollowed := true, recurses := true, named := ["loop.example/streambarrier/impl.errNoName", "internal/bytealg.MaxLen"], ifaces := true, apart := false, laid := [("loop.example/streambarrier/impl.errNoName", laid_loop_example_streambarrier_impl_errNoName)] }
def FnStripeHalfSaid : Prop := fnStripeHalfRow.holds Tryd.pinned (OpenSpec.ofChange fnStripeHalfSpec)

/-- ITS FALSE NEIGHBOUR: 'it returns false'. Refute it at one input. -/
def fnStripeHalfWrong : ChangeSpec := { name := "fnStripeHalf", vars := ["loop.example/streambarrier/impl.errNoName"], fn := fun _ => fun
  | [d, g1] => { results := [.lit (.bool false)], args := [d], vars := [g1] }
  | _ => none }
def FnStripeHalfWrongFalsely : Prop := fnStripeHalfRow.holds Tryd.pinned (OpenSpec.ofChange fnStripeHalfWrong)

/-- 'laws.FnCutsPart': WHATEVER THE INPUT: true; the input reads as it did. -/
def fnCutsPartSpec : ChangeSpec := { name := "fnCutsPart", vars := ["loop.example/streambarrier/impl.errNoName"], fn := fun _ => fun
  | [d1, d2, g1] => { results := [.lit (.bool true)], args := [d1, d2], vars := [g1] }
  | _ => none }
def fnCutsPartRow : OpenClaim := { program := "ythkcfolamaajeaadoor", sum := "6218674e1f4d80d93e088077daaa7040e7cdbce298cb399b6cd14d3f3f66d472", func := "loop.example/streambarrier/laws.FnCutsPart", spec := "fnCutsPart", inPlace := ["internal/bytealg.IndexByteString", "internal/bytealg.IndexString", "internal/reflectlite.TypeOf"], unfollowed := true, recurses := true, named := ["loop.example/streambarrier/impl.errNoName", "internal/bytealg.MaxLen"], ifaces := true, apart := false, laid := [("loop.example/streambarrier/impl.errNoName", laid_loop_example_streambarrier_impl_errNoName)] }
def FnCutsPartSaid : Prop := fnCutsPartRow.holds Tryd.pinned (OpenSpec.ofChange fnCutsPartSpec)

/-- ITS FALSE NEIGHBOUR: 'it returns false'. Refute it at one input. -/
def fnCutsPartWrong : ChangeSpec := { name := "fnCutsPart", vars := ["loop.example/streambarrier/impl.errNoName"], fn := fun _ => fun
  | [d1, d2, g1] => { results := [.lit (.bool false)], args := [d1, d2], vars := [g1] }
  | _ => none }
def FnCutsPartWrongFalsely : Prop := fnCutsPartRow.holds Tryd.pinned (OpenSpec.ofChange fnCutsPartWrong)

/-- 'laws.FnExpectFrom': WHATEVER THE INPUT: true; the input reads as it did. -/
def fnExpectFromSpec : ChangeSpec := { name := "fnExpectFrom", fn := fun _ => fun
  | [d] => { results := [.lit (.bool true)], args := [d] }
  | _ => none }
def fnExpectFromRow : OpenClaim := { program := "ythkcfolamaajeaadoor", sum := "6218674e1f4d80d93e088077daaa7040e7cdbce298cb399b6cd14d3f3f66d472", func := "loop.example/streambarrier/laws.FnExpectFrom", spec := "fnExpectFrom", recurses := true, named := ["internal/strconv.uint64pow10", "math/bits.deBruijn32tab", "math/bits.deBruijn64tab"], apart := false, laid := [("math/bits.deBruijn32tab", laid_math_bits_deBruijn32tab), ("math/bits.deBruijn64tab", laid_math_bits_deBruijn64tab), ("internal/strconv.uint64pow10", laid_internal_strconv_uint64pow10)] }
def FnExpectFromSaid : Prop := fnExpectFromRow.holds Tryd.pinned (OpenSpec.ofChange fnExpectFromSpec)

/-- ITS FALSE NEIGHBOUR: 'it returns false'. Refute it at one input. -/
def fnExpectFromWrong : ChangeSpec := { name := "fnExpectFrom", fn := fun _ => fun
  | [d] => { results := [.lit (.bool false)], args := [d] }
  | _ => none }
def FnExpectFromWrongFalsely : Prop := fnExpectFromRow.holds Tryd.pinned (OpenSpec.ofChange fnExpectFromWrong)

/-- 'laws.FnExactGroupOwner': WHATEVER THE INPUT: true; the input reads as it did. -/
def fnExactGroupOwnerSpec : ChangeSpec := { name := "fnExactGroupOwner", vars := ["loop.example/streambarrier/impl.errNoName"], fn := fun _ => fun
  | [d1, d2, g1] => { results := [.lit (.bool true)], args := [d1, d2], vars := [g1] }
  | _ => none }
def fnExactGroupOwnerRow : OpenClaim := { program := "ythkcfolamaajeaadoor", sum := "6218674e1f4d80d93e088077daaa7040e7cdbce298cb399b6cd14d3f3f66d472", func := "loop.example/streambarrier/laws.FnExactGroupOwner", spec := "fnExactGroupOwner", inPlace := ["internal/bytealg.IndexByteString", "internal/bytealg.IndexString", "internal/reflectlite.TypeOf"], unfollowed := true, recurses := true, named := ["loop.example/streambarrier/impl.errNoName", "internal/bytealg.MaxLen"], ifaces := true, apart := false, laid := [("loop.example/streambarrier/impl.errNoName", laid_loop_example_streambarrier_impl_errNoName)] }
def FnExactGroupOwnerSaid : Prop := fnExactGroupOwnerRow.holds Tryd.pinned (OpenSpec.ofChange fnExactGroupOwnerSpec)

/-- ITS FALSE NEIGHBOUR: 'it returns false'. Refute it at one input. -/
def fnExactGroupOwnerWrong : ChangeSpec := { name := "fnExactGroupOwner", vars := ["loop.example/streambarrier/impl.errNoName"], fn := fun _ => fun
  | [d1, d2, g1] => { results := [.lit (.bool false)], args := [d1, d2], vars := [g1] }
  | _ => none }
def FnExactGroupOwnerWrongFalsely : Prop := fnExactGroupOwnerRow.holds Tryd.pinned (OpenSpec.ofChange fnExactGroupOwnerWrong)

/-- 'laws.FnStripesOrder': WHATEVER THE INPUT: true; the input reads as it did. -/
def fnStripesOrderSpec : ChangeSpec := { name := "fnStripesOrder", vars := ["loop.example/streambarrier/impl.errNoName"], fn := fun _ => fun
  | [d, g1] => { results := [.lit (.bool true)], args := [d], vars := [g1] }
  | _ => none }
def fnStripesOrderRow : OpenClaim := { program := "ythkcfolamaajeaadoor", sum := "6218674e1f4d80d93e088077daaa7040e7cdbce298cb399b6cd14d3f3f66d472", func := "loop.example/streambarrier/laws.FnStripesOrder", spec := "fnStripesOrder", inPlace := ["internal/bytealg.IndexByteString", "internal/bytealg.IndexString", "internal/reflectlite.TypeOf"], unfollowed := true, recurses := true, named := ["loop.example/streambarrier/impl.errNoName", "internal/bytealg.MaxLen"], ifaces := true, apart := false, laid := [("loop.example/streambarrier/impl.errNoName", laid_loop_example_streambarrier_impl_errNoName)] }
def FnStripesOrderSaid : Prop := fnStripesOrderRow.holds Tryd.pinned (OpenSpec.ofChange fnStripesOrderSpec)

/-- ITS FALSE NEIGHBOUR: 'it returns false'. Refute it at one input. -/
def fnStripesOrderWrong : ChangeSpec := { name := "fnStripesOrder", vars := ["loop.example/streambarrier/impl.errNoName"], fn := fun _ => fun
  | [d, g1] => { results := [.lit (.bool false)], args := [d], vars := [g1] }
  | _ => none }
def FnStripesOrderWrongFalsely : Prop := fnStripesOrderRow.holds Tryd.pinned (OpenSpec.ofChange fnStripesOrderWrong)

/- THE SECOND FORM. 'bulk': how many values and letters a reading holds, each counted each time it is reached (what is shared counts as often as it is met; a slice's spare places count too). A statement '..UptoSaid' is the law's where the arguments, and the package variables that the reading takes, are together of bulk at most 1048576: NARROWER than '..Said'. Prove '..Said' where nothing that the law and all that it calls make is longer than what came in: it says more and counts as full. Else prove '..UptoSaid'. A law counts once. -/
mutual
def uptoBulk {H : Type} : DataW H → Nat
  | .lit (.string bytes) => bytes.length + 1
  | .lit _ => 1
  | .nil => 1
  | .ptr d => uptoBulk d + 1
  | .slice elems spare => uptoBulkAll elems + uptoBulkAll spare + 1
  | .agg parts => uptoBulkAll parts + 1
  | .iface _ d => uptoBulk d + 1
  | .map entries => uptoBulkEntries entries + 1
  | .held _ => 1
def uptoBulkAll {H : Type} : List (DataW H) → Nat
  | [] => 0
  | d :: r => uptoBulk d + uptoBulkAll r
def uptoBulkEntries {H : Type} : List (Lit × DataW H) → Nat
  | [] => 0
  | x :: r => uptoBulkEntry x + uptoBulkEntries r
def uptoBulkEntry {H : Type} : Lit × DataW H → Nat
  | (.string bytes, d) => bytes.length + uptoBulk d + 1
  | (_, d) => uptoBulk d + 1
 end
def uptoSmall : (H : Type) → List (DataW H) → Bool := fun _ ds => decide (uptoBulkAll ds ≤ 1048576)
def OpenSpec.upto (s : _root_.Go.ChangeSpec) : _root_.Go.OpenSpec := { _root_.Go.OpenSpec.ofChange s with cond := some uptoSmall }

/-- 'laws.FnNameValid', WHERE WHAT IT READS IS OF BULK AT MOST 1048576: true; the input reads as it did. -/
def fnNameValidUptoRow : OpenClaim := { program := "ythkcfolamaajeaadoor", sum := "6218674e1f4d80d93e088077daaa7040e7cdbce298cb399b6cd14d3f3f66d472", func := "loop.example/streambarrier/laws.FnNameValid", spec := "fnNameValid", inPlace := ["internal/bytealg.IndexByteString", "internal/bytealg.IndexString", "internal/reflectlite.TypeOf"], unfollowed := true, recurses := true, named := ["loop.example/streambarrier/impl.errNoName", "internal/bytealg.MaxLen"], ifaces := true, apart := false, laid := [("loop.example/streambarrier/impl.errNoName", laid_loop_example_streambarrier_impl_errNoName)], narrowed := true }
def FnNameValidUptoSaid : Prop := fnNameValidUptoRow.holds Tryd.pinned (OpenSpec.upto fnNameValidSpec)

/-- 'laws.FnExpectText', WHERE WHAT IT READS IS OF BULK AT MOST 1048576: true; the input reads as it did. -/
def fnExpectTextUptoRow : OpenClaim := { program := "ythkcfolamaajeaadoor", sum := "6218674e1f4d80d93e088077daaa7040e7cdbce298cb399b6cd14d3f3f66d472", func := "loop.example/streambarrier/laws.FnExpectText", spec := "fnExpectText", recurses := true, named := ["internal/strconv.uint64pow10", "math/bits.deBruijn32tab", "math/bits.deBruijn64tab"], apart := false, laid := [("math/bits.deBruijn32tab", laid_math_bits_deBruijn32tab), ("math/bits.deBruijn64tab", laid_math_bits_deBruijn64tab), ("internal/strconv.uint64pow10", laid_internal_strconv_uint64pow10)], narrowed := true }
def FnExpectTextUptoSaid : Prop := fnExpectTextUptoRow.holds Tryd.pinned (OpenSpec.upto fnExpectTextSpec)

/-- 'laws.FnStripe', WHERE WHAT IT READS IS OF BULK AT MOST 1048576: true; the input reads as it did. -/
def fnStripeUptoRow : OpenClaim := { program := "ythkcfolamaajeaadoor", sum := "6218674e1f4d80d93e088077daaa7040e7cdbce298cb399b6cd14d3f3f66d472", func := "loop.example/streambarrier/laws.FnStripe", spec := "fnStripe", inPlace := ["internal/bytealg.IndexByteString", "internal/bytealg.IndexString", "internal/reflectlite.TypeOf"], unfollowed := true, recurses := true, named := ["loop.example/streambarrier/impl.errNoName", "internal/bytealg.MaxLen"], ifaces := true, apart := false, laid := [("loop.example/streambarrier/impl.errNoName", laid_loop_example_streambarrier_impl_errNoName)], narrowed := true }
def FnStripeUptoSaid : Prop := fnStripeUptoRow.holds Tryd.pinned (OpenSpec.upto fnStripeSpec)

/-- 'laws.FnStripeHalf', WHERE WHAT IT READS IS OF BULK AT MOST 1048576: true; the input reads as it did. -/
def fnStripeHalfUptoRow : OpenClaim := { program := "ythkcfolamaajeaadoor", sum := "6218674e1f4d80d93e088077daaa7040e7cdbce298cb399b6cd14d3f3f66d472", func := "loop.example/streambarrier/laws.FnStripeHalf", spec := "fnStripeHalf", inPlace := ["internal/bytealg.IndexByteString", "internal/bytealg.IndexString", "internal/reflectlite.TypeOf"], unfollowed := true, recurses := true, named := ["loop.example/streambarrier/impl.errNoName", "internal/bytealg.MaxLen"], ifaces := true, apart := false, laid := [("loop.example/streambarrier/impl.errNoName", laid_loop_example_streambarrier_impl_errNoName)], narrowed := true }
def FnStripeHalfUptoSaid : Prop := fnStripeHalfUptoRow.holds Tryd.pinned (OpenSpec.upto fnStripeHalfSpec)

/-- 'laws.FnCutsPart', WHERE WHAT IT READS IS OF BULK AT MOST 1048576: true; the input reads as it did. -/
def fnCutsPartUptoRow : OpenClaim := { program := "ythkcfolamaajeaadoor", sum := "6218674e1f4d80d93e088077daaa7040e7cdbce298cb399b6cd14d3f3f66d472", func := "loop.example/streambarrier/laws.FnCutsPart", spec := "fnCutsPart", inPlace := ["internal/bytealg.IndexByteString", "internal/bytealg.IndexString", "internal/reflectlite.TypeOf"], unfollowed := true, recurses := true, named := ["loop.example/streambarrier/impl.errNoName", "internal/bytealg.MaxLen"], ifaces := true, apart := false, laid := [("loop.example/streambarrier/impl.errNoName", laid_loop_example_streambarrier_impl_errNoName)], narrowed := true }
def FnCutsPartUptoSaid : Prop := fnCutsPartUptoRow.holds Tryd.pinned (OpenSpec.upto fnCutsPartSpec)

/-- 'laws.FnExpectFrom', WHERE WHAT IT READS IS OF BULK AT MOST 1048576: true; the input reads as it did. -/
def fnExpectFromUptoRow : OpenClaim := { program := "ythkcfolamaajeaadoor", sum := "6218674e1f4d80d93e088077daaa7040e7cdbce298cb399b6cd14d3f3f66d472", func := "loop.example/streambarrier/laws.FnExpectFrom", spec := "fnExpectFrom", recurses := true, named := ["internal/strconv.uint64pow10", "math/bits.deBruijn32tab", "math/bits.deBruijn64tab"], apart := false, laid := [("math/bits.deBruijn32tab", laid_math_bits_deBruijn32tab), ("math/bits.deBruijn64tab", laid_math_bits_deBruijn64tab), ("internal/strconv.uint64pow10", laid_internal_strconv_uint64pow10)], narrowed := true }
def FnExpectFromUptoSaid : Prop := fnExpectFromUptoRow.holds Tryd.pinned (OpenSpec.upto fnExpectFromSpec)

/-- 'laws.FnExactGroupOwner', WHERE WHAT IT READS IS OF BULK AT MOST 1048576: true; the input reads as it did. -/
def fnExactGroupOwnerUptoRow : OpenClaim := { program := "ythkcfolamaajeaadoor", sum := "6218674e1f4d80d93e088077daaa7040e7cdbce298cb399b6cd14d3f3f66d472", func := "loop.example/streambarrier/laws.FnExactGroupOwner", spec := "fnExactGroupOwner", inPlace := ["internal/bytealg.IndexByteString", "internal/bytealg.IndexString", "internal/reflectlite.TypeOf"], unfollowed := true, recurses := true, named := ["loop.example/streambarrier/impl.errNoName", "internal/bytealg.MaxLen"], ifaces := true, apart := false, laid := [("loop.example/streambarrier/impl.errNoName", laid_loop_example_streambarrier_impl_errNoName)], narrowed := true }
def FnExactGroupOwnerUptoSaid : Prop := fnExactGroupOwnerUptoRow.holds Tryd.pinned (OpenSpec.upto fnExactGroupOwnerSpec)

/-- 'laws.FnStripesOrder', WHERE WHAT IT READS IS OF BULK AT MOST 1048576: true; the input reads as it did. -/
def fnStripesOrderUptoRow : OpenClaim := { program := "ythkcfolamaajeaadoor", sum := "6218674e1f4d80d93e088077daaa7040e7cdbce298cb399b6cd14d3f3f66d472", func := "loop.example/streambarrier/laws.FnStripesOrder", spec := "fnStripesOrder", inPlace := ["internal/bytealg.IndexByteString", "internal/bytealg.IndexString", "internal/reflectlite.TypeOf"], unfollowed := true, recurses := true, named := ["loop.example/streambarrier/impl.errNoName", "internal/bytealg.MaxLen"], ifaces := true, apart := false, laid := [("loop.example/streambarrier/impl.errNoName", laid_loop_example_streambarrier_impl_errNoName)], narrowed := true }
def FnStripesOrderUptoSaid : Prop := fnStripesOrderUptoRow.holds Tryd.pinned (OpenSpec.upto fnStripesOrderSpec)

end Rows
end Go.Proofs.YthkcfolamaajeaaDoor
