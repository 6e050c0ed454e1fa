/-
  DERIVED. GIVEN WITH THE SEED: THE CARDS: each row of YthkcfolamaajeaaDoorRows.lean that lists a variable, with what it lists TIED to the program's text (the seventh form; the later family's looks); each row that meets fmt, with fmt's text TOLD by the authors' own Lean function (tested against real Go, not proved from fmt's source: count such statements apart). THE CARD IS WHAT COUNTS. Prove the row's statement (the work); the ties are given (YthkcfolamaajeaaDoorTie.lean); close each card by the builder's one call (the guide's Derived/Test/ToyasCard.lean, 'card_holds'). Laid BY PROGRAM, IN A SANDBOX (cutbox-door.mjs). By AI agents, Wed Nov 11 2026. No macro, syntax, notation, axiom, sorry.
-/
import Derived.Test.YthkcfolamaajeaaDoorRows
import GoSem.ClaimSeven
namespace Go.Proofs.YthkcfolamaajeaaDoor
namespace Rows

/-- THE TIED CARD OF 'laws.FnNameValid'. -/
def fnNameValidCard : Claim7 := { stood := { row := fnNameValidRow, standIns := [], harness := (true, "287980453748f9d85606f69ef5675ff233e8b8599ead34705c10a871924386ec"), looks := true }, kinds := [], alts := [], laidByText := true, laidKinds := [.sentinel], laidTests := true, laidLooks := .later }
def FnNameValidCardSaid : Prop := Claim7.holds Tryd.pinned (.plain (OpenSpec.ofChange fnNameValidSpec)) fnNameValidCard

/-- THE TIED CARD OF 'laws.FnExpectText'. -/
def fnExpectTextCard : Claim7 := { stood := { row := fnExpectTextRow, standIns := [], harness := (true, "287980453748f9d85606f69ef5675ff233e8b8599ead34705c10a871924386ec"), looks := true }, kinds := [], alts := [], laidByText := true, laidKinds := [.data, .data, .data], laidTests := true, laidLooks := .later }
def FnExpectTextCardSaid : Prop := Claim7.holds Tryd.pinned (.plain (OpenSpec.ofChange fnExpectTextSpec)) fnExpectTextCard

/-- THE TIED CARD OF 'laws.FnStripe'. -/
def fnStripeCard : Claim7 := { stood := { row := fnStripeRow, standIns := [], harness := (true, "287980453748f9d85606f69ef5675ff233e8b8599ead34705c10a871924386ec"), looks := true }, kinds := [], alts := [], laidByText := true, laidKinds := [.sentinel], laidTests := true, laidLooks := .later }
def FnStripeCardSaid : Prop := Claim7.holds Tryd.pinned (.plain (OpenSpec.ofChange fnStripeSpec)) fnStripeCard

/-- THE TIED CARD OF 'laws.FnStripeHalf'. -/
def fnStripeHalfCard : Claim7 := { stood := { row := fnStripeHalfRow, standIns := [], harness := (true, "287980453748f9d85606f69ef5675ff233e8b8599ead34705c10a871924386ec"), looks := true }, kinds := [], alts := [], laidByText := true, laidKinds := [.sentinel], laidTests := true, laidLooks := .later }
def FnStripeHalfCardSaid : Prop := Claim7.holds Tryd.pinned (.plain (OpenSpec.ofChange fnStripeHalfSpec)) fnStripeHalfCard

/-- THE TIED CARD OF 'laws.FnCutsPart'. -/
def fnCutsPartCard : Claim7 := { stood := { row := fnCutsPartRow, standIns := [], harness := (true, "287980453748f9d85606f69ef5675ff233e8b8599ead34705c10a871924386ec"), looks := true }, kinds := [], alts := [], laidByText := true, laidKinds := [.sentinel], laidTests := true, laidLooks := .later }
def FnCutsPartCardSaid : Prop := Claim7.holds Tryd.pinned (.plain (OpenSpec.ofChange fnCutsPartSpec)) fnCutsPartCard

/-- THE TIED CARD OF 'laws.FnExpectFrom'. -/
def fnExpectFromCard : Claim7 := { stood := { row := fnExpectFromRow, standIns := [], harness := (true, "287980453748f9d85606f69ef5675ff233e8b8599ead34705c10a871924386ec"), looks := true }, kinds := [], alts := [], laidByText := true, laidKinds := [.data, .data, .data], laidTests := true, laidLooks := .later }
def FnExpectFromCardSaid : Prop := Claim7.holds Tryd.pinned (.plain (OpenSpec.ofChange fnExpectFromSpec)) fnExpectFromCard

/-- THE TIED CARD OF 'laws.FnExactGroupOwner'. -/
def fnExactGroupOwnerCard : Claim7 := { stood := { row := fnExactGroupOwnerRow, standIns := [], harness := (true, "287980453748f9d85606f69ef5675ff233e8b8599ead34705c10a871924386ec"), looks := true }, kinds := [], alts := [], laidByText := true, laidKinds := [.sentinel], laidTests := true, laidLooks := .later }
def FnExactGroupOwnerCardSaid : Prop := Claim7.holds Tryd.pinned (.plain (OpenSpec.ofChange fnExactGroupOwnerSpec)) fnExactGroupOwnerCard

/-- THE TIED CARD OF 'laws.FnStripesOrder'. -/
def fnStripesOrderCard : Claim7 := { stood := { row := fnStripesOrderRow, standIns := [], harness := (true, "287980453748f9d85606f69ef5675ff233e8b8599ead34705c10a871924386ec"), looks := true }, kinds := [], alts := [], laidByText := true, laidKinds := [.sentinel], laidTests := true, laidLooks := .later }
def FnStripesOrderCardSaid : Prop := Claim7.holds Tryd.pinned (.plain (OpenSpec.ofChange fnStripesOrderSpec)) fnStripesOrderCard

/-- THE SECOND FORM's CARD OF 'laws.FnNameValid'. -/
def fnNameValidUptoCard : Claim7 := { stood := { row := fnNameValidUptoRow, standIns := [], harness := (true, "287980453748f9d85606f69ef5675ff233e8b8599ead34705c10a871924386ec"), looks := true }, kinds := [], alts := [], laidByText := true, laidKinds := [.sentinel], laidTests := true, laidLooks := .later }
def FnNameValidUptoCardSaid : Prop := Claim7.holds Tryd.pinned (.plain (OpenSpec.upto fnNameValidSpec)) fnNameValidUptoCard

/-- THE SECOND FORM's CARD OF 'laws.FnExpectText'. -/
def fnExpectTextUptoCard : Claim7 := { stood := { row := fnExpectTextUptoRow, standIns := [], harness := (true, "287980453748f9d85606f69ef5675ff233e8b8599ead34705c10a871924386ec"), looks := true }, kinds := [], alts := [], laidByText := true, laidKinds := [.data, .data, .data], laidTests := true, laidLooks := .later }
def FnExpectTextUptoCardSaid : Prop := Claim7.holds Tryd.pinned (.plain (OpenSpec.upto fnExpectTextSpec)) fnExpectTextUptoCard

/-- THE SECOND FORM's CARD OF 'laws.FnStripe'. -/
def fnStripeUptoCard : Claim7 := { stood := { row := fnStripeUptoRow, standIns := [], harness := (true, "287980453748f9d85606f69ef5675ff233e8b8599ead34705c10a871924386ec"), looks := true }, kinds := [], alts := [], laidByText := true, laidKinds := [.sentinel], laidTests := true, laidLooks := .later }
def FnStripeUptoCardSaid : Prop := Claim7.holds Tryd.pinned (.plain (OpenSpec.upto fnStripeSpec)) fnStripeUptoCard

/-- THE SECOND FORM's CARD OF 'laws.FnStripeHalf'. -/
def fnStripeHalfUptoCard : Claim7 := { stood := { row := fnStripeHalfUptoRow, standIns := [], harness := (true, "287980453748f9d85606f69ef5675ff233e8b8599ead34705c10a871924386ec"), looks := true }, kinds := [], alts := [], laidByText := true, laidKinds := [.sentinel], laidTests := true, laidLooks := .later }
def FnStripeHalfUptoCardSaid : Prop := Claim7.holds Tryd.pinned (.plain (OpenSpec.upto fnStripeHalfSpec)) fnStripeHalfUptoCard

/-- THE SECOND FORM's CARD OF 'laws.FnCutsPart'. -/
def fnCutsPartUptoCard : Claim7 := { stood := { row := fnCutsPartUptoRow, standIns := [], harness := (true, "287980453748f9d85606f69ef5675ff233e8b8599ead34705c10a871924386ec"), looks := true }, kinds := [], alts := [], laidByText := true, laidKinds := [.sentinel], laidTests := true, laidLooks := .later }
def FnCutsPartUptoCardSaid : Prop := Claim7.holds Tryd.pinned (.plain (OpenSpec.upto fnCutsPartSpec)) fnCutsPartUptoCard

/-- THE SECOND FORM's CARD OF 'laws.FnExpectFrom'. -/
def fnExpectFromUptoCard : Claim7 := { stood := { row := fnExpectFromUptoRow, standIns := [], harness := (true, "287980453748f9d85606f69ef5675ff233e8b8599ead34705c10a871924386ec"), looks := true }, kinds := [], alts := [], laidByText := true, laidKinds := [.data, .data, .data], laidTests := true, laidLooks := .later }
def FnExpectFromUptoCardSaid : Prop := Claim7.holds Tryd.pinned (.plain (OpenSpec.upto fnExpectFromSpec)) fnExpectFromUptoCard

/-- THE SECOND FORM's CARD OF 'laws.FnExactGroupOwner'. -/
def fnExactGroupOwnerUptoCard : Claim7 := { stood := { row := fnExactGroupOwnerUptoRow, standIns := [], harness := (true, "287980453748f9d85606f69ef5675ff233e8b8599ead34705c10a871924386ec"), looks := true }, kinds := [], alts := [], laidByText := true, laidKinds := [.sentinel], laidTests := true, laidLooks := .later }
def FnExactGroupOwnerUptoCardSaid : Prop := Claim7.holds Tryd.pinned (.plain (OpenSpec.upto fnExactGroupOwnerSpec)) fnExactGroupOwnerUptoCard

/-- THE SECOND FORM's CARD OF 'laws.FnStripesOrder'. -/
def fnStripesOrderUptoCard : Claim7 := { stood := { row := fnStripesOrderUptoRow, standIns := [], harness := (true, "287980453748f9d85606f69ef5675ff233e8b8599ead34705c10a871924386ec"), looks := true }, kinds := [], alts := [], laidByText := true, laidKinds := [.sentinel], laidTests := true, laidLooks := .later }
def FnStripesOrderUptoCardSaid : Prop := Claim7.holds Tryd.pinned (.plain (OpenSpec.upto fnStripesOrderSpec)) fnStripesOrderUptoCard
end Rows
end Go.Proofs.YthkcfolamaajeaaDoor
