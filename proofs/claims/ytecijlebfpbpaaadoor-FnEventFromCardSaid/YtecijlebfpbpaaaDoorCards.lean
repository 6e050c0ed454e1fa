/-
  DERIVED. GIVEN WITH THE SEED: THE CARDS: each row of YtecijlebfpbpaaaDoorRows.lean that lists a variable, with what it lists TIED to the program's text (the seventh form; the later family's looks); each row that meets fmt, with fmt's text TOLD by the authors' own Lean function (tested against real Go, not proved from fmt's source: count such statements apart). THE CARD IS WHAT COUNTS. Prove the row's statement (the work); the ties are given (YtecijlebfpbpaaaDoorTie.lean); close each card by the builder's one call (the guide's Derived/Test/ToyasCard.lean, 'card_holds'). Laid BY PROGRAM, IN A SANDBOX (cutbox-door.mjs). By AI agents, Wed Nov 11 2026. No macro, syntax, notation, axiom, sorry.
-/
import Derived.Test.YtecijlebfpbpaaaDoorRows
import GoSem.ClaimSeven
namespace Go.Proofs.YtecijlebfpbpaaaDoor
namespace Rows

/-- THE TIED CARD OF 'laws.FnExactGroupOwner'. -/
def fnExactGroupOwnerCard : Claim7 := { stood := { row := fnExactGroupOwnerRow, standIns := [], harness := (true, "a83c138468b9b3aa6d0527bbd883d013159f20aa8c1966c8a39e6fb1da407bb9"), looks := true }, kinds := [], alts := [], laidByText := true, laidKinds := [.sentinel], laidTests := true, laidLooks := .later }
def FnExactGroupOwnerCardSaid : Prop := Claim7.holds Tryd.pinned (.plain (OpenSpec.ofChange fnExactGroupOwnerSpec)) fnExactGroupOwnerCard

/-- THE TIED CARD OF 'laws.FnEventBlank'. -/
def fnEventBlankCard : Claim7 := { stood := { row := fnEventBlankRow, standIns := [], harness := (true, "a83c138468b9b3aa6d0527bbd883d013159f20aa8c1966c8a39e6fb1da407bb9"), looks := true }, kinds := [], alts := [], laidByText := true, laidKinds := [.data, .pinned], laidTests := true, laidLooks := .later }
def FnEventBlankCardSaid : Prop := Claim7.holds Tryd.pinned (.plain (OpenSpec.ofChange fnEventBlankSpec)) fnEventBlankCard

/-- THE TIED CARD OF 'laws.FnStripesOrder'. -/
def fnStripesOrderCard : Claim7 := { stood := { row := fnStripesOrderRow, standIns := [], harness := (true, "a83c138468b9b3aa6d0527bbd883d013159f20aa8c1966c8a39e6fb1da407bb9"), looks := true }, kinds := [], alts := [], laidByText := true, laidKinds := [.sentinel], laidTests := true, laidLooks := .later }
def FnStripesOrderCardSaid : Prop := Claim7.holds Tryd.pinned (.plain (OpenSpec.ofChange fnStripesOrderSpec)) fnStripesOrderCard

/-- THE TIED CARD OF 'laws.FnStripes'. -/
def fnStripesCard : Claim7 := { stood := { row := fnStripesRow, standIns := [], harness := (true, "a83c138468b9b3aa6d0527bbd883d013159f20aa8c1966c8a39e6fb1da407bb9"), looks := true }, kinds := [], alts := [], laidByText := true, laidKinds := [.sentinel], laidTests := true, laidLooks := .later }
def FnStripesCardSaid : Prop := Claim7.holds Tryd.pinned (.plain (OpenSpec.ofChange fnStripesSpec)) fnStripesCard

/-- THE TIED CARD OF 'laws.FnOwner'. -/
def fnOwnerCard : Claim7 := { stood := { row := fnOwnerRow, standIns := [], harness := (true, "a83c138468b9b3aa6d0527bbd883d013159f20aa8c1966c8a39e6fb1da407bb9"), looks := true }, kinds := [], alts := [], laidByText := true, laidKinds := [.sentinel], laidTests := true, laidLooks := .later }
def FnOwnerCardSaid : Prop := Claim7.holds Tryd.pinned (.plain (OpenSpec.ofChange fnOwnerSpec)) fnOwnerCard

/-- THE TIED CARD OF 'laws.FnName'. -/
def fnNameCard : Claim7 := { stood := { row := fnNameRow, standIns := [], harness := (true, "a83c138468b9b3aa6d0527bbd883d013159f20aa8c1966c8a39e6fb1da407bb9"), looks := true }, kinds := [], alts := [], laidByText := true, laidKinds := [.data, .data, .data, .sentinel], laidTests := true, laidLooks := .later }
def FnNameCardSaid : Prop := Claim7.holds Tryd.pinned (.plain (OpenSpec.ofChange fnNameSpec)) fnNameCard

/-- THE TIED CARD OF 'laws.FnEventText'. -/
def fnEventTextCard : Claim7 := { stood := { row := fnEventTextRow, standIns := [], harness := (true, "a83c138468b9b3aa6d0527bbd883d013159f20aa8c1966c8a39e6fb1da407bb9"), looks := true }, kinds := [], alts := [], laidByText := true, laidKinds := [.data, .data, .data, .data, .pinned], laidTests := true, laidLooks := .later }
def FnEventTextCardSaid : Prop := Claim7.holds Tryd.pinned (.plain (OpenSpec.ofChange fnEventTextSpec)) fnEventTextCard

/-- THE TIED CARD OF 'laws.FnEventFrom'. -/
def fnEventFromCard : Claim7 := { stood := { row := fnEventFromRow, standIns := [], harness := (true, "a83c138468b9b3aa6d0527bbd883d013159f20aa8c1966c8a39e6fb1da407bb9"), looks := true }, kinds := [], alts := [], laidByText := true, laidKinds := [.data, .data, .data, .data, .pinned], laidTests := true, laidLooks := .later }
def FnEventFromCardSaid : Prop := Claim7.holds Tryd.pinned (.plain (OpenSpec.ofChange fnEventFromSpec)) fnEventFromCard

/-- THE SECOND FORM's CARD OF 'laws.FnExactGroupOwner'. -/
def fnExactGroupOwnerUptoCard : Claim7 := { stood := { row := fnExactGroupOwnerUptoRow, standIns := [], harness := (true, "a83c138468b9b3aa6d0527bbd883d013159f20aa8c1966c8a39e6fb1da407bb9"), looks := true }, kinds := [], alts := [], laidByText := true, laidKinds := [.sentinel], laidTests := true, laidLooks := .later }
def FnExactGroupOwnerUptoCardSaid : Prop := Claim7.holds Tryd.pinned (.plain (OpenSpec.upto fnExactGroupOwnerSpec)) fnExactGroupOwnerUptoCard

/-- THE SECOND FORM's CARD OF 'laws.FnEventBlank'. -/
def fnEventBlankUptoCard : Claim7 := { stood := { row := fnEventBlankUptoRow, standIns := [], harness := (true, "a83c138468b9b3aa6d0527bbd883d013159f20aa8c1966c8a39e6fb1da407bb9"), looks := true }, kinds := [], alts := [], laidByText := true, laidKinds := [.data, .pinned], laidTests := true, laidLooks := .later }
def FnEventBlankUptoCardSaid : Prop := Claim7.holds Tryd.pinned (.plain (OpenSpec.upto fnEventBlankSpec)) fnEventBlankUptoCard

/-- THE SECOND FORM's CARD OF 'laws.FnStripesOrder'. -/
def fnStripesOrderUptoCard : Claim7 := { stood := { row := fnStripesOrderUptoRow, standIns := [], harness := (true, "a83c138468b9b3aa6d0527bbd883d013159f20aa8c1966c8a39e6fb1da407bb9"), looks := true }, kinds := [], alts := [], laidByText := true, laidKinds := [.sentinel], laidTests := true, laidLooks := .later }
def FnStripesOrderUptoCardSaid : Prop := Claim7.holds Tryd.pinned (.plain (OpenSpec.upto fnStripesOrderSpec)) fnStripesOrderUptoCard

/-- THE SECOND FORM's CARD OF 'laws.FnStripes'. -/
def fnStripesUptoCard : Claim7 := { stood := { row := fnStripesUptoRow, standIns := [], harness := (true, "a83c138468b9b3aa6d0527bbd883d013159f20aa8c1966c8a39e6fb1da407bb9"), looks := true }, kinds := [], alts := [], laidByText := true, laidKinds := [.sentinel], laidTests := true, laidLooks := .later }
def FnStripesUptoCardSaid : Prop := Claim7.holds Tryd.pinned (.plain (OpenSpec.upto fnStripesSpec)) fnStripesUptoCard

/-- THE SECOND FORM's CARD OF 'laws.FnOwner'. -/
def fnOwnerUptoCard : Claim7 := { stood := { row := fnOwnerUptoRow, standIns := [], harness := (true, "a83c138468b9b3aa6d0527bbd883d013159f20aa8c1966c8a39e6fb1da407bb9"), looks := true }, kinds := [], alts := [], laidByText := true, laidKinds := [.sentinel], laidTests := true, laidLooks := .later }
def FnOwnerUptoCardSaid : Prop := Claim7.holds Tryd.pinned (.plain (OpenSpec.upto fnOwnerSpec)) fnOwnerUptoCard

/-- THE SECOND FORM's CARD OF 'laws.FnName'. -/
def fnNameUptoCard : Claim7 := { stood := { row := fnNameUptoRow, standIns := [], harness := (true, "a83c138468b9b3aa6d0527bbd883d013159f20aa8c1966c8a39e6fb1da407bb9"), looks := true }, kinds := [], alts := [], laidByText := true, laidKinds := [.data, .data, .data, .sentinel], laidTests := true, laidLooks := .later }
def FnNameUptoCardSaid : Prop := Claim7.holds Tryd.pinned (.plain (OpenSpec.upto fnNameSpec)) fnNameUptoCard

/-- THE SECOND FORM's CARD OF 'laws.FnEventText'. -/
def fnEventTextUptoCard : Claim7 := { stood := { row := fnEventTextUptoRow, standIns := [], harness := (true, "a83c138468b9b3aa6d0527bbd883d013159f20aa8c1966c8a39e6fb1da407bb9"), looks := true }, kinds := [], alts := [], laidByText := true, laidKinds := [.data, .data, .data, .data, .pinned], laidTests := true, laidLooks := .later }
def FnEventTextUptoCardSaid : Prop := Claim7.holds Tryd.pinned (.plain (OpenSpec.upto fnEventTextSpec)) fnEventTextUptoCard

/-- THE SECOND FORM's CARD OF 'laws.FnEventFrom'. -/
def fnEventFromUptoCard : Claim7 := { stood := { row := fnEventFromUptoRow, standIns := [], harness := (true, "a83c138468b9b3aa6d0527bbd883d013159f20aa8c1966c8a39e6fb1da407bb9"), looks := true }, kinds := [], alts := [], laidByText := true, laidKinds := [.data, .data, .data, .data, .pinned], laidTests := true, laidLooks := .later }
def FnEventFromUptoCardSaid : Prop := Claim7.holds Tryd.pinned (.plain (OpenSpec.upto fnEventFromSpec)) fnEventFromUptoCard
end Rows
end Go.Proofs.YtecijlebfpbpaaaDoor
