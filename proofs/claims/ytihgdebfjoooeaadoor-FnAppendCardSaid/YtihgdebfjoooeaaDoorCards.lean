/-
  DERIVED. GIVEN WITH THE SEED: THE CARDS: each row of YtihgdebfjoooeaaDoorRows.lean that lists a variable, with what it lists TIED to the program's text (the seventh form; the later family's looks); each row that meets fmt, with fmt's text TOLD by the authors' own Lean function (tested against real Go, not proved from fmt's source: count such statements apart). THE CARD IS WHAT COUNTS. Prove the row's statement (the work); the ties are given (YtihgdebfjoooeaaDoorTie.lean); close each card by the builder's one call (the guide's Derived/Test/ToyasCard.lean, 'card_holds'). Laid BY PROGRAM, IN A SANDBOX (cutbox-door.mjs). By AI agents, Wed Nov 11 2026. No macro, syntax, notation, axiom, sorry.
-/
import Derived.Test.YtihgdebfjoooeaaDoorRows
import GoSem.ClaimSeven
namespace Go.Proofs.YtihgdebfjoooeaaDoor
namespace Rows

/-- THE TIED CARD OF 'laws.FnWrite'. -/
def fnWriteCard : Claim7 := { stood := { row := fnWriteRow, standIns := [], harness := (true, "53d7e023c9a5e8d92730e0c7b1c44eba6831504b4d5082decb77b8653b4c3752"), looks := true }, kinds := [], alts := [], laidByText := true, laidKinds := [.sentinel], laidTests := true, laidLooks := .later }
def FnWriteCardSaid : Prop := Claim7.holds Tryd.pinned (.plain (OpenSpec.ofChange fnWriteSpec)) fnWriteCard

/-- THE TIED CARD OF 'laws.FnStorePart'. -/
def fnStorePartCard : Claim7 := { stood := { row := fnStorePartRow, standIns := [], harness := (true, "53d7e023c9a5e8d92730e0c7b1c44eba6831504b4d5082decb77b8653b4c3752"), looks := true }, kinds := [], alts := [], laidByText := true, laidKinds := [.sentinel], laidTests := true, laidLooks := .later }
def FnStorePartCardSaid : Prop := Claim7.holds Tryd.pinned (.plain (OpenSpec.ofChange fnStorePartSpec)) fnStorePartCard

/-- THE TIED CARD OF 'laws.FnWriteAgain'. -/
def fnWriteAgainCard : Claim7 := { stood := { row := fnWriteAgainRow, standIns := [], harness := (true, "53d7e023c9a5e8d92730e0c7b1c44eba6831504b4d5082decb77b8653b4c3752"), looks := true }, kinds := [], alts := [], laidByText := true, laidKinds := [.sentinel], laidTests := true, laidLooks := .later }
def FnWriteAgainCardSaid : Prop := Claim7.holds Tryd.pinned (.plain (OpenSpec.ofChange fnWriteAgainSpec)) fnWriteAgainCard

/-- THE TIED CARD OF 'laws.FnAll'. -/
def fnAllCard : Claim7 := { stood := { row := fnAllRow, standIns := [], harness := (true, "53d7e023c9a5e8d92730e0c7b1c44eba6831504b4d5082decb77b8653b4c3752"), looks := true }, kinds := [], alts := [], laidByText := true, laidKinds := [.sentinel], laidTests := true, laidLooks := .later }
def FnAllCardSaid : Prop := Claim7.holds Tryd.pinned (.plain (OpenSpec.ofChange fnAllSpec)) fnAllCard

/-- THE TIED CARD OF 'laws.FnVersion'. -/
def fnVersionCard : Claim7 := { stood := { row := fnVersionRow, standIns := [], harness := (true, "53d7e023c9a5e8d92730e0c7b1c44eba6831504b4d5082decb77b8653b4c3752"), looks := true }, kinds := [], alts := [], laidByText := true, laidKinds := [.sentinel], laidTests := true, laidLooks := .later }
def FnVersionCardSaid : Prop := Claim7.holds Tryd.pinned (.plain (OpenSpec.ofChange fnVersionSpec)) fnVersionCard

/-- THE TIED CARD OF 'laws.FnRead'. -/
def fnReadCard : Claim7 := { stood := { row := fnReadRow, standIns := [], harness := (true, "53d7e023c9a5e8d92730e0c7b1c44eba6831504b4d5082decb77b8653b4c3752"), looks := true }, kinds := [], alts := [], laidByText := true, laidKinds := [.sentinel], laidTests := true, laidLooks := .later }
def FnReadCardSaid : Prop := Claim7.holds Tryd.pinned (.plain (OpenSpec.ofChange fnReadSpec)) fnReadCard

/-- THE TIED CARD OF 'laws.FnWriteFine'. -/
def fnWriteFineCard : Claim7 := { stood := { row := fnWriteFineRow, standIns := [], harness := (true, "53d7e023c9a5e8d92730e0c7b1c44eba6831504b4d5082decb77b8653b4c3752"), looks := true }, kinds := [], alts := [], laidByText := true, laidKinds := [.sentinel], laidTests := true, laidLooks := .later }
def FnWriteFineCardSaid : Prop := Claim7.holds Tryd.pinned (.plain (OpenSpec.ofChange fnWriteFineSpec)) fnWriteFineCard

/-- THE TIED CARD OF 'laws.FnReadOrder'. -/
def fnReadOrderCard : Claim7 := { stood := { row := fnReadOrderRow, standIns := [], harness := (true, "53d7e023c9a5e8d92730e0c7b1c44eba6831504b4d5082decb77b8653b4c3752"), looks := true }, kinds := [], alts := [], laidByText := true, laidKinds := [.sentinel], laidTests := true, laidLooks := .later }
def FnReadOrderCardSaid : Prop := Claim7.holds Tryd.pinned (.plain (OpenSpec.ofChange fnReadOrderSpec)) fnReadOrderCard

/-- THE TIED CARD OF 'laws.FnFindNone'. -/
def fnFindNoneCard : Claim7 := { stood := { row := fnFindNoneRow, standIns := [], harness := (true, "53d7e023c9a5e8d92730e0c7b1c44eba6831504b4d5082decb77b8653b4c3752"), looks := true }, kinds := [], alts := [], laidByText := true, laidKinds := [.sentinel], laidTests := true, laidLooks := .later }
def FnFindNoneCardSaid : Prop := Claim7.holds Tryd.pinned (.plain (OpenSpec.ofChange fnFindNoneSpec)) fnFindNoneCard

/-- THE TIED CARD OF 'laws.FnFind'. -/
def fnFindCard : Claim7 := { stood := { row := fnFindRow, standIns := [], harness := (true, "53d7e023c9a5e8d92730e0c7b1c44eba6831504b4d5082decb77b8653b4c3752"), looks := true }, kinds := [], alts := [], laidByText := true, laidKinds := [.sentinel], laidTests := true, laidLooks := .later }
def FnFindCardSaid : Prop := Claim7.holds Tryd.pinned (.plain (OpenSpec.ofChange fnFindSpec)) fnFindCard

/-- THE TIED CARD OF 'laws.FnAppend'. -/
def fnAppendCard : Claim7 := { stood := { row := fnAppendRow, standIns := [], harness := (true, "53d7e023c9a5e8d92730e0c7b1c44eba6831504b4d5082decb77b8653b4c3752"), looks := true }, kinds := [], alts := [], laidByText := true, laidKinds := [.sentinel], laidTests := true, laidLooks := .later }
def FnAppendCardSaid : Prop := Claim7.holds Tryd.pinned (.plain (OpenSpec.ofChange fnAppendSpec)) fnAppendCard

/-- THE TIED CARD OF 'laws.FnAppendTwo'. -/
def fnAppendTwoCard : Claim7 := { stood := { row := fnAppendTwoRow, standIns := [], harness := (true, "53d7e023c9a5e8d92730e0c7b1c44eba6831504b4d5082decb77b8653b4c3752"), looks := true }, kinds := [], alts := [], laidByText := true, laidKinds := [.sentinel], laidTests := true, laidLooks := .later }
def FnAppendTwoCardSaid : Prop := Claim7.holds Tryd.pinned (.plain (OpenSpec.ofChange fnAppendTwoSpec)) fnAppendTwoCard

/-- THE SECOND FORM's CARD OF 'laws.FnWrite'. -/
def fnWriteUptoCard : Claim7 := { stood := { row := fnWriteUptoRow, standIns := [], harness := (true, "53d7e023c9a5e8d92730e0c7b1c44eba6831504b4d5082decb77b8653b4c3752"), looks := true }, kinds := [], alts := [], laidByText := true, laidKinds := [.sentinel], laidTests := true, laidLooks := .later }
def FnWriteUptoCardSaid : Prop := Claim7.holds Tryd.pinned (.plain (OpenSpec.upto fnWriteSpec)) fnWriteUptoCard

/-- THE SECOND FORM's CARD OF 'laws.FnStorePart'. -/
def fnStorePartUptoCard : Claim7 := { stood := { row := fnStorePartUptoRow, standIns := [], harness := (true, "53d7e023c9a5e8d92730e0c7b1c44eba6831504b4d5082decb77b8653b4c3752"), looks := true }, kinds := [], alts := [], laidByText := true, laidKinds := [.sentinel], laidTests := true, laidLooks := .later }
def FnStorePartUptoCardSaid : Prop := Claim7.holds Tryd.pinned (.plain (OpenSpec.upto fnStorePartSpec)) fnStorePartUptoCard

/-- THE SECOND FORM's CARD OF 'laws.FnWriteAgain'. -/
def fnWriteAgainUptoCard : Claim7 := { stood := { row := fnWriteAgainUptoRow, standIns := [], harness := (true, "53d7e023c9a5e8d92730e0c7b1c44eba6831504b4d5082decb77b8653b4c3752"), looks := true }, kinds := [], alts := [], laidByText := true, laidKinds := [.sentinel], laidTests := true, laidLooks := .later }
def FnWriteAgainUptoCardSaid : Prop := Claim7.holds Tryd.pinned (.plain (OpenSpec.upto fnWriteAgainSpec)) fnWriteAgainUptoCard

/-- THE SECOND FORM's CARD OF 'laws.FnAll'. -/
def fnAllUptoCard : Claim7 := { stood := { row := fnAllUptoRow, standIns := [], harness := (true, "53d7e023c9a5e8d92730e0c7b1c44eba6831504b4d5082decb77b8653b4c3752"), looks := true }, kinds := [], alts := [], laidByText := true, laidKinds := [.sentinel], laidTests := true, laidLooks := .later }
def FnAllUptoCardSaid : Prop := Claim7.holds Tryd.pinned (.plain (OpenSpec.upto fnAllSpec)) fnAllUptoCard

/-- THE SECOND FORM's CARD OF 'laws.FnVersion'. -/
def fnVersionUptoCard : Claim7 := { stood := { row := fnVersionUptoRow, standIns := [], harness := (true, "53d7e023c9a5e8d92730e0c7b1c44eba6831504b4d5082decb77b8653b4c3752"), looks := true }, kinds := [], alts := [], laidByText := true, laidKinds := [.sentinel], laidTests := true, laidLooks := .later }
def FnVersionUptoCardSaid : Prop := Claim7.holds Tryd.pinned (.plain (OpenSpec.upto fnVersionSpec)) fnVersionUptoCard

/-- THE SECOND FORM's CARD OF 'laws.FnRead'. -/
def fnReadUptoCard : Claim7 := { stood := { row := fnReadUptoRow, standIns := [], harness := (true, "53d7e023c9a5e8d92730e0c7b1c44eba6831504b4d5082decb77b8653b4c3752"), looks := true }, kinds := [], alts := [], laidByText := true, laidKinds := [.sentinel], laidTests := true, laidLooks := .later }
def FnReadUptoCardSaid : Prop := Claim7.holds Tryd.pinned (.plain (OpenSpec.upto fnReadSpec)) fnReadUptoCard

/-- THE SECOND FORM's CARD OF 'laws.FnWriteFine'. -/
def fnWriteFineUptoCard : Claim7 := { stood := { row := fnWriteFineUptoRow, standIns := [], harness := (true, "53d7e023c9a5e8d92730e0c7b1c44eba6831504b4d5082decb77b8653b4c3752"), looks := true }, kinds := [], alts := [], laidByText := true, laidKinds := [.sentinel], laidTests := true, laidLooks := .later }
def FnWriteFineUptoCardSaid : Prop := Claim7.holds Tryd.pinned (.plain (OpenSpec.upto fnWriteFineSpec)) fnWriteFineUptoCard

/-- THE SECOND FORM's CARD OF 'laws.FnReadOrder'. -/
def fnReadOrderUptoCard : Claim7 := { stood := { row := fnReadOrderUptoRow, standIns := [], harness := (true, "53d7e023c9a5e8d92730e0c7b1c44eba6831504b4d5082decb77b8653b4c3752"), looks := true }, kinds := [], alts := [], laidByText := true, laidKinds := [.sentinel], laidTests := true, laidLooks := .later }
def FnReadOrderUptoCardSaid : Prop := Claim7.holds Tryd.pinned (.plain (OpenSpec.upto fnReadOrderSpec)) fnReadOrderUptoCard

/-- THE SECOND FORM's CARD OF 'laws.FnFindNone'. -/
def fnFindNoneUptoCard : Claim7 := { stood := { row := fnFindNoneUptoRow, standIns := [], harness := (true, "53d7e023c9a5e8d92730e0c7b1c44eba6831504b4d5082decb77b8653b4c3752"), looks := true }, kinds := [], alts := [], laidByText := true, laidKinds := [.sentinel], laidTests := true, laidLooks := .later }
def FnFindNoneUptoCardSaid : Prop := Claim7.holds Tryd.pinned (.plain (OpenSpec.upto fnFindNoneSpec)) fnFindNoneUptoCard

/-- THE SECOND FORM's CARD OF 'laws.FnFind'. -/
def fnFindUptoCard : Claim7 := { stood := { row := fnFindUptoRow, standIns := [], harness := (true, "53d7e023c9a5e8d92730e0c7b1c44eba6831504b4d5082decb77b8653b4c3752"), looks := true }, kinds := [], alts := [], laidByText := true, laidKinds := [.sentinel], laidTests := true, laidLooks := .later }
def FnFindUptoCardSaid : Prop := Claim7.holds Tryd.pinned (.plain (OpenSpec.upto fnFindSpec)) fnFindUptoCard

/-- THE SECOND FORM's CARD OF 'laws.FnAppend'. -/
def fnAppendUptoCard : Claim7 := { stood := { row := fnAppendUptoRow, standIns := [], harness := (true, "53d7e023c9a5e8d92730e0c7b1c44eba6831504b4d5082decb77b8653b4c3752"), looks := true }, kinds := [], alts := [], laidByText := true, laidKinds := [.sentinel], laidTests := true, laidLooks := .later }
def FnAppendUptoCardSaid : Prop := Claim7.holds Tryd.pinned (.plain (OpenSpec.upto fnAppendSpec)) fnAppendUptoCard

/-- THE SECOND FORM's CARD OF 'laws.FnAppendTwo'. -/
def fnAppendTwoUptoCard : Claim7 := { stood := { row := fnAppendTwoUptoRow, standIns := [], harness := (true, "53d7e023c9a5e8d92730e0c7b1c44eba6831504b4d5082decb77b8653b4c3752"), looks := true }, kinds := [], alts := [], laidByText := true, laidKinds := [.sentinel], laidTests := true, laidLooks := .later }
def FnAppendTwoUptoCardSaid : Prop := Claim7.holds Tryd.pinned (.plain (OpenSpec.upto fnAppendTwoSpec)) fnAppendTwoUptoCard
end Rows
end Go.Proofs.YtihgdebfjoooeaaDoor
