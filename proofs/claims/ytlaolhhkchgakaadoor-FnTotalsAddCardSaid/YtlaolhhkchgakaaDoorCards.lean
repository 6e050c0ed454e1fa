/-
  DERIVED. GIVEN WITH THE SEED: THE CARDS: each row of YtlaolhhkchgakaaDoorRows.lean that lists a variable, with what it lists TIED to the program's text (the seventh form; the later family's looks); each row that meets fmt, with fmt's text TOLD by the authors' own Lean function (tested against real Go, not proved from fmt's source: count such statements apart). THE CARD IS WHAT COUNTS. Prove the row's statement (the work); the ties are given (YtlaolhhkchgakaaDoorTie.lean); close each card by the builder's one call (the guide's Derived/Test/ToyasCard.lean, 'card_holds'). Laid BY PROGRAM, IN A SANDBOX (cutbox-door.mjs). By AI agents, Wed Nov 11 2026. No macro, syntax, notation, axiom, sorry.
-/
import Derived.Test.YtlaolhhkchgakaaDoorRows
import GoSem.ClaimSeven
namespace Go.Proofs.YtlaolhhkchgakaaDoor
namespace Rows

/-- THE TIED CARD OF 'laws.FnTotalsEach'. -/
def fnTotalsEachCard : Claim7 := { stood := { row := fnTotalsEachRow, standIns := [], harness := (true, "9c2f389ac320bd78ec77005af8edc10895cced67eaee181488a915a023ce2780"), looks := true }, kinds := [], alts := [], laidByText := true, laidKinds := [.sentinel], laidTests := true, laidLooks := .later }
def FnTotalsEachCardSaid : Prop := Claim7.holds Tryd.pinned (.plain (OpenSpec.ofChange fnTotalsEachSpec)) fnTotalsEachCard

/-- THE TIED CARD OF 'laws.FnKinds'. -/
def fnKindsCard : Claim7 := { stood := { row := fnKindsRow, standIns := [], harness := (true, "9c2f389ac320bd78ec77005af8edc10895cced67eaee181488a915a023ce2780"), looks := true }, kinds := [], alts := [], laidByText := true, laidKinds := [.sentinel], laidTests := true, laidLooks := .later }
def FnKindsCardSaid : Prop := Claim7.holds Tryd.pinned (.plain (OpenSpec.ofChange fnKindsSpec)) fnKindsCard

/-- THE TIED CARD OF 'laws.FnTotalsAdd'. -/
def fnTotalsAddCard : Claim7 := { stood := { row := fnTotalsAddRow, standIns := [], harness := (true, "9c2f389ac320bd78ec77005af8edc10895cced67eaee181488a915a023ce2780"), looks := true }, kinds := [], alts := [], laidByText := true, laidKinds := [.sentinel], laidTests := true, laidLooks := .later }
def FnTotalsAddCardSaid : Prop := Claim7.holds Tryd.pinned (.plain (OpenSpec.ofChange fnTotalsAddSpec)) fnTotalsAddCard

/-- THE TIED CARD OF 'laws.FnTotals'. -/
def fnTotalsCard : Claim7 := { stood := { row := fnTotalsRow, standIns := [], harness := (true, "9c2f389ac320bd78ec77005af8edc10895cced67eaee181488a915a023ce2780"), looks := true }, kinds := [], alts := [], laidByText := true, laidKinds := [.sentinel], laidTests := true, laidLooks := .later }
def FnTotalsCardSaid : Prop := Claim7.holds Tryd.pinned (.plain (OpenSpec.ofChange fnTotalsSpec)) fnTotalsCard

/-- THE TIED CARD OF 'laws.FnKindsAdd'. -/
def fnKindsAddCard : Claim7 := { stood := { row := fnKindsAddRow, standIns := [], harness := (true, "9c2f389ac320bd78ec77005af8edc10895cced67eaee181488a915a023ce2780"), looks := true }, kinds := [], alts := [], laidByText := true, laidKinds := [.sentinel], laidTests := true, laidLooks := .later }
def FnKindsAddCardSaid : Prop := Claim7.holds Tryd.pinned (.plain (OpenSpec.ofChange fnKindsAddSpec)) fnKindsAddCard

/-- THE TIED CARD OF 'laws.FnKindsFind'. -/
def fnKindsFindCard : Claim7 := { stood := { row := fnKindsFindRow, standIns := [], harness := (true, "9c2f389ac320bd78ec77005af8edc10895cced67eaee181488a915a023ce2780"), looks := true }, kinds := [], alts := [], laidByText := true, laidKinds := [.sentinel], laidTests := true, laidLooks := .later }
def FnKindsFindCardSaid : Prop := Claim7.holds Tryd.pinned (.plain (OpenSpec.ofChange fnKindsFindSpec)) fnKindsFindCard

/-- THE TIED CARD OF 'laws.FnTotalsOne'. -/
def fnTotalsOneCard : Claim7 := { stood := { row := fnTotalsOneRow, standIns := [], harness := (true, "9c2f389ac320bd78ec77005af8edc10895cced67eaee181488a915a023ce2780"), looks := true }, kinds := [], alts := [], laidByText := true, laidKinds := [.sentinel], laidTests := true, laidLooks := .later }
def FnTotalsOneCardSaid : Prop := Claim7.holds Tryd.pinned (.plain (OpenSpec.ofChange fnTotalsOneSpec)) fnTotalsOneCard

/-- THE SECOND FORM's CARD OF 'laws.FnTotalsEach'. -/
def fnTotalsEachUptoCard : Claim7 := { stood := { row := fnTotalsEachUptoRow, standIns := [], harness := (true, "9c2f389ac320bd78ec77005af8edc10895cced67eaee181488a915a023ce2780"), looks := true }, kinds := [], alts := [], laidByText := true, laidKinds := [.sentinel], laidTests := true, laidLooks := .later }
def FnTotalsEachUptoCardSaid : Prop := Claim7.holds Tryd.pinned (.plain (OpenSpec.upto fnTotalsEachSpec)) fnTotalsEachUptoCard

/-- THE SECOND FORM's CARD OF 'laws.FnKinds'. -/
def fnKindsUptoCard : Claim7 := { stood := { row := fnKindsUptoRow, standIns := [], harness := (true, "9c2f389ac320bd78ec77005af8edc10895cced67eaee181488a915a023ce2780"), looks := true }, kinds := [], alts := [], laidByText := true, laidKinds := [.sentinel], laidTests := true, laidLooks := .later }
def FnKindsUptoCardSaid : Prop := Claim7.holds Tryd.pinned (.plain (OpenSpec.upto fnKindsSpec)) fnKindsUptoCard

/-- THE SECOND FORM's CARD OF 'laws.FnTotalsAdd'. -/
def fnTotalsAddUptoCard : Claim7 := { stood := { row := fnTotalsAddUptoRow, standIns := [], harness := (true, "9c2f389ac320bd78ec77005af8edc10895cced67eaee181488a915a023ce2780"), looks := true }, kinds := [], alts := [], laidByText := true, laidKinds := [.sentinel], laidTests := true, laidLooks := .later }
def FnTotalsAddUptoCardSaid : Prop := Claim7.holds Tryd.pinned (.plain (OpenSpec.upto fnTotalsAddSpec)) fnTotalsAddUptoCard

/-- THE SECOND FORM's CARD OF 'laws.FnTotals'. -/
def fnTotalsUptoCard : Claim7 := { stood := { row := fnTotalsUptoRow, standIns := [], harness := (true, "9c2f389ac320bd78ec77005af8edc10895cced67eaee181488a915a023ce2780"), looks := true }, kinds := [], alts := [], laidByText := true, laidKinds := [.sentinel], laidTests := true, laidLooks := .later }
def FnTotalsUptoCardSaid : Prop := Claim7.holds Tryd.pinned (.plain (OpenSpec.upto fnTotalsSpec)) fnTotalsUptoCard

/-- THE SECOND FORM's CARD OF 'laws.FnKindsAdd'. -/
def fnKindsAddUptoCard : Claim7 := { stood := { row := fnKindsAddUptoRow, standIns := [], harness := (true, "9c2f389ac320bd78ec77005af8edc10895cced67eaee181488a915a023ce2780"), looks := true }, kinds := [], alts := [], laidByText := true, laidKinds := [.sentinel], laidTests := true, laidLooks := .later }
def FnKindsAddUptoCardSaid : Prop := Claim7.holds Tryd.pinned (.plain (OpenSpec.upto fnKindsAddSpec)) fnKindsAddUptoCard

/-- THE SECOND FORM's CARD OF 'laws.FnKindsFind'. -/
def fnKindsFindUptoCard : Claim7 := { stood := { row := fnKindsFindUptoRow, standIns := [], harness := (true, "9c2f389ac320bd78ec77005af8edc10895cced67eaee181488a915a023ce2780"), looks := true }, kinds := [], alts := [], laidByText := true, laidKinds := [.sentinel], laidTests := true, laidLooks := .later }
def FnKindsFindUptoCardSaid : Prop := Claim7.holds Tryd.pinned (.plain (OpenSpec.upto fnKindsFindSpec)) fnKindsFindUptoCard

/-- THE SECOND FORM's CARD OF 'laws.FnTotalsOne'. -/
def fnTotalsOneUptoCard : Claim7 := { stood := { row := fnTotalsOneUptoRow, standIns := [], harness := (true, "9c2f389ac320bd78ec77005af8edc10895cced67eaee181488a915a023ce2780"), looks := true }, kinds := [], alts := [], laidByText := true, laidKinds := [.sentinel], laidTests := true, laidLooks := .later }
def FnTotalsOneUptoCardSaid : Prop := Claim7.holds Tryd.pinned (.plain (OpenSpec.upto fnTotalsOneSpec)) fnTotalsOneUptoCard
end Rows
end Go.Proofs.YtlaolhhkchgakaaDoor
