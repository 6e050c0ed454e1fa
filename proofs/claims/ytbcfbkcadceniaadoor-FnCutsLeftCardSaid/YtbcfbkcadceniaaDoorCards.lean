/-
  DERIVED. GIVEN WITH THE SEED: THE CARDS: each row of YtbcfbkcadceniaaDoorRows.lean that lists a variable, with what it lists TIED to the program's text (the seventh form; the later family's looks); each row that meets fmt, with fmt's text TOLD by the authors' own Lean function (tested against real Go, not proved from fmt's source: count such statements apart). THE CARD IS WHAT COUNTS. Prove the row's statement (the work); the ties are given (YtbcfbkcadceniaaDoorTie.lean); close each card by the builder's one call (the guide's Derived/Test/ToyasCard.lean, 'card_holds'). Laid BY PROGRAM, IN A SANDBOX (cutbox-door.mjs). By AI agents, Wed Nov 11 2026. No macro, syntax, notation, axiom, sorry.
-/
import Derived.Test.YtbcfbkcadceniaaDoorRows
import GoSem.ClaimSeven
namespace Go.Proofs.YtbcfbkcadceniaaDoor
namespace Rows

/-- THE TIED CARD OF 'laws.FnCutsLeft'. -/
def fnCutsLeftCard : Claim7 := { stood := { row := fnCutsLeftRow, standIns := [], harness := (true, "b01189191129f43d2a686d7453b4e49a07dea9de69e206b44fb1bdba8f799e5d"), looks := true }, kinds := [], alts := [], laidByText := true, laidKinds := [.sentinel], laidTests := true, laidLooks := .later }
def FnCutsLeftCardSaid : Prop := Claim7.holds Tryd.pinned (.plain (OpenSpec.ofChange fnCutsLeftSpec)) fnCutsLeftCard

/-- THE TIED CARD OF 'laws.FnCutsPart'. -/
def fnCutsPartCard : Claim7 := { stood := { row := fnCutsPartRow, standIns := [], harness := (true, "b01189191129f43d2a686d7453b4e49a07dea9de69e206b44fb1bdba8f799e5d"), looks := true }, kinds := [], alts := [], laidByText := true, laidKinds := [.sentinel], laidTests := true, laidLooks := .later }
def FnCutsPartCardSaid : Prop := Claim7.holds Tryd.pinned (.plain (OpenSpec.ofChange fnCutsPartSpec)) fnCutsPartCard

/-- THE TIED CARD OF 'laws.FnCutsPut'. -/
def fnCutsPutCard : Claim7 := { stood := { row := fnCutsPutRow, standIns := [], harness := (true, "b01189191129f43d2a686d7453b4e49a07dea9de69e206b44fb1bdba8f799e5d"), looks := true }, kinds := [], alts := [], laidByText := true, laidKinds := [.sentinel], laidTests := true, laidLooks := .later }
def FnCutsPutCardSaid : Prop := Claim7.holds Tryd.pinned (.plain (OpenSpec.ofChange fnCutsPutSpec)) fnCutsPutCard

/-- THE TIED CARD OF 'laws.FnCutsPutOthers'. -/
def fnCutsPutOthersCard : Claim7 := { stood := { row := fnCutsPutOthersRow, standIns := [], harness := (true, "b01189191129f43d2a686d7453b4e49a07dea9de69e206b44fb1bdba8f799e5d"), looks := true }, kinds := [], alts := [], laidByText := true, laidKinds := [.sentinel], laidTests := true, laidLooks := .later }
def FnCutsPutOthersCardSaid : Prop := Claim7.holds Tryd.pinned (.plain (OpenSpec.ofChange fnCutsPutOthersSpec)) fnCutsPutOthersCard

/-- THE TIED CARD OF 'laws.FnFoldStream'. -/
def fnFoldStreamCard : Claim7 := { stood := { row := fnFoldStreamRow, standIns := [], harness := (true, "b01189191129f43d2a686d7453b4e49a07dea9de69e206b44fb1bdba8f799e5d"), looks := true }, kinds := [], alts := [], laidByText := true, laidKinds := [.sentinel], laidTests := true, laidLooks := .later }
def FnFoldStreamCardSaid : Prop := Claim7.holds Tryd.pinned (.plain (OpenSpec.ofChange fnFoldStreamSpec)) fnFoldStreamCard

/-- THE TIED CARD OF 'laws.FnFoldStreamAll'. -/
def fnFoldStreamAllCard : Claim7 := { stood := { row := fnFoldStreamAllRow, standIns := [], harness := (true, "b01189191129f43d2a686d7453b4e49a07dea9de69e206b44fb1bdba8f799e5d"), looks := true }, kinds := [], alts := [], laidByText := true, laidKinds := [.sentinel], laidTests := true, laidLooks := .later }
def FnFoldStreamAllCardSaid : Prop := Claim7.holds Tryd.pinned (.plain (OpenSpec.ofChange fnFoldStreamAllSpec)) fnFoldStreamAllCard

/-- THE TIED CARD OF 'laws.FnSubLeft'. -/
def fnSubLeftCard : Claim7 := { stood := { row := fnSubLeftRow, standIns := [], harness := (true, "b01189191129f43d2a686d7453b4e49a07dea9de69e206b44fb1bdba8f799e5d"), looks := true }, kinds := [], alts := [], laidByText := true, laidKinds := [.sentinel], laidTests := true, laidLooks := .later }
def FnSubLeftCardSaid : Prop := Claim7.holds Tryd.pinned (.plain (OpenSpec.ofChange fnSubLeftSpec)) fnSubLeftCard

/-- THE TIED CARD OF 'laws.FnSubLeftAll'. -/
def fnSubLeftAllCard : Claim7 := { stood := { row := fnSubLeftAllRow, standIns := [], harness := (true, "b01189191129f43d2a686d7453b4e49a07dea9de69e206b44fb1bdba8f799e5d"), looks := true }, kinds := [], alts := [], laidByText := true, laidKinds := [.sentinel], laidTests := true, laidLooks := .later }
def FnSubLeftAllCardSaid : Prop := Claim7.holds Tryd.pinned (.plain (OpenSpec.ofChange fnSubLeftAllSpec)) fnSubLeftAllCard

/-- THE TIED CARD OF 'laws.FnSubTake'. -/
def fnSubTakeCard : Claim7 := { stood := { row := fnSubTakeRow, standIns := [], harness := (true, "b01189191129f43d2a686d7453b4e49a07dea9de69e206b44fb1bdba8f799e5d"), looks := true }, kinds := [], alts := [], laidByText := true, laidKinds := [.sentinel], laidTests := true, laidLooks := .later }
def FnSubTakeCardSaid : Prop := Claim7.holds Tryd.pinned (.plain (OpenSpec.ofChange fnSubTakeSpec)) fnSubTakeCard

/-- THE TIED CARD OF 'laws.FnSubTakeAll'. -/
def fnSubTakeAllCard : Claim7 := { stood := { row := fnSubTakeAllRow, standIns := [], harness := (true, "b01189191129f43d2a686d7453b4e49a07dea9de69e206b44fb1bdba8f799e5d"), looks := true }, kinds := [], alts := [], laidByText := true, laidKinds := [.sentinel], laidTests := true, laidLooks := .later }
def FnSubTakeAllCardSaid : Prop := Claim7.holds Tryd.pinned (.plain (OpenSpec.ofChange fnSubTakeAllSpec)) fnSubTakeAllCard

/-- THE TIED CARD OF 'laws.FnSubTakeLeft'. -/
def fnSubTakeLeftCard : Claim7 := { stood := { row := fnSubTakeLeftRow, standIns := [], harness := (true, "b01189191129f43d2a686d7453b4e49a07dea9de69e206b44fb1bdba8f799e5d"), looks := true }, kinds := [], alts := [], laidByText := true, laidKinds := [.sentinel], laidTests := true, laidLooks := .later }
def FnSubTakeLeftCardSaid : Prop := Claim7.holds Tryd.pinned (.plain (OpenSpec.ofChange fnSubTakeLeftSpec)) fnSubTakeLeftCard

/-- THE TIED CARD OF 'laws.FnSubTakeOn'. -/
def fnSubTakeOnCard : Claim7 := { stood := { row := fnSubTakeOnRow, standIns := [], harness := (true, "b01189191129f43d2a686d7453b4e49a07dea9de69e206b44fb1bdba8f799e5d"), looks := true }, kinds := [], alts := [], laidByText := true, laidKinds := [.sentinel], laidTests := true, laidLooks := .later }
def FnSubTakeOnCardSaid : Prop := Claim7.holds Tryd.pinned (.plain (OpenSpec.ofChange fnSubTakeOnSpec)) fnSubTakeOnCard

/-- THE SECOND FORM's CARD OF 'laws.FnCutsLeft'. -/
def fnCutsLeftUptoCard : Claim7 := { stood := { row := fnCutsLeftUptoRow, standIns := [], harness := (true, "b01189191129f43d2a686d7453b4e49a07dea9de69e206b44fb1bdba8f799e5d"), looks := true }, kinds := [], alts := [], laidByText := true, laidKinds := [.sentinel], laidTests := true, laidLooks := .later }
def FnCutsLeftUptoCardSaid : Prop := Claim7.holds Tryd.pinned (.plain (OpenSpec.upto fnCutsLeftSpec)) fnCutsLeftUptoCard

/-- THE SECOND FORM's CARD OF 'laws.FnCutsPart'. -/
def fnCutsPartUptoCard : Claim7 := { stood := { row := fnCutsPartUptoRow, standIns := [], harness := (true, "b01189191129f43d2a686d7453b4e49a07dea9de69e206b44fb1bdba8f799e5d"), looks := true }, kinds := [], alts := [], laidByText := true, laidKinds := [.sentinel], laidTests := true, laidLooks := .later }
def FnCutsPartUptoCardSaid : Prop := Claim7.holds Tryd.pinned (.plain (OpenSpec.upto fnCutsPartSpec)) fnCutsPartUptoCard

/-- THE SECOND FORM's CARD OF 'laws.FnCutsPut'. -/
def fnCutsPutUptoCard : Claim7 := { stood := { row := fnCutsPutUptoRow, standIns := [], harness := (true, "b01189191129f43d2a686d7453b4e49a07dea9de69e206b44fb1bdba8f799e5d"), looks := true }, kinds := [], alts := [], laidByText := true, laidKinds := [.sentinel], laidTests := true, laidLooks := .later }
def FnCutsPutUptoCardSaid : Prop := Claim7.holds Tryd.pinned (.plain (OpenSpec.upto fnCutsPutSpec)) fnCutsPutUptoCard

/-- THE SECOND FORM's CARD OF 'laws.FnCutsPutOthers'. -/
def fnCutsPutOthersUptoCard : Claim7 := { stood := { row := fnCutsPutOthersUptoRow, standIns := [], harness := (true, "b01189191129f43d2a686d7453b4e49a07dea9de69e206b44fb1bdba8f799e5d"), looks := true }, kinds := [], alts := [], laidByText := true, laidKinds := [.sentinel], laidTests := true, laidLooks := .later }
def FnCutsPutOthersUptoCardSaid : Prop := Claim7.holds Tryd.pinned (.plain (OpenSpec.upto fnCutsPutOthersSpec)) fnCutsPutOthersUptoCard

/-- THE SECOND FORM's CARD OF 'laws.FnFoldStream'. -/
def fnFoldStreamUptoCard : Claim7 := { stood := { row := fnFoldStreamUptoRow, standIns := [], harness := (true, "b01189191129f43d2a686d7453b4e49a07dea9de69e206b44fb1bdba8f799e5d"), looks := true }, kinds := [], alts := [], laidByText := true, laidKinds := [.sentinel], laidTests := true, laidLooks := .later }
def FnFoldStreamUptoCardSaid : Prop := Claim7.holds Tryd.pinned (.plain (OpenSpec.upto fnFoldStreamSpec)) fnFoldStreamUptoCard

/-- THE SECOND FORM's CARD OF 'laws.FnFoldStreamAll'. -/
def fnFoldStreamAllUptoCard : Claim7 := { stood := { row := fnFoldStreamAllUptoRow, standIns := [], harness := (true, "b01189191129f43d2a686d7453b4e49a07dea9de69e206b44fb1bdba8f799e5d"), looks := true }, kinds := [], alts := [], laidByText := true, laidKinds := [.sentinel], laidTests := true, laidLooks := .later }
def FnFoldStreamAllUptoCardSaid : Prop := Claim7.holds Tryd.pinned (.plain (OpenSpec.upto fnFoldStreamAllSpec)) fnFoldStreamAllUptoCard

/-- THE SECOND FORM's CARD OF 'laws.FnSubLeft'. -/
def fnSubLeftUptoCard : Claim7 := { stood := { row := fnSubLeftUptoRow, standIns := [], harness := (true, "b01189191129f43d2a686d7453b4e49a07dea9de69e206b44fb1bdba8f799e5d"), looks := true }, kinds := [], alts := [], laidByText := true, laidKinds := [.sentinel], laidTests := true, laidLooks := .later }
def FnSubLeftUptoCardSaid : Prop := Claim7.holds Tryd.pinned (.plain (OpenSpec.upto fnSubLeftSpec)) fnSubLeftUptoCard

/-- THE SECOND FORM's CARD OF 'laws.FnSubLeftAll'. -/
def fnSubLeftAllUptoCard : Claim7 := { stood := { row := fnSubLeftAllUptoRow, standIns := [], harness := (true, "b01189191129f43d2a686d7453b4e49a07dea9de69e206b44fb1bdba8f799e5d"), looks := true }, kinds := [], alts := [], laidByText := true, laidKinds := [.sentinel], laidTests := true, laidLooks := .later }
def FnSubLeftAllUptoCardSaid : Prop := Claim7.holds Tryd.pinned (.plain (OpenSpec.upto fnSubLeftAllSpec)) fnSubLeftAllUptoCard

/-- THE SECOND FORM's CARD OF 'laws.FnSubTake'. -/
def fnSubTakeUptoCard : Claim7 := { stood := { row := fnSubTakeUptoRow, standIns := [], harness := (true, "b01189191129f43d2a686d7453b4e49a07dea9de69e206b44fb1bdba8f799e5d"), looks := true }, kinds := [], alts := [], laidByText := true, laidKinds := [.sentinel], laidTests := true, laidLooks := .later }
def FnSubTakeUptoCardSaid : Prop := Claim7.holds Tryd.pinned (.plain (OpenSpec.upto fnSubTakeSpec)) fnSubTakeUptoCard

/-- THE SECOND FORM's CARD OF 'laws.FnSubTakeAll'. -/
def fnSubTakeAllUptoCard : Claim7 := { stood := { row := fnSubTakeAllUptoRow, standIns := [], harness := (true, "b01189191129f43d2a686d7453b4e49a07dea9de69e206b44fb1bdba8f799e5d"), looks := true }, kinds := [], alts := [], laidByText := true, laidKinds := [.sentinel], laidTests := true, laidLooks := .later }
def FnSubTakeAllUptoCardSaid : Prop := Claim7.holds Tryd.pinned (.plain (OpenSpec.upto fnSubTakeAllSpec)) fnSubTakeAllUptoCard

/-- THE SECOND FORM's CARD OF 'laws.FnSubTakeLeft'. -/
def fnSubTakeLeftUptoCard : Claim7 := { stood := { row := fnSubTakeLeftUptoRow, standIns := [], harness := (true, "b01189191129f43d2a686d7453b4e49a07dea9de69e206b44fb1bdba8f799e5d"), looks := true }, kinds := [], alts := [], laidByText := true, laidKinds := [.sentinel], laidTests := true, laidLooks := .later }
def FnSubTakeLeftUptoCardSaid : Prop := Claim7.holds Tryd.pinned (.plain (OpenSpec.upto fnSubTakeLeftSpec)) fnSubTakeLeftUptoCard

/-- THE SECOND FORM's CARD OF 'laws.FnSubTakeOn'. -/
def fnSubTakeOnUptoCard : Claim7 := { stood := { row := fnSubTakeOnUptoRow, standIns := [], harness := (true, "b01189191129f43d2a686d7453b4e49a07dea9de69e206b44fb1bdba8f799e5d"), looks := true }, kinds := [], alts := [], laidByText := true, laidKinds := [.sentinel], laidTests := true, laidLooks := .later }
def FnSubTakeOnUptoCardSaid : Prop := Claim7.holds Tryd.pinned (.plain (OpenSpec.upto fnSubTakeOnSpec)) fnSubTakeOnUptoCard
end Rows
end Go.Proofs.YtbcfbkcadceniaaDoor
