/-
  DERIVED. GIVEN WITH THE SEED: THE CARDS: each row of YtpdedhkoofemdaaDoorRows.lean that lists a variable, with what it lists TIED to the program's text (the seventh form; the later family's looks); each row that meets fmt, with fmt's text TOLD by the authors' own Lean function (tested against real Go, not proved from fmt's source: count such statements apart). THE CARD IS WHAT COUNTS. Prove the row's statement (the work); the ties are given (YtpdedhkoofemdaaDoorTie.lean); close each card by the builder's one call (the guide's Derived/Test/ToyasCard.lean, 'card_holds'). Laid BY PROGRAM, IN A SANDBOX (cutbox-door.mjs). By AI agents, Wed Nov 11 2026. No macro, syntax, notation, axiom, sorry.
-/
import Derived.Test.YtpdedhkoofemdaaDoorRows
import GoSem.ClaimSeven
namespace Go.Proofs.YtpdedhkoofemdaaDoor
namespace Rows

/-- THE TIED CARD OF 'laws.FnCutsRead'. -/
def fnCutsReadCard : Claim7 := { stood := { row := fnCutsReadRow, standIns := [], harness := (true, "6b42b959d3b9a072b4de7b2f8bd81fdcc5b0c6b77a273315224783da3c2115b3"), looks := true }, kinds := [], alts := [], laidByText := true, laidKinds := [.sentinel], laidTests := true, laidLooks := .later }
def FnCutsReadCardSaid : Prop := Claim7.holds Tryd.pinned (.plain (OpenSpec.ofChange fnCutsReadSpec)) fnCutsReadCard

/-- THE TIED CARD OF 'laws.FnCutsReadNone'. -/
def fnCutsReadNoneCard : Claim7 := { stood := { row := fnCutsReadNoneRow, standIns := [], harness := (true, "6b42b959d3b9a072b4de7b2f8bd81fdcc5b0c6b77a273315224783da3c2115b3"), looks := true }, kinds := [], alts := [], laidByText := true, laidKinds := [.sentinel], laidTests := true, laidLooks := .later }
def FnCutsReadNoneCardSaid : Prop := Claim7.holds Tryd.pinned (.plain (OpenSpec.ofChange fnCutsReadNoneSpec)) fnCutsReadNoneCard

/-- THE TIED CARD OF 'laws.FnFoldStream'. -/
def fnFoldStreamCard : Claim7 := { stood := { row := fnFoldStreamRow, standIns := [], harness := (true, "6b42b959d3b9a072b4de7b2f8bd81fdcc5b0c6b77a273315224783da3c2115b3"), looks := true }, kinds := [], alts := [], laidByText := true, laidKinds := [.sentinel], laidTests := true, laidLooks := .later }
def FnFoldStreamCardSaid : Prop := Claim7.holds Tryd.pinned (.plain (OpenSpec.ofChange fnFoldStreamSpec)) fnFoldStreamCard

/-- THE TIED CARD OF 'laws.FnFoldStreamAll'. -/
def fnFoldStreamAllCard : Claim7 := { stood := { row := fnFoldStreamAllRow, standIns := [], harness := (true, "6b42b959d3b9a072b4de7b2f8bd81fdcc5b0c6b77a273315224783da3c2115b3"), looks := true }, kinds := [], alts := [], laidByText := true, laidKinds := [.sentinel], laidTests := true, laidLooks := .later }
def FnFoldStreamAllCardSaid : Prop := Claim7.holds Tryd.pinned (.plain (OpenSpec.ofChange fnFoldStreamAllSpec)) fnFoldStreamAllCard

/-- THE TIED CARD OF 'laws.FnCutsLeft'. -/
def fnCutsLeftCard : Claim7 := { stood := { row := fnCutsLeftRow, standIns := [], harness := (true, "6b42b959d3b9a072b4de7b2f8bd81fdcc5b0c6b77a273315224783da3c2115b3"), looks := true }, kinds := [], alts := [], laidByText := true, laidKinds := [.sentinel], laidTests := true, laidLooks := .later }
def FnCutsLeftCardSaid : Prop := Claim7.holds Tryd.pinned (.plain (OpenSpec.ofChange fnCutsLeftSpec)) fnCutsLeftCard

/-- THE TIED CARD OF 'laws.FnWasAny'. -/
def fnWasAnyCard : Claim7 := { stood := { row := fnWasAnyRow, standIns := [], harness := (true, "6b42b959d3b9a072b4de7b2f8bd81fdcc5b0c6b77a273315224783da3c2115b3"), looks := true }, kinds := [], alts := [], laidByText := true, laidKinds := [.sentinel], laidTests := true, laidLooks := .later }
def FnWasAnyCardSaid : Prop := Claim7.holds Tryd.pinned (.plain (OpenSpec.ofChange fnWasAnySpec)) fnWasAnyCard

/-- THE TIED CARD OF 'laws.FnAppendWrong'. -/
def fnAppendWrongCard : Claim7 := { stood := { row := fnAppendWrongRow, standIns := [], harness := (true, "6b42b959d3b9a072b4de7b2f8bd81fdcc5b0c6b77a273315224783da3c2115b3"), looks := true }, kinds := [], alts := [], laidByText := true, laidKinds := [.sentinel], laidTests := true, laidLooks := .later }
def FnAppendWrongCardSaid : Prop := Claim7.holds Tryd.pinned (.plain (OpenSpec.ofChange fnAppendWrongSpec)) fnAppendWrongCard

/-- THE TIED CARD OF 'laws.FnAppendRead'. -/
def fnAppendReadCard : Claim7 := { stood := { row := fnAppendReadRow, standIns := [], harness := (true, "6b42b959d3b9a072b4de7b2f8bd81fdcc5b0c6b77a273315224783da3c2115b3"), looks := true }, kinds := [], alts := [], laidByText := true, laidKinds := [.sentinel], laidTests := true, laidLooks := .later }
def FnAppendReadCardSaid : Prop := Claim7.holds Tryd.pinned (.plain (OpenSpec.ofChange fnAppendReadSpec)) fnAppendReadCard

/-- THE TIED CARD OF 'laws.FnWas'. -/
def fnWasCard : Claim7 := { stood := { row := fnWasRow, standIns := [], harness := (true, "6b42b959d3b9a072b4de7b2f8bd81fdcc5b0c6b77a273315224783da3c2115b3"), looks := true }, kinds := [], alts := [], laidByText := true, laidKinds := [.sentinel], laidTests := true, laidLooks := .later }
def FnWasCardSaid : Prop := Claim7.holds Tryd.pinned (.plain (OpenSpec.ofChange fnWasSpec)) fnWasCard

/-- THE SECOND FORM's CARD OF 'laws.FnCutsRead'. -/
def fnCutsReadUptoCard : Claim7 := { stood := { row := fnCutsReadUptoRow, standIns := [], harness := (true, "6b42b959d3b9a072b4de7b2f8bd81fdcc5b0c6b77a273315224783da3c2115b3"), looks := true }, kinds := [], alts := [], laidByText := true, laidKinds := [.sentinel], laidTests := true, laidLooks := .later }
def FnCutsReadUptoCardSaid : Prop := Claim7.holds Tryd.pinned (.plain (OpenSpec.upto fnCutsReadSpec)) fnCutsReadUptoCard

/-- THE SECOND FORM's CARD OF 'laws.FnCutsReadNone'. -/
def fnCutsReadNoneUptoCard : Claim7 := { stood := { row := fnCutsReadNoneUptoRow, standIns := [], harness := (true, "6b42b959d3b9a072b4de7b2f8bd81fdcc5b0c6b77a273315224783da3c2115b3"), looks := true }, kinds := [], alts := [], laidByText := true, laidKinds := [.sentinel], laidTests := true, laidLooks := .later }
def FnCutsReadNoneUptoCardSaid : Prop := Claim7.holds Tryd.pinned (.plain (OpenSpec.upto fnCutsReadNoneSpec)) fnCutsReadNoneUptoCard

/-- THE SECOND FORM's CARD OF 'laws.FnFoldStream'. -/
def fnFoldStreamUptoCard : Claim7 := { stood := { row := fnFoldStreamUptoRow, standIns := [], harness := (true, "6b42b959d3b9a072b4de7b2f8bd81fdcc5b0c6b77a273315224783da3c2115b3"), looks := true }, kinds := [], alts := [], laidByText := true, laidKinds := [.sentinel], laidTests := true, laidLooks := .later }
def FnFoldStreamUptoCardSaid : Prop := Claim7.holds Tryd.pinned (.plain (OpenSpec.upto fnFoldStreamSpec)) fnFoldStreamUptoCard

/-- THE SECOND FORM's CARD OF 'laws.FnFoldStreamAll'. -/
def fnFoldStreamAllUptoCard : Claim7 := { stood := { row := fnFoldStreamAllUptoRow, standIns := [], harness := (true, "6b42b959d3b9a072b4de7b2f8bd81fdcc5b0c6b77a273315224783da3c2115b3"), looks := true }, kinds := [], alts := [], laidByText := true, laidKinds := [.sentinel], laidTests := true, laidLooks := .later }
def FnFoldStreamAllUptoCardSaid : Prop := Claim7.holds Tryd.pinned (.plain (OpenSpec.upto fnFoldStreamAllSpec)) fnFoldStreamAllUptoCard

/-- THE SECOND FORM's CARD OF 'laws.FnCutsLeft'. -/
def fnCutsLeftUptoCard : Claim7 := { stood := { row := fnCutsLeftUptoRow, standIns := [], harness := (true, "6b42b959d3b9a072b4de7b2f8bd81fdcc5b0c6b77a273315224783da3c2115b3"), looks := true }, kinds := [], alts := [], laidByText := true, laidKinds := [.sentinel], laidTests := true, laidLooks := .later }
def FnCutsLeftUptoCardSaid : Prop := Claim7.holds Tryd.pinned (.plain (OpenSpec.upto fnCutsLeftSpec)) fnCutsLeftUptoCard

/-- THE SECOND FORM's CARD OF 'laws.FnWasAny'. -/
def fnWasAnyUptoCard : Claim7 := { stood := { row := fnWasAnyUptoRow, standIns := [], harness := (true, "6b42b959d3b9a072b4de7b2f8bd81fdcc5b0c6b77a273315224783da3c2115b3"), looks := true }, kinds := [], alts := [], laidByText := true, laidKinds := [.sentinel], laidTests := true, laidLooks := .later }
def FnWasAnyUptoCardSaid : Prop := Claim7.holds Tryd.pinned (.plain (OpenSpec.upto fnWasAnySpec)) fnWasAnyUptoCard

/-- THE SECOND FORM's CARD OF 'laws.FnAppendWrong'. -/
def fnAppendWrongUptoCard : Claim7 := { stood := { row := fnAppendWrongUptoRow, standIns := [], harness := (true, "6b42b959d3b9a072b4de7b2f8bd81fdcc5b0c6b77a273315224783da3c2115b3"), looks := true }, kinds := [], alts := [], laidByText := true, laidKinds := [.sentinel], laidTests := true, laidLooks := .later }
def FnAppendWrongUptoCardSaid : Prop := Claim7.holds Tryd.pinned (.plain (OpenSpec.upto fnAppendWrongSpec)) fnAppendWrongUptoCard

/-- THE SECOND FORM's CARD OF 'laws.FnAppendRead'. -/
def fnAppendReadUptoCard : Claim7 := { stood := { row := fnAppendReadUptoRow, standIns := [], harness := (true, "6b42b959d3b9a072b4de7b2f8bd81fdcc5b0c6b77a273315224783da3c2115b3"), looks := true }, kinds := [], alts := [], laidByText := true, laidKinds := [.sentinel], laidTests := true, laidLooks := .later }
def FnAppendReadUptoCardSaid : Prop := Claim7.holds Tryd.pinned (.plain (OpenSpec.upto fnAppendReadSpec)) fnAppendReadUptoCard

/-- THE SECOND FORM's CARD OF 'laws.FnWas'. -/
def fnWasUptoCard : Claim7 := { stood := { row := fnWasUptoRow, standIns := [], harness := (true, "6b42b959d3b9a072b4de7b2f8bd81fdcc5b0c6b77a273315224783da3c2115b3"), looks := true }, kinds := [], alts := [], laidByText := true, laidKinds := [.sentinel], laidTests := true, laidLooks := .later }
def FnWasUptoCardSaid : Prop := Claim7.holds Tryd.pinned (.plain (OpenSpec.upto fnWasSpec)) fnWasUptoCard
end Rows
end Go.Proofs.YtpdedhkoofemdaaDoor
