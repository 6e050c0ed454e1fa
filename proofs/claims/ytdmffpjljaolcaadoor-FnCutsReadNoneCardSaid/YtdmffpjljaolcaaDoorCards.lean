/-
  DERIVED. GIVEN WITH THE SEED: THE CARDS: each row of YtdmffpjljaolcaaDoorRows.lean that lists a variable, with what it lists TIED to the program's text (the seventh form; the later family's looks); each row that meets fmt, with fmt's text TOLD by the authors' own Lean function (tested against real Go, not proved from fmt's source: count such statements apart). THE CARD IS WHAT COUNTS. Prove the row's statement (the work); the ties are given (YtdmffpjljaolcaaDoorTie.lean); close each card by the builder's one call (the guide's Derived/Test/ToyasCard.lean, 'card_holds'). Laid BY PROGRAM, IN A SANDBOX (cutbox-door.mjs). By AI agents, Wed Nov 11 2026. No macro, syntax, notation, axiom, sorry.
-/
import Derived.Test.YtdmffpjljaolcaaDoorRows
import GoSem.ClaimSeven
namespace Go.Proofs.YtdmffpjljaolcaaDoor
namespace Rows

/-- THE TIED CARD OF 'laws.FnApart'. -/
def fnApartCard : Claim7 := { stood := { row := fnApartRow, standIns := [], harness := (true, "9abedd7a6244a30d38ed332716a2a974211c94fa501174123611faaf09cd4f17"), looks := true }, kinds := [], alts := [], laidByText := true, laidKinds := [.sentinel], laidTests := true, laidLooks := .later }
def FnApartCardSaid : Prop := Claim7.holds Tryd.pinned (.plain (OpenSpec.ofChange fnApartSpec)) fnApartCard

/-- THE TIED CARD OF 'laws.FnApartBoth'. -/
def fnApartBothCard : Claim7 := { stood := { row := fnApartBothRow, standIns := [], harness := (true, "9abedd7a6244a30d38ed332716a2a974211c94fa501174123611faaf09cd4f17"), looks := true }, kinds := [], alts := [], laidByText := true, laidKinds := [.sentinel], laidTests := true, laidLooks := .later }
def FnApartBothCardSaid : Prop := Claim7.holds Tryd.pinned (.plain (OpenSpec.ofChange fnApartBothSpec)) fnApartBothCard

/-- THE TIED CARD OF 'laws.FnCutsRead'. -/
def fnCutsReadCard : Claim7 := { stood := { row := fnCutsReadRow, standIns := [], harness := (true, "9abedd7a6244a30d38ed332716a2a974211c94fa501174123611faaf09cd4f17"), looks := true }, kinds := [], alts := [], laidByText := true, laidKinds := [.sentinel], laidTests := true, laidLooks := .later }
def FnCutsReadCardSaid : Prop := Claim7.holds Tryd.pinned (.plain (OpenSpec.ofChange fnCutsReadSpec)) fnCutsReadCard

/-- THE TIED CARD OF 'laws.FnCutsReadNone'. -/
def fnCutsReadNoneCard : Claim7 := { stood := { row := fnCutsReadNoneRow, standIns := [], harness := (true, "9abedd7a6244a30d38ed332716a2a974211c94fa501174123611faaf09cd4f17"), looks := true }, kinds := [], alts := [], laidByText := true, laidKinds := [.sentinel], laidTests := true, laidLooks := .later }
def FnCutsReadNoneCardSaid : Prop := Claim7.holds Tryd.pinned (.plain (OpenSpec.ofChange fnCutsReadNoneSpec)) fnCutsReadNoneCard

/-- THE TIED CARD OF 'laws.FnFollow'. -/
def fnFollowCard : Claim7 := { stood := { row := fnFollowRow, standIns := [], harness := (true, "9abedd7a6244a30d38ed332716a2a974211c94fa501174123611faaf09cd4f17"), looks := true }, kinds := [], alts := [], laidByText := true, laidKinds := [.sentinel], laidTests := true, laidLooks := .later }
def FnFollowCardSaid : Prop := Claim7.holds Tryd.pinned (.plain (OpenSpec.ofChange fnFollowSpec)) fnFollowCard

/-- THE TIED CARD OF 'laws.FnFollowLeft'. -/
def fnFollowLeftCard : Claim7 := { stood := { row := fnFollowLeftRow, standIns := [], harness := (true, "9abedd7a6244a30d38ed332716a2a974211c94fa501174123611faaf09cd4f17"), looks := true }, kinds := [], alts := [], laidByText := true, laidKinds := [.sentinel], laidTests := true, laidLooks := .later }
def FnFollowLeftCardSaid : Prop := Claim7.holds Tryd.pinned (.plain (OpenSpec.ofChange fnFollowLeftSpec)) fnFollowLeftCard

/-- THE TIED CARD OF 'laws.FnFollowLeftApart'. -/
def fnFollowLeftApartCard : Claim7 := { stood := { row := fnFollowLeftApartRow, standIns := [], harness := (true, "9abedd7a6244a30d38ed332716a2a974211c94fa501174123611faaf09cd4f17"), looks := true }, kinds := [], alts := [], laidByText := true, laidKinds := [.sentinel], laidTests := true, laidLooks := .later }
def FnFollowLeftApartCardSaid : Prop := Claim7.holds Tryd.pinned (.plain (OpenSpec.ofChange fnFollowLeftApartSpec)) fnFollowLeftApartCard

/-- THE TIED CARD OF 'laws.FnFollowOn'. -/
def fnFollowOnCard : Claim7 := { stood := { row := fnFollowOnRow, standIns := [], harness := (true, "9abedd7a6244a30d38ed332716a2a974211c94fa501174123611faaf09cd4f17"), looks := true }, kinds := [], alts := [], laidByText := true, laidKinds := [.sentinel], laidTests := true, laidLooks := .later }
def FnFollowOnCardSaid : Prop := Claim7.holds Tryd.pinned (.plain (OpenSpec.ofChange fnFollowOnSpec)) fnFollowOnCard

/-- THE TIED CARD OF 'laws.FnMend'. -/
def fnMendCard : Claim7 := { stood := { row := fnMendRow, standIns := [], harness := (true, "9abedd7a6244a30d38ed332716a2a974211c94fa501174123611faaf09cd4f17"), looks := true }, kinds := [], alts := [], laidByText := true, laidKinds := [.sentinel], laidTests := true, laidLooks := .later }
def FnMendCardSaid : Prop := Claim7.holds Tryd.pinned (.plain (OpenSpec.ofChange fnMendSpec)) fnMendCard

/-- THE TIED CARD OF 'laws.FnMendApart'. -/
def fnMendApartCard : Claim7 := { stood := { row := fnMendApartRow, standIns := [], harness := (true, "9abedd7a6244a30d38ed332716a2a974211c94fa501174123611faaf09cd4f17"), looks := true }, kinds := [], alts := [], laidByText := true, laidKinds := [.sentinel], laidTests := true, laidLooks := .later }
def FnMendApartCardSaid : Prop := Claim7.holds Tryd.pinned (.plain (OpenSpec.ofChange fnMendApartSpec)) fnMendApartCard

/-- THE TIED CARD OF 'laws.FnWas'. -/
def fnWasCard : Claim7 := { stood := { row := fnWasRow, standIns := [], harness := (true, "9abedd7a6244a30d38ed332716a2a974211c94fa501174123611faaf09cd4f17"), looks := true }, kinds := [], alts := [], laidByText := true, laidKinds := [.sentinel], laidTests := true, laidLooks := .later }
def FnWasCardSaid : Prop := Claim7.holds Tryd.pinned (.plain (OpenSpec.ofChange fnWasSpec)) fnWasCard

/-- THE TIED CARD OF 'laws.FnWasAny'. -/
def fnWasAnyCard : Claim7 := { stood := { row := fnWasAnyRow, standIns := [], harness := (true, "9abedd7a6244a30d38ed332716a2a974211c94fa501174123611faaf09cd4f17"), looks := true }, kinds := [], alts := [], laidByText := true, laidKinds := [.sentinel], laidTests := true, laidLooks := .later }
def FnWasAnyCardSaid : Prop := Claim7.holds Tryd.pinned (.plain (OpenSpec.ofChange fnWasAnySpec)) fnWasAnyCard

/-- THE SECOND FORM's CARD OF 'laws.FnApart'. -/
def fnApartUptoCard : Claim7 := { stood := { row := fnApartUptoRow, standIns := [], harness := (true, "9abedd7a6244a30d38ed332716a2a974211c94fa501174123611faaf09cd4f17"), looks := true }, kinds := [], alts := [], laidByText := true, laidKinds := [.sentinel], laidTests := true, laidLooks := .later }
def FnApartUptoCardSaid : Prop := Claim7.holds Tryd.pinned (.plain (OpenSpec.upto fnApartSpec)) fnApartUptoCard

/-- THE SECOND FORM's CARD OF 'laws.FnApartBoth'. -/
def fnApartBothUptoCard : Claim7 := { stood := { row := fnApartBothUptoRow, standIns := [], harness := (true, "9abedd7a6244a30d38ed332716a2a974211c94fa501174123611faaf09cd4f17"), looks := true }, kinds := [], alts := [], laidByText := true, laidKinds := [.sentinel], laidTests := true, laidLooks := .later }
def FnApartBothUptoCardSaid : Prop := Claim7.holds Tryd.pinned (.plain (OpenSpec.upto fnApartBothSpec)) fnApartBothUptoCard

/-- THE SECOND FORM's CARD OF 'laws.FnCutsRead'. -/
def fnCutsReadUptoCard : Claim7 := { stood := { row := fnCutsReadUptoRow, standIns := [], harness := (true, "9abedd7a6244a30d38ed332716a2a974211c94fa501174123611faaf09cd4f17"), looks := true }, kinds := [], alts := [], laidByText := true, laidKinds := [.sentinel], laidTests := true, laidLooks := .later }
def FnCutsReadUptoCardSaid : Prop := Claim7.holds Tryd.pinned (.plain (OpenSpec.upto fnCutsReadSpec)) fnCutsReadUptoCard

/-- THE SECOND FORM's CARD OF 'laws.FnCutsReadNone'. -/
def fnCutsReadNoneUptoCard : Claim7 := { stood := { row := fnCutsReadNoneUptoRow, standIns := [], harness := (true, "9abedd7a6244a30d38ed332716a2a974211c94fa501174123611faaf09cd4f17"), looks := true }, kinds := [], alts := [], laidByText := true, laidKinds := [.sentinel], laidTests := true, laidLooks := .later }
def FnCutsReadNoneUptoCardSaid : Prop := Claim7.holds Tryd.pinned (.plain (OpenSpec.upto fnCutsReadNoneSpec)) fnCutsReadNoneUptoCard

/-- THE SECOND FORM's CARD OF 'laws.FnFollow'. -/
def fnFollowUptoCard : Claim7 := { stood := { row := fnFollowUptoRow, standIns := [], harness := (true, "9abedd7a6244a30d38ed332716a2a974211c94fa501174123611faaf09cd4f17"), looks := true }, kinds := [], alts := [], laidByText := true, laidKinds := [.sentinel], laidTests := true, laidLooks := .later }
def FnFollowUptoCardSaid : Prop := Claim7.holds Tryd.pinned (.plain (OpenSpec.upto fnFollowSpec)) fnFollowUptoCard

/-- THE SECOND FORM's CARD OF 'laws.FnFollowLeft'. -/
def fnFollowLeftUptoCard : Claim7 := { stood := { row := fnFollowLeftUptoRow, standIns := [], harness := (true, "9abedd7a6244a30d38ed332716a2a974211c94fa501174123611faaf09cd4f17"), looks := true }, kinds := [], alts := [], laidByText := true, laidKinds := [.sentinel], laidTests := true, laidLooks := .later }
def FnFollowLeftUptoCardSaid : Prop := Claim7.holds Tryd.pinned (.plain (OpenSpec.upto fnFollowLeftSpec)) fnFollowLeftUptoCard

/-- THE SECOND FORM's CARD OF 'laws.FnFollowLeftApart'. -/
def fnFollowLeftApartUptoCard : Claim7 := { stood := { row := fnFollowLeftApartUptoRow, standIns := [], harness := (true, "9abedd7a6244a30d38ed332716a2a974211c94fa501174123611faaf09cd4f17"), looks := true }, kinds := [], alts := [], laidByText := true, laidKinds := [.sentinel], laidTests := true, laidLooks := .later }
def FnFollowLeftApartUptoCardSaid : Prop := Claim7.holds Tryd.pinned (.plain (OpenSpec.upto fnFollowLeftApartSpec)) fnFollowLeftApartUptoCard

/-- THE SECOND FORM's CARD OF 'laws.FnFollowOn'. -/
def fnFollowOnUptoCard : Claim7 := { stood := { row := fnFollowOnUptoRow, standIns := [], harness := (true, "9abedd7a6244a30d38ed332716a2a974211c94fa501174123611faaf09cd4f17"), looks := true }, kinds := [], alts := [], laidByText := true, laidKinds := [.sentinel], laidTests := true, laidLooks := .later }
def FnFollowOnUptoCardSaid : Prop := Claim7.holds Tryd.pinned (.plain (OpenSpec.upto fnFollowOnSpec)) fnFollowOnUptoCard

/-- THE SECOND FORM's CARD OF 'laws.FnMend'. -/
def fnMendUptoCard : Claim7 := { stood := { row := fnMendUptoRow, standIns := [], harness := (true, "9abedd7a6244a30d38ed332716a2a974211c94fa501174123611faaf09cd4f17"), looks := true }, kinds := [], alts := [], laidByText := true, laidKinds := [.sentinel], laidTests := true, laidLooks := .later }
def FnMendUptoCardSaid : Prop := Claim7.holds Tryd.pinned (.plain (OpenSpec.upto fnMendSpec)) fnMendUptoCard

/-- THE SECOND FORM's CARD OF 'laws.FnMendApart'. -/
def fnMendApartUptoCard : Claim7 := { stood := { row := fnMendApartUptoRow, standIns := [], harness := (true, "9abedd7a6244a30d38ed332716a2a974211c94fa501174123611faaf09cd4f17"), looks := true }, kinds := [], alts := [], laidByText := true, laidKinds := [.sentinel], laidTests := true, laidLooks := .later }
def FnMendApartUptoCardSaid : Prop := Claim7.holds Tryd.pinned (.plain (OpenSpec.upto fnMendApartSpec)) fnMendApartUptoCard

/-- THE SECOND FORM's CARD OF 'laws.FnWas'. -/
def fnWasUptoCard : Claim7 := { stood := { row := fnWasUptoRow, standIns := [], harness := (true, "9abedd7a6244a30d38ed332716a2a974211c94fa501174123611faaf09cd4f17"), looks := true }, kinds := [], alts := [], laidByText := true, laidKinds := [.sentinel], laidTests := true, laidLooks := .later }
def FnWasUptoCardSaid : Prop := Claim7.holds Tryd.pinned (.plain (OpenSpec.upto fnWasSpec)) fnWasUptoCard

/-- THE SECOND FORM's CARD OF 'laws.FnWasAny'. -/
def fnWasAnyUptoCard : Claim7 := { stood := { row := fnWasAnyUptoRow, standIns := [], harness := (true, "9abedd7a6244a30d38ed332716a2a974211c94fa501174123611faaf09cd4f17"), looks := true }, kinds := [], alts := [], laidByText := true, laidKinds := [.sentinel], laidTests := true, laidLooks := .later }
def FnWasAnyUptoCardSaid : Prop := Claim7.holds Tryd.pinned (.plain (OpenSpec.upto fnWasAnySpec)) fnWasAnyUptoCard
end Rows
end Go.Proofs.YtdmffpjljaolcaaDoor
