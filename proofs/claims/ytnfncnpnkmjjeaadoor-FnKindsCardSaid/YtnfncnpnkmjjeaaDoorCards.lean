/-
  DERIVED. GIVEN WITH THE SEED: THE CARDS: each row of YtnfncnpnkmjjeaaDoorRows.lean that lists a variable, with what it lists TIED to the program's text (the seventh form; the later family's looks); each row that meets fmt, with fmt's text TOLD by the authors' own Lean function (tested against real Go, not proved from fmt's source: count such statements apart). THE CARD IS WHAT COUNTS. Prove the row's statement (the work); the ties are given (YtnfncnpnkmjjeaaDoorTie.lean); close each card by the builder's one call (the guide's Derived/Test/ToyasCard.lean, 'card_holds'). Laid BY PROGRAM, IN A SANDBOX (cutbox-door.mjs). By AI agents, Wed Nov 11 2026. No macro, syntax, notation, axiom, sorry.
-/
import Derived.Test.YtnfncnpnkmjjeaaDoorRows
import GoSem.ClaimSeven
namespace Go.Proofs.YtnfncnpnkmjjeaaDoor
namespace Rows

/-- THE TIED CARD OF 'laws.FnExactGroupOwner'. -/
def fnExactGroupOwnerCard : Claim7 := { stood := { row := fnExactGroupOwnerRow, standIns := [], harness := (true, "6702ac0555b70c4c862c1a739bbff58454674eb62d5ef81f431216a3ae1ddd27"), looks := true }, kinds := [], alts := [], laidByText := true, laidKinds := [.sentinel], laidTests := true, laidLooks := .later }
def FnExactGroupOwnerCardSaid : Prop := Claim7.holds Tryd.pinned (.plain (OpenSpec.ofChange fnExactGroupOwnerSpec)) fnExactGroupOwnerCard

/-- THE TIED CARD OF 'laws.FnKinds'. -/
def fnKindsCard : Claim7 := { stood := { row := fnKindsRow, standIns := [], harness := (true, "6702ac0555b70c4c862c1a739bbff58454674eb62d5ef81f431216a3ae1ddd27"), looks := true }, kinds := [], alts := [], laidByText := true, laidKinds := [.sentinel], laidTests := true, laidLooks := .later }
def FnKindsCardSaid : Prop := Claim7.holds Tryd.pinned (.plain (OpenSpec.ofChange fnKindsSpec)) fnKindsCard

/-- THE TIED CARD OF 'laws.FnKindsAdd'. -/
def fnKindsAddCard : Claim7 := { stood := { row := fnKindsAddRow, standIns := [], harness := (true, "6702ac0555b70c4c862c1a739bbff58454674eb62d5ef81f431216a3ae1ddd27"), looks := true }, kinds := [], alts := [], laidByText := true, laidKinds := [.sentinel], laidTests := true, laidLooks := .later }
def FnKindsAddCardSaid : Prop := Claim7.holds Tryd.pinned (.plain (OpenSpec.ofChange fnKindsAddSpec)) fnKindsAddCard

/-- THE TIED CARD OF 'laws.FnKindsFind'. -/
def fnKindsFindCard : Claim7 := { stood := { row := fnKindsFindRow, standIns := [], harness := (true, "6702ac0555b70c4c862c1a739bbff58454674eb62d5ef81f431216a3ae1ddd27"), looks := true }, kinds := [], alts := [], laidByText := true, laidKinds := [.sentinel], laidTests := true, laidLooks := .later }
def FnKindsFindCardSaid : Prop := Claim7.holds Tryd.pinned (.plain (OpenSpec.ofChange fnKindsFindSpec)) fnKindsFindCard

/-- THE SECOND FORM's CARD OF 'laws.FnExactGroupOwner'. -/
def fnExactGroupOwnerUptoCard : Claim7 := { stood := { row := fnExactGroupOwnerUptoRow, standIns := [], harness := (true, "6702ac0555b70c4c862c1a739bbff58454674eb62d5ef81f431216a3ae1ddd27"), looks := true }, kinds := [], alts := [], laidByText := true, laidKinds := [.sentinel], laidTests := true, laidLooks := .later }
def FnExactGroupOwnerUptoCardSaid : Prop := Claim7.holds Tryd.pinned (.plain (OpenSpec.upto fnExactGroupOwnerSpec)) fnExactGroupOwnerUptoCard

/-- THE SECOND FORM's CARD OF 'laws.FnKinds'. -/
def fnKindsUptoCard : Claim7 := { stood := { row := fnKindsUptoRow, standIns := [], harness := (true, "6702ac0555b70c4c862c1a739bbff58454674eb62d5ef81f431216a3ae1ddd27"), looks := true }, kinds := [], alts := [], laidByText := true, laidKinds := [.sentinel], laidTests := true, laidLooks := .later }
def FnKindsUptoCardSaid : Prop := Claim7.holds Tryd.pinned (.plain (OpenSpec.upto fnKindsSpec)) fnKindsUptoCard

/-- THE SECOND FORM's CARD OF 'laws.FnKindsAdd'. -/
def fnKindsAddUptoCard : Claim7 := { stood := { row := fnKindsAddUptoRow, standIns := [], harness := (true, "6702ac0555b70c4c862c1a739bbff58454674eb62d5ef81f431216a3ae1ddd27"), looks := true }, kinds := [], alts := [], laidByText := true, laidKinds := [.sentinel], laidTests := true, laidLooks := .later }
def FnKindsAddUptoCardSaid : Prop := Claim7.holds Tryd.pinned (.plain (OpenSpec.upto fnKindsAddSpec)) fnKindsAddUptoCard

/-- THE SECOND FORM's CARD OF 'laws.FnKindsFind'. -/
def fnKindsFindUptoCard : Claim7 := { stood := { row := fnKindsFindUptoRow, standIns := [], harness := (true, "6702ac0555b70c4c862c1a739bbff58454674eb62d5ef81f431216a3ae1ddd27"), looks := true }, kinds := [], alts := [], laidByText := true, laidKinds := [.sentinel], laidTests := true, laidLooks := .later }
def FnKindsFindUptoCardSaid : Prop := Claim7.holds Tryd.pinned (.plain (OpenSpec.upto fnKindsFindSpec)) fnKindsFindUptoCard
end Rows
end Go.Proofs.YtnfncnpnkmjjeaaDoor
