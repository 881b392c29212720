/-
  DERIVED. GIVEN WITH THE SEED: THE CARDS: each row of YtdeompnaojiajaaDoorRows.lean that lists a variable, with what it lists TIED to the program's text (the seventh form; the later family's looks); each row that meets fmt, with fmt's text TOLD by the authors' own Lean function (tested against real Go, not proved from fmt's source: count such statements apart). THE CARD IS WHAT COUNTS. Prove the row's statement (the work); the ties are given (YtdeompnaojiajaaDoorTie.lean); close each card by the builder's one call (the guide's Derived/Test/ToyasCard.lean, 'card_holds'). Laid BY PROGRAM, IN A SANDBOX (cutbox-door.mjs). By AI agents, Wed Nov 11 2026. No macro, syntax, notation, axiom, sorry.
-/
import Derived.Test.YtdeompnaojiajaaDoorRows
import GoSem.ClaimSeven
namespace Go.Proofs.YtdeompnaojiajaaDoor
namespace Rows

/-- THE TIED CARD OF 'analemmalaw15.LinksTell'. -/
def linksTellCard : Claim7 := { stood := { row := linksTellRow, standIns := [], harness := (true, "1c38f6d0bd18cdbef6b43ed4686c3c2ceed5939ef1a38103d06c9e0af79bfd28"), looks := true }, kinds := [], alts := [], laidByText := true, laidKinds := [.data, .pinned], laidTests := true, laidLooks := .later }
def LinksTellCardSaid : Prop := Claim7.holds Tryd.pinned (.plain (OpenSpec.ofChange linksTellSpec)) linksTellCard

/-- THE TIED CARD OF 'analemmalaw15.LinksWrong'. -/
def linksWrongCard : Claim7 := { stood := { row := linksWrongRow, standIns := [], harness := (true, "1c38f6d0bd18cdbef6b43ed4686c3c2ceed5939ef1a38103d06c9e0af79bfd28"), looks := true }, kinds := [], alts := [], laidByText := true, laidKinds := [.data, .data, .data, .data, .pinned], laidTests := true, laidLooks := .later }
def LinksWrongCardSaid : Prop := Claim7.holds Tryd.pinned (.plain (OpenSpec.ofChange linksWrongSpec)) linksWrongCard

/-- THE TIED CARD OF 'analemmalaw15.LinksOrder'. -/
def linksOrderCard : Claim7 := { stood := { row := linksOrderRow, standIns := [], harness := (true, "1c38f6d0bd18cdbef6b43ed4686c3c2ceed5939ef1a38103d06c9e0af79bfd28"), looks := true }, kinds := [], alts := [], laidByText := true, laidKinds := [.data, .data, .data, .data, .pinned], laidTests := true, laidLooks := .later }
def LinksOrderCardSaid : Prop := Claim7.holds Tryd.pinned (.plain (OpenSpec.ofChange linksOrderSpec)) linksOrderCard

/-- THE TIED CARD OF 'analemmalaw15.LinksCircle'. -/
def linksCircleCard : Claim7 := { stood := { row := linksCircleRow, standIns := [], harness := (true, "1c38f6d0bd18cdbef6b43ed4686c3c2ceed5939ef1a38103d06c9e0af79bfd28"), looks := true }, kinds := [], alts := [], laidByText := true, laidKinds := [.data, .data, .data, .data, .pinned], laidTests := true, laidLooks := .later }
def LinksCircleCardSaid : Prop := Claim7.holds Tryd.pinned (.plain (OpenSpec.ofChange linksCircleSpec)) linksCircleCard

/-- THE TIED CARD OF 'analemmalaw15.LinksEnd'. -/
def linksEndCard : Claim7 := { stood := { row := linksEndRow, standIns := [], harness := (true, "1c38f6d0bd18cdbef6b43ed4686c3c2ceed5939ef1a38103d06c9e0af79bfd28"), looks := true }, kinds := [], alts := [], laidByText := true, laidKinds := [.data, .data, .data, .data, .pinned], laidTests := true, laidLooks := .later }
def LinksEndCardSaid : Prop := Claim7.holds Tryd.pinned (.plain (OpenSpec.ofChange linksEndSpec)) linksEndCard

/-- THE SECOND FORM's CARD OF 'analemmalaw15.LinksTell'. -/
def linksTellUptoCard : Claim7 := { stood := { row := linksTellUptoRow, standIns := [], harness := (true, "1c38f6d0bd18cdbef6b43ed4686c3c2ceed5939ef1a38103d06c9e0af79bfd28"), looks := true }, kinds := [], alts := [], laidByText := true, laidKinds := [.data, .pinned], laidTests := true, laidLooks := .later }
def LinksTellUptoCardSaid : Prop := Claim7.holds Tryd.pinned (.plain (OpenSpec.upto linksTellSpec)) linksTellUptoCard

/-- THE SECOND FORM's CARD OF 'analemmalaw15.LinksWrong'. -/
def linksWrongUptoCard : Claim7 := { stood := { row := linksWrongUptoRow, standIns := [], harness := (true, "1c38f6d0bd18cdbef6b43ed4686c3c2ceed5939ef1a38103d06c9e0af79bfd28"), looks := true }, kinds := [], alts := [], laidByText := true, laidKinds := [.data, .data, .data, .data, .pinned], laidTests := true, laidLooks := .later }
def LinksWrongUptoCardSaid : Prop := Claim7.holds Tryd.pinned (.plain (OpenSpec.upto linksWrongSpec)) linksWrongUptoCard

/-- THE SECOND FORM's CARD OF 'analemmalaw15.LinksOrder'. -/
def linksOrderUptoCard : Claim7 := { stood := { row := linksOrderUptoRow, standIns := [], harness := (true, "1c38f6d0bd18cdbef6b43ed4686c3c2ceed5939ef1a38103d06c9e0af79bfd28"), looks := true }, kinds := [], alts := [], laidByText := true, laidKinds := [.data, .data, .data, .data, .pinned], laidTests := true, laidLooks := .later }
def LinksOrderUptoCardSaid : Prop := Claim7.holds Tryd.pinned (.plain (OpenSpec.upto linksOrderSpec)) linksOrderUptoCard

/-- THE SECOND FORM's CARD OF 'analemmalaw15.LinksCircle'. -/
def linksCircleUptoCard : Claim7 := { stood := { row := linksCircleUptoRow, standIns := [], harness := (true, "1c38f6d0bd18cdbef6b43ed4686c3c2ceed5939ef1a38103d06c9e0af79bfd28"), looks := true }, kinds := [], alts := [], laidByText := true, laidKinds := [.data, .data, .data, .data, .pinned], laidTests := true, laidLooks := .later }
def LinksCircleUptoCardSaid : Prop := Claim7.holds Tryd.pinned (.plain (OpenSpec.upto linksCircleSpec)) linksCircleUptoCard

/-- THE SECOND FORM's CARD OF 'analemmalaw15.LinksEnd'. -/
def linksEndUptoCard : Claim7 := { stood := { row := linksEndUptoRow, standIns := [], harness := (true, "1c38f6d0bd18cdbef6b43ed4686c3c2ceed5939ef1a38103d06c9e0af79bfd28"), looks := true }, kinds := [], alts := [], laidByText := true, laidKinds := [.data, .data, .data, .data, .pinned], laidTests := true, laidLooks := .later }
def LinksEndUptoCardSaid : Prop := Claim7.holds Tryd.pinned (.plain (OpenSpec.upto linksEndSpec)) linksEndUptoCard
end Rows
end Go.Proofs.YtdeompnaojiajaaDoor
