/-
  DERIVED. GIVEN WITH THE SEED: THE CARDS: each row of YtnffecoohkanhaaDoorRows.lean that lists a variable, with what it lists TIED to the program's text (the seventh form; the later family's looks); each row that meets fmt, with fmt's text TOLD by the authors' own Lean function (tested against real Go, not proved from fmt's source: count such statements apart). THE CARD IS WHAT COUNTS. Prove the row's statement (the work); the ties are given (YtnffecoohkanhaaDoorTie.lean); close each card by the builder's one call (the guide's Derived/Test/ToyasCard.lean, 'card_holds'). Laid BY PROGRAM, IN A SANDBOX (cutbox-door.mjs). By AI agents, Wed Nov 11 2026. No macro, syntax, notation, axiom, sorry.
-/
import Derived.Test.YtnffecoohkanhaaDoorRows
import GoSem.ClaimSeven
namespace Go.Proofs.YtnffecoohkanhaaDoor
namespace Rows

/-- THE TIED CARD OF 'analemmalaw35.FlattenTells'. -/
def flattenTellsCard : Claim7 := { stood := { row := flattenTellsRow, standIns := [], harness := (true, "ec73e877ce486129173c50e1d677f0529750a283c7cafb85ef627a0e74517759"), looks := true }, kinds := [], alts := [], laidByText := true, laidKinds := [.data, .pinned], laidTests := true, laidLooks := .later }
def FlattenTellsCardSaid : Prop := Claim7.holds Tryd.pinned (.plain (OpenSpec.ofChange flattenTellsSpec)) flattenTellsCard

/-- THE TIED CARD OF 'analemmalaw35.FlattenOnce'. -/
def flattenOnceCard : Claim7 := { stood := { row := flattenOnceRow, standIns := [], harness := (true, "ec73e877ce486129173c50e1d677f0529750a283c7cafb85ef627a0e74517759"), looks := true }, kinds := [], alts := [], laidByText := true, laidKinds := [.data, .data, .data, .data, .pinned], laidTests := true, laidLooks := .later }
def FlattenOnceCardSaid : Prop := Claim7.holds Tryd.pinned (.plain (OpenSpec.ofChange flattenOnceSpec)) flattenOnceCard

/-- THE TIED CARD OF 'analemmalaw35.FlattenRefuses'. -/
def flattenRefusesCard : Claim7 := { stood := { row := flattenRefusesRow, standIns := [], harness := (true, "ec73e877ce486129173c50e1d677f0529750a283c7cafb85ef627a0e74517759"), looks := true }, kinds := [], alts := [], laidByText := true, laidKinds := [.data, .data, .data, .data, .pinned], laidTests := true, laidLooks := .later }
def FlattenRefusesCardSaid : Prop := Claim7.holds Tryd.pinned (.plain (OpenSpec.ofChange flattenRefusesSpec)) flattenRefusesCard

/-- THE TIED CARD OF 'analemmalaw35.FlattenApart'. -/
def flattenApartCard : Claim7 := { stood := { row := flattenApartRow, standIns := [], harness := (true, "ec73e877ce486129173c50e1d677f0529750a283c7cafb85ef627a0e74517759"), looks := true }, kinds := [], alts := [], laidByText := true, laidKinds := [.data, .data, .data, .data, .pinned], laidTests := true, laidLooks := .later }
def FlattenApartCardSaid : Prop := Claim7.holds Tryd.pinned (.plain (OpenSpec.ofChange flattenApartSpec)) flattenApartCard

/-- THE TIED CARD OF 'analemmalaw35.FlattenOrder'. -/
def flattenOrderCard : Claim7 := { stood := { row := flattenOrderRow, standIns := [], harness := (true, "ec73e877ce486129173c50e1d677f0529750a283c7cafb85ef627a0e74517759"), looks := true }, kinds := [], alts := [], laidByText := true, laidKinds := [.data, .data, .data, .data, .pinned], laidTests := true, laidLooks := .later }
def FlattenOrderCardSaid : Prop := Claim7.holds Tryd.pinned (.plain (OpenSpec.ofChange flattenOrderSpec)) flattenOrderCard

/-- THE SECOND FORM's CARD OF 'analemmalaw35.FlattenTells'. -/
def flattenTellsUptoCard : Claim7 := { stood := { row := flattenTellsUptoRow, standIns := [], harness := (true, "ec73e877ce486129173c50e1d677f0529750a283c7cafb85ef627a0e74517759"), looks := true }, kinds := [], alts := [], laidByText := true, laidKinds := [.data, .pinned], laidTests := true, laidLooks := .later }
def FlattenTellsUptoCardSaid : Prop := Claim7.holds Tryd.pinned (.plain (OpenSpec.upto flattenTellsSpec)) flattenTellsUptoCard

/-- THE SECOND FORM's CARD OF 'analemmalaw35.FlattenOnce'. -/
def flattenOnceUptoCard : Claim7 := { stood := { row := flattenOnceUptoRow, standIns := [], harness := (true, "ec73e877ce486129173c50e1d677f0529750a283c7cafb85ef627a0e74517759"), looks := true }, kinds := [], alts := [], laidByText := true, laidKinds := [.data, .data, .data, .data, .pinned], laidTests := true, laidLooks := .later }
def FlattenOnceUptoCardSaid : Prop := Claim7.holds Tryd.pinned (.plain (OpenSpec.upto flattenOnceSpec)) flattenOnceUptoCard

/-- THE SECOND FORM's CARD OF 'analemmalaw35.FlattenRefuses'. -/
def flattenRefusesUptoCard : Claim7 := { stood := { row := flattenRefusesUptoRow, standIns := [], harness := (true, "ec73e877ce486129173c50e1d677f0529750a283c7cafb85ef627a0e74517759"), looks := true }, kinds := [], alts := [], laidByText := true, laidKinds := [.data, .data, .data, .data, .pinned], laidTests := true, laidLooks := .later }
def FlattenRefusesUptoCardSaid : Prop := Claim7.holds Tryd.pinned (.plain (OpenSpec.upto flattenRefusesSpec)) flattenRefusesUptoCard

/-- THE SECOND FORM's CARD OF 'analemmalaw35.FlattenApart'. -/
def flattenApartUptoCard : Claim7 := { stood := { row := flattenApartUptoRow, standIns := [], harness := (true, "ec73e877ce486129173c50e1d677f0529750a283c7cafb85ef627a0e74517759"), looks := true }, kinds := [], alts := [], laidByText := true, laidKinds := [.data, .data, .data, .data, .pinned], laidTests := true, laidLooks := .later }
def FlattenApartUptoCardSaid : Prop := Claim7.holds Tryd.pinned (.plain (OpenSpec.upto flattenApartSpec)) flattenApartUptoCard

/-- THE SECOND FORM's CARD OF 'analemmalaw35.FlattenOrder'. -/
def flattenOrderUptoCard : Claim7 := { stood := { row := flattenOrderUptoRow, standIns := [], harness := (true, "ec73e877ce486129173c50e1d677f0529750a283c7cafb85ef627a0e74517759"), looks := true }, kinds := [], alts := [], laidByText := true, laidKinds := [.data, .data, .data, .data, .pinned], laidTests := true, laidLooks := .later }
def FlattenOrderUptoCardSaid : Prop := Claim7.holds Tryd.pinned (.plain (OpenSpec.upto flattenOrderSpec)) flattenOrderUptoCard
end Rows
end Go.Proofs.YtnffecoohkanhaaDoor
