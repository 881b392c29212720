/-
  DERIVED. GIVEN WITH THE SEED: THE CARDS: each row of YtkfgonbopgdmgaaDoorRows.lean that lists a variable, with what it lists TIED to the program's text (the seventh form; the later family's looks); each row that meets fmt, with fmt's text TOLD by the authors' own Lean function (tested against real Go, not proved from fmt's source: count such statements apart). THE CARD IS WHAT COUNTS. Prove the row's statement (the work); the ties are given (YtkfgonbopgdmgaaDoorTie.lean); close each card by the builder's one call (the guide's Derived/Test/ToyasCard.lean, 'card_holds'). Laid BY PROGRAM, IN A SANDBOX (cutbox-door.mjs). By AI agents, Wed Nov 11 2026. No macro, syntax, notation, axiom, sorry.
-/
import Derived.Test.YtkfgonbopgdmgaaDoorRows
import GoSem.ClaimSeven
namespace Go.Proofs.YtkfgonbopgdmgaaDoor
namespace Rows

/-- THE TIED CARD OF 'analemmalaw39.PoolAbbrs'. -/
def poolAbbrsCard : Claim7 := { stood := { row := poolAbbrsRow, standIns := [], harness := (true, "234807d4d2f0f3b631e4b3ff918bd2c5abd54ebea8b0c846bb0032950acc1309"), looks := false }, kinds := [], alts := [], laidByText := true, laidKinds := [.data, .data, .data, .data, .pinned], laidTests := true, laidLooks := .later }
def PoolAbbrsCardSaid : Prop := Claim7.holds Tryd.pinned (.plain (OpenSpec.ofChange poolAbbrsSpec)) poolAbbrsCard

/-- THE TIED CARD OF 'analemmalaw39.PoolDifferent'. -/
def poolDifferentCard : Claim7 := { stood := { row := poolDifferentRow, standIns := [], harness := (true, "234807d4d2f0f3b631e4b3ff918bd2c5abd54ebea8b0c846bb0032950acc1309"), looks := false }, kinds := [], alts := [], laidByText := true, laidKinds := [.data, .data, .data, .data, .pinned], laidTests := true, laidLooks := .later }
def PoolDifferentCardSaid : Prop := Claim7.holds Tryd.pinned (.plain (OpenSpec.ofChange poolDifferentSpec)) poolDifferentCard

/-- THE TIED CARD OF 'analemmalaw39.PoolTypes'. -/
def poolTypesCard : Claim7 := { stood := { row := poolTypesRow, standIns := [], harness := (true, "234807d4d2f0f3b631e4b3ff918bd2c5abd54ebea8b0c846bb0032950acc1309"), looks := false }, kinds := [], alts := [], laidByText := true, laidKinds := [.data, .data, .data, .data, .pinned], laidTests := true, laidLooks := .later }
def PoolTypesCardSaid : Prop := Claim7.holds Tryd.pinned (.plain (OpenSpec.ofChange poolTypesSpec)) poolTypesCard

/-- THE TIED CARD OF 'analemmalaw39.PoolFound'. -/
def poolFoundCard : Claim7 := { stood := { row := poolFoundRow, standIns := [], harness := (true, "234807d4d2f0f3b631e4b3ff918bd2c5abd54ebea8b0c846bb0032950acc1309"), looks := false }, kinds := [], alts := [], laidByText := true, laidKinds := [.data, .data, .data, .data, .pinned], laidTests := true, laidLooks := .later }
def PoolFoundCardSaid : Prop := Claim7.holds Tryd.pinned (.plain (OpenSpec.ofChange poolFoundSpec)) poolFoundCard

/-- THE TIED CARD OF 'analemmalaw39.PoolOrder'. -/
def poolOrderCard : Claim7 := { stood := { row := poolOrderRow, standIns := [], harness := (true, "234807d4d2f0f3b631e4b3ff918bd2c5abd54ebea8b0c846bb0032950acc1309"), looks := false }, kinds := [], alts := [], laidByText := true, laidKinds := [.data, .data, .data, .data, .pinned], laidTests := true, laidLooks := .later }
def PoolOrderCardSaid : Prop := Claim7.holds Tryd.pinned (.plain (OpenSpec.ofChange poolOrderSpec)) poolOrderCard

/-- THE TIED CARD OF 'analemmalaw39.PoolRefuses'. -/
def poolRefusesCard : Claim7 := { stood := { row := poolRefusesRow, standIns := [], harness := (true, "234807d4d2f0f3b631e4b3ff918bd2c5abd54ebea8b0c846bb0032950acc1309"), looks := false }, kinds := [], alts := [], laidByText := true, laidKinds := [.data, .data, .data, .data, .pinned], laidTests := true, laidLooks := .later }
def PoolRefusesCardSaid : Prop := Claim7.holds Tryd.pinned (.plain (OpenSpec.ofChange poolRefusesSpec)) poolRefusesCard

/-- THE SECOND FORM's CARD OF 'analemmalaw39.PoolAbbrs'. -/
def poolAbbrsUptoCard : Claim7 := { stood := { row := poolAbbrsUptoRow, standIns := [], harness := (true, "234807d4d2f0f3b631e4b3ff918bd2c5abd54ebea8b0c846bb0032950acc1309"), looks := false }, kinds := [], alts := [], laidByText := true, laidKinds := [.data, .data, .data, .data, .pinned], laidTests := true, laidLooks := .later }
def PoolAbbrsUptoCardSaid : Prop := Claim7.holds Tryd.pinned (.plain (OpenSpec.upto poolAbbrsSpec)) poolAbbrsUptoCard

/-- THE SECOND FORM's CARD OF 'analemmalaw39.PoolDifferent'. -/
def poolDifferentUptoCard : Claim7 := { stood := { row := poolDifferentUptoRow, standIns := [], harness := (true, "234807d4d2f0f3b631e4b3ff918bd2c5abd54ebea8b0c846bb0032950acc1309"), looks := false }, kinds := [], alts := [], laidByText := true, laidKinds := [.data, .data, .data, .data, .pinned], laidTests := true, laidLooks := .later }
def PoolDifferentUptoCardSaid : Prop := Claim7.holds Tryd.pinned (.plain (OpenSpec.upto poolDifferentSpec)) poolDifferentUptoCard

/-- THE SECOND FORM's CARD OF 'analemmalaw39.PoolTypes'. -/
def poolTypesUptoCard : Claim7 := { stood := { row := poolTypesUptoRow, standIns := [], harness := (true, "234807d4d2f0f3b631e4b3ff918bd2c5abd54ebea8b0c846bb0032950acc1309"), looks := false }, kinds := [], alts := [], laidByText := true, laidKinds := [.data, .data, .data, .data, .pinned], laidTests := true, laidLooks := .later }
def PoolTypesUptoCardSaid : Prop := Claim7.holds Tryd.pinned (.plain (OpenSpec.upto poolTypesSpec)) poolTypesUptoCard

/-- THE SECOND FORM's CARD OF 'analemmalaw39.PoolFound'. -/
def poolFoundUptoCard : Claim7 := { stood := { row := poolFoundUptoRow, standIns := [], harness := (true, "234807d4d2f0f3b631e4b3ff918bd2c5abd54ebea8b0c846bb0032950acc1309"), looks := false }, kinds := [], alts := [], laidByText := true, laidKinds := [.data, .data, .data, .data, .pinned], laidTests := true, laidLooks := .later }
def PoolFoundUptoCardSaid : Prop := Claim7.holds Tryd.pinned (.plain (OpenSpec.upto poolFoundSpec)) poolFoundUptoCard

/-- THE SECOND FORM's CARD OF 'analemmalaw39.PoolOrder'. -/
def poolOrderUptoCard : Claim7 := { stood := { row := poolOrderUptoRow, standIns := [], harness := (true, "234807d4d2f0f3b631e4b3ff918bd2c5abd54ebea8b0c846bb0032950acc1309"), looks := false }, kinds := [], alts := [], laidByText := true, laidKinds := [.data, .data, .data, .data, .pinned], laidTests := true, laidLooks := .later }
def PoolOrderUptoCardSaid : Prop := Claim7.holds Tryd.pinned (.plain (OpenSpec.upto poolOrderSpec)) poolOrderUptoCard

/-- THE SECOND FORM's CARD OF 'analemmalaw39.PoolRefuses'. -/
def poolRefusesUptoCard : Claim7 := { stood := { row := poolRefusesUptoRow, standIns := [], harness := (true, "234807d4d2f0f3b631e4b3ff918bd2c5abd54ebea8b0c846bb0032950acc1309"), looks := false }, kinds := [], alts := [], laidByText := true, laidKinds := [.data, .data, .data, .data, .pinned], laidTests := true, laidLooks := .later }
def PoolRefusesUptoCardSaid : Prop := Claim7.holds Tryd.pinned (.plain (OpenSpec.upto poolRefusesSpec)) poolRefusesUptoCard
end Rows
end Go.Proofs.YtkfgonbopgdmgaaDoor
