/-
  DERIVED. GIVEN WITH THE SEED: THE CARDS: each row of YtgllbagmmpicaaaGreatDoorRows.lean that lists a variable, with what it lists TIED to the program's text (the seventh form; the later family's looks); each row that meets fmt, with fmt's text TOLD by the authors' own Lean function (tested against real Go, not proved from fmt's source: count such statements apart). THE CARD IS WHAT COUNTS. Prove the row's statement (the work); the ties are given (YtgllbagmmpicaaaGreatDoorTie.lean); close each card by the builder's one call (the guide's Derived/Test/ToyasCard.lean, 'card_holds'). Laid BY PROGRAM, IN A SANDBOX (cutbox-door.mjs). By AI agents, Wed Nov 11 2026. No macro, syntax, notation, axiom, sorry.
-/
import Derived.Test.YtgllbagmmpicaaaGreatDoorRows
import GoSem.ClaimSeven
namespace Go.Proofs.YtgllbagmmpicaaaGreatDoor
namespace Rows

/-- THE TIED CARD OF 'analemmalaw37.PosixStrings'. -/
def posixStringsCard : Claim7 := { stood := { row := posixStringsRow, standIns := [], harness := (true, "1c4c38c643b01457ade93860015cc7b38ee18453b6fcdc443344d30f8daaaf82"), looks := true }, kinds := [], alts := [], laidByText := true, laidKinds := [.data, .data, .data, .data, .sentinel, .sentinel, .data, .funcs, .data, .pinned], laidTests := true, laidLooks := .later }
def PosixStringsCardSaid : Prop := Claim7.holds Tryz.pinned (.plain (OpenSpec.ofChange posixStringsSpec)) posixStringsCard

/-- THE TIED CARD OF 'analemmalaw37.PosixTimes'. -/
def posixTimesCard : Claim7 := { stood := { row := posixTimesRow, standIns := [], harness := (true, "1c4c38c643b01457ade93860015cc7b38ee18453b6fcdc443344d30f8daaaf82"), looks := true }, kinds := [], alts := [], laidByText := true, laidKinds := [.data, .data, .data, .data, .sentinel, .sentinel, .data, .funcs, .data, .pinned], laidTests := true, laidLooks := .later }
def PosixTimesCardSaid : Prop := Claim7.holds Tryz.pinned (.plain (OpenSpec.ofChange posixTimesSpec)) posixTimesCard

/-- THE TIED CARD OF 'analemmalaw37.PosixBack'. -/
def posixBackCard : Claim7 := { stood := { row := posixBackRow, standIns := [], harness := (true, "1c4c38c643b01457ade93860015cc7b38ee18453b6fcdc443344d30f8daaaf82"), looks := true }, kinds := [], alts := [], laidByText := true, laidKinds := [.data, .data, .data, .data, .sentinel, .sentinel, .data, .funcs, .data, .pinned], laidTests := true, laidLooks := .later }
def PosixBackCardSaid : Prop := Claim7.holds Tryz.pinned (.plain (OpenSpec.ofChange posixBackSpec)) posixBackCard

/-- THE TIED CARD OF 'analemmalaw37.PosixBegins'. -/
def posixBeginsCard : Claim7 := { stood := { row := posixBeginsRow, standIns := [], harness := (true, "1c4c38c643b01457ade93860015cc7b38ee18453b6fcdc443344d30f8daaaf82"), looks := true }, kinds := [], alts := [], laidByText := true, laidKinds := [.data, .data, .data, .data, .sentinel, .sentinel, .data, .funcs, .data, .pinned], laidTests := true, laidLooks := .later }
def PosixBeginsCardSaid : Prop := Claim7.holds Tryz.pinned (.plain (OpenSpec.ofChange posixBeginsSpec)) posixBeginsCard

/-- THE TIED CARD OF 'analemmalaw37.PosixCycles'. -/
def posixCyclesCard : Claim7 := { stood := { row := posixCyclesRow, standIns := [], harness := (true, "1c4c38c643b01457ade93860015cc7b38ee18453b6fcdc443344d30f8daaaf82"), looks := true }, kinds := [], alts := [], laidByText := true, laidKinds := [.data, .data, .data, .data, .sentinel, .sentinel, .data, .funcs, .data, .pinned], laidTests := true, laidLooks := .later }
def PosixCyclesCardSaid : Prop := Claim7.holds Tryz.pinned (.plain (OpenSpec.ofChange posixCyclesSpec)) posixCyclesCard

/-- THE TIED CARD OF 'analemmalaw37.PosixAlways'. -/
def posixAlwaysCard : Claim7 := { stood := { row := posixAlwaysRow, standIns := [], harness := (true, "1c4c38c643b01457ade93860015cc7b38ee18453b6fcdc443344d30f8daaaf82"), looks := true }, kinds := [], alts := [], laidByText := true, laidKinds := [.data, .data, .data, .data, .sentinel, .sentinel, .data, .funcs, .data, .pinned], laidTests := true, laidLooks := .later }
def PosixAlwaysCardSaid : Prop := Claim7.holds Tryz.pinned (.plain (OpenSpec.ofChange posixAlwaysSpec)) posixAlwaysCard

/-- THE TIED CARD OF 'analemmalaw37.PosixRefuses'. -/
def posixRefusesCard : Claim7 := { stood := { row := posixRefusesRow, standIns := [], harness := (true, "1c4c38c643b01457ade93860015cc7b38ee18453b6fcdc443344d30f8daaaf82"), looks := true }, kinds := [], alts := [], laidByText := true, laidKinds := [.data, .data, .data, .data, .sentinel, .sentinel, .data, .funcs, .data, .pinned], laidTests := true, laidLooks := .later }
def PosixRefusesCardSaid : Prop := Claim7.holds Tryz.pinned (.plain (OpenSpec.ofChange posixRefusesSpec)) posixRefusesCard

/-- THE SECOND FORM's CARD OF 'analemmalaw37.PosixStrings'. -/
def posixStringsUptoCard : Claim7 := { stood := { row := posixStringsUptoRow, standIns := [], harness := (true, "1c4c38c643b01457ade93860015cc7b38ee18453b6fcdc443344d30f8daaaf82"), looks := true }, kinds := [], alts := [], laidByText := true, laidKinds := [.data, .data, .data, .data, .sentinel, .sentinel, .data, .funcs, .data, .pinned], laidTests := true, laidLooks := .later }
def PosixStringsUptoCardSaid : Prop := Claim7.holds Tryz.pinned (.plain (OpenSpec.upto posixStringsSpec)) posixStringsUptoCard

/-- THE SECOND FORM's CARD OF 'analemmalaw37.PosixTimes'. -/
def posixTimesUptoCard : Claim7 := { stood := { row := posixTimesUptoRow, standIns := [], harness := (true, "1c4c38c643b01457ade93860015cc7b38ee18453b6fcdc443344d30f8daaaf82"), looks := true }, kinds := [], alts := [], laidByText := true, laidKinds := [.data, .data, .data, .data, .sentinel, .sentinel, .data, .funcs, .data, .pinned], laidTests := true, laidLooks := .later }
def PosixTimesUptoCardSaid : Prop := Claim7.holds Tryz.pinned (.plain (OpenSpec.upto posixTimesSpec)) posixTimesUptoCard

/-- THE SECOND FORM's CARD OF 'analemmalaw37.PosixBack'. -/
def posixBackUptoCard : Claim7 := { stood := { row := posixBackUptoRow, standIns := [], harness := (true, "1c4c38c643b01457ade93860015cc7b38ee18453b6fcdc443344d30f8daaaf82"), looks := true }, kinds := [], alts := [], laidByText := true, laidKinds := [.data, .data, .data, .data, .sentinel, .sentinel, .data, .funcs, .data, .pinned], laidTests := true, laidLooks := .later }
def PosixBackUptoCardSaid : Prop := Claim7.holds Tryz.pinned (.plain (OpenSpec.upto posixBackSpec)) posixBackUptoCard

/-- THE SECOND FORM's CARD OF 'analemmalaw37.PosixBegins'. -/
def posixBeginsUptoCard : Claim7 := { stood := { row := posixBeginsUptoRow, standIns := [], harness := (true, "1c4c38c643b01457ade93860015cc7b38ee18453b6fcdc443344d30f8daaaf82"), looks := true }, kinds := [], alts := [], laidByText := true, laidKinds := [.data, .data, .data, .data, .sentinel, .sentinel, .data, .funcs, .data, .pinned], laidTests := true, laidLooks := .later }
def PosixBeginsUptoCardSaid : Prop := Claim7.holds Tryz.pinned (.plain (OpenSpec.upto posixBeginsSpec)) posixBeginsUptoCard

/-- THE SECOND FORM's CARD OF 'analemmalaw37.PosixCycles'. -/
def posixCyclesUptoCard : Claim7 := { stood := { row := posixCyclesUptoRow, standIns := [], harness := (true, "1c4c38c643b01457ade93860015cc7b38ee18453b6fcdc443344d30f8daaaf82"), looks := true }, kinds := [], alts := [], laidByText := true, laidKinds := [.data, .data, .data, .data, .sentinel, .sentinel, .data, .funcs, .data, .pinned], laidTests := true, laidLooks := .later }
def PosixCyclesUptoCardSaid : Prop := Claim7.holds Tryz.pinned (.plain (OpenSpec.upto posixCyclesSpec)) posixCyclesUptoCard

/-- THE SECOND FORM's CARD OF 'analemmalaw37.PosixAlways'. -/
def posixAlwaysUptoCard : Claim7 := { stood := { row := posixAlwaysUptoRow, standIns := [], harness := (true, "1c4c38c643b01457ade93860015cc7b38ee18453b6fcdc443344d30f8daaaf82"), looks := true }, kinds := [], alts := [], laidByText := true, laidKinds := [.data, .data, .data, .data, .sentinel, .sentinel, .data, .funcs, .data, .pinned], laidTests := true, laidLooks := .later }
def PosixAlwaysUptoCardSaid : Prop := Claim7.holds Tryz.pinned (.plain (OpenSpec.upto posixAlwaysSpec)) posixAlwaysUptoCard

/-- THE SECOND FORM's CARD OF 'analemmalaw37.PosixRefuses'. -/
def posixRefusesUptoCard : Claim7 := { stood := { row := posixRefusesUptoRow, standIns := [], harness := (true, "1c4c38c643b01457ade93860015cc7b38ee18453b6fcdc443344d30f8daaaf82"), looks := true }, kinds := [], alts := [], laidByText := true, laidKinds := [.data, .data, .data, .data, .sentinel, .sentinel, .data, .funcs, .data, .pinned], laidTests := true, laidLooks := .later }
def PosixRefusesUptoCardSaid : Prop := Claim7.holds Tryz.pinned (.plain (OpenSpec.upto posixRefusesSpec)) posixRefusesUptoCard
end Rows
end Go.Proofs.YtgllbagmmpicaaaGreatDoor
