/-
  DERIVED. GIVEN WITH THE SEED: THE CARDS: each row of YtlaplgaccjmbhaaGreatDoorRows.lean that lists a variable, with what it lists TIED to the program's text (the seventh form; the later family's looks); each row that meets fmt, with fmt's text TOLD by the authors' own Lean function (tested against real Go, not proved from fmt's source: count such statements apart). THE CARD IS WHAT COUNTS. Prove the row's statement (the work); the ties are given (YtlaplgaccjmbhaaGreatDoorTie.lean); close each card by the builder's one call (the guide's Derived/Test/ToyasCard.lean, 'card_holds'). Laid BY PROGRAM, IN A SANDBOX (cutbox-door.mjs). By AI agents, Wed Nov 11 2026. No macro, syntax, notation, axiom, sorry.
-/
import Derived.Test.YtlaplgaccjmbhaaGreatDoorRows
import GoSem.ClaimSeven
namespace Go.Proofs.YtlaplgaccjmbhaaGreatDoor
namespace Rows

/-- THE TIED CARD OF 'analemmalaw45.LookupTables'. -/
def lookupTablesCard : Claim7 := { stood := { row := lookupTablesRow, standIns := [], harness := (true, "6d774b7c43a4b5f09d50121b18dbc9ff24d91f6c63803aea1af2961815aeeacd"), looks := true }, kinds := [], alts := [], laidByText := true, laidKinds := [.data, .data, .data, .data, .sentinel, .sentinel, .data, .funcs, .data, .pinned], laidTests := true, laidLooks := .later }
def LookupTablesCardSaid : Prop := Claim7.holds Tryz.pinned (.plain (OpenSpec.ofChange lookupTablesSpec)) lookupTablesCard

/-- THE TIED CARD OF 'analemmalaw45.LookupSteps'. -/
def lookupStepsCard : Claim7 := { stood := { row := lookupStepsRow, standIns := [], harness := (true, "6d774b7c43a4b5f09d50121b18dbc9ff24d91f6c63803aea1af2961815aeeacd"), looks := true }, kinds := [], alts := [], laidByText := true, laidKinds := [.data, .data, .data, .data, .sentinel, .sentinel, .data, .funcs, .data, .pinned], laidTests := true, laidLooks := .later }
def LookupStepsCardSaid : Prop := Claim7.holds Tryz.pinned (.plain (OpenSpec.ofChange lookupStepsSpec)) lookupStepsCard

/-- THE TIED CARD OF 'analemmalaw45.LookupIndexes'. -/
def lookupIndexesCard : Claim7 := { stood := { row := lookupIndexesRow, standIns := [], harness := (true, "6d774b7c43a4b5f09d50121b18dbc9ff24d91f6c63803aea1af2961815aeeacd"), looks := true }, kinds := [], alts := [], laidByText := true, laidKinds := [.data, .data, .data, .data, .sentinel, .sentinel, .data, .funcs, .data, .pinned], laidTests := true, laidLooks := .later }
def LookupIndexesCardSaid : Prop := Claim7.holds Tryz.pinned (.plain (OpenSpec.ofChange lookupIndexesSpec)) lookupIndexesCard

/-- THE TIED CARD OF 'analemmalaw45.LookupFooter'. -/
def lookupFooterCard : Claim7 := { stood := { row := lookupFooterRow, standIns := [], harness := (true, "6d774b7c43a4b5f09d50121b18dbc9ff24d91f6c63803aea1af2961815aeeacd"), looks := true }, kinds := [], alts := [], laidByText := true, laidKinds := [.data, .data, .data, .data, .sentinel, .sentinel, .data, .funcs, .data, .pinned], laidTests := true, laidLooks := .later }
def LookupFooterCardSaid : Prop := Claim7.holds Tryz.pinned (.plain (OpenSpec.ofChange lookupFooterSpec)) lookupFooterCard

/-- THE TIED CARD OF 'analemmalaw45.LookupRefuses'. -/
def lookupRefusesCard : Claim7 := { stood := { row := lookupRefusesRow, standIns := [], harness := (true, "6d774b7c43a4b5f09d50121b18dbc9ff24d91f6c63803aea1af2961815aeeacd"), looks := true }, kinds := [], alts := [], laidByText := true, laidKinds := [.data, .data, .data, .data, .sentinel, .sentinel, .data, .funcs, .data, .pinned], laidTests := true, laidLooks := .later }
def LookupRefusesCardSaid : Prop := Claim7.holds Tryz.pinned (.plain (OpenSpec.ofChange lookupRefusesSpec)) lookupRefusesCard

/-- THE TIED CARD OF 'analemmalaw40.TableChecks'. -/
def tableChecksCard : Claim7 := { stood := { row := tableChecksRow, standIns := [], harness := (true, "6d774b7c43a4b5f09d50121b18dbc9ff24d91f6c63803aea1af2961815aeeacd"), looks := true }, kinds := [], alts := [], laidByText := true, laidKinds := [.data, .data, .data, .data, .sentinel, .sentinel, .data, .funcs, .data, .pinned], laidTests := true, laidLooks := .later }
def TableChecksCardSaid : Prop := Claim7.holds Tryz.pinned (.plain (OpenSpec.ofChange tableChecksSpec)) tableChecksCard

/-- THE TIED CARD OF 'analemmalaw40.TableMakes'. -/
def tableMakesCard : Claim7 := { stood := { row := tableMakesRow, standIns := [], harness := (true, "6d774b7c43a4b5f09d50121b18dbc9ff24d91f6c63803aea1af2961815aeeacd"), looks := true }, kinds := [], alts := [], laidByText := true, laidKinds := [.data, .data, .data, .data, .sentinel, .sentinel, .data, .funcs, .data, .pinned], laidTests := true, laidLooks := .later }
def TableMakesCardSaid : Prop := Claim7.holds Tryz.pinned (.plain (OpenSpec.ofChange tableMakesSpec)) tableMakesCard

/-- THE TIED CARD OF 'analemmalaw40.TableRight'. -/
def tableRightCard : Claim7 := { stood := { row := tableRightRow, standIns := [], harness := (true, "6d774b7c43a4b5f09d50121b18dbc9ff24d91f6c63803aea1af2961815aeeacd"), looks := true }, kinds := [], alts := [], laidByText := true, laidKinds := [.data, .data, .data, .data, .sentinel, .sentinel, .data, .funcs, .data, .pinned], laidTests := true, laidLooks := .later }
def TableRightCardSaid : Prop := Claim7.holds Tryz.pinned (.plain (OpenSpec.ofChange tableRightSpec)) tableRightCard

/-- THE TIED CARD OF 'analemmalaw40.TableSpoilt'. -/
def tableSpoiltCard : Claim7 := { stood := { row := tableSpoiltRow, standIns := [], harness := (true, "6d774b7c43a4b5f09d50121b18dbc9ff24d91f6c63803aea1af2961815aeeacd"), looks := true }, kinds := [], alts := [], laidByText := true, laidKinds := [.data, .data, .data, .data, .sentinel, .sentinel, .data, .funcs, .data, .pinned], laidTests := true, laidLooks := .later }
def TableSpoiltCardSaid : Prop := Claim7.holds Tryz.pinned (.plain (OpenSpec.ofChange tableSpoiltSpec)) tableSpoiltCard

/-- THE TIED CARD OF 'analemmalaw40.TableMany'. -/
def tableManyCard : Claim7 := { stood := { row := tableManyRow, standIns := [], harness := (true, "6d774b7c43a4b5f09d50121b18dbc9ff24d91f6c63803aea1af2961815aeeacd"), looks := true }, kinds := [], alts := [], laidByText := true, laidKinds := [.data, .data, .data, .data, .sentinel, .sentinel, .data, .funcs, .data, .pinned], laidTests := true, laidLooks := .later }
def TableManyCardSaid : Prop := Claim7.holds Tryz.pinned (.plain (OpenSpec.ofChange tableManySpec)) tableManyCard

/-- THE TIED CARD OF 'analemmalaw40.TableLines'. -/
def tableLinesCard : Claim7 := { stood := { row := tableLinesRow, standIns := [], harness := (true, "6d774b7c43a4b5f09d50121b18dbc9ff24d91f6c63803aea1af2961815aeeacd"), looks := true }, kinds := [], alts := [], laidByText := true, laidKinds := [.data, .data, .data, .data, .sentinel, .sentinel, .data, .funcs, .data, .pinned], laidTests := true, laidLooks := .later }
def TableLinesCardSaid : Prop := Claim7.holds Tryz.pinned (.plain (OpenSpec.ofChange tableLinesSpec)) tableLinesCard

/-- THE TIED CARD OF 'analemmalaw40.TableFooters'. -/
def tableFootersCard : Claim7 := { stood := { row := tableFootersRow, standIns := [], harness := (true, "6d774b7c43a4b5f09d50121b18dbc9ff24d91f6c63803aea1af2961815aeeacd"), looks := true }, kinds := [], alts := [], laidByText := true, laidKinds := [.data, .data, .data, .data, .sentinel, .sentinel, .data, .funcs, .data, .pinned], laidTests := true, laidLooks := .later }
def TableFootersCardSaid : Prop := Claim7.holds Tryz.pinned (.plain (OpenSpec.ofChange tableFootersSpec)) tableFootersCard

/-- THE SECOND FORM's CARD OF 'analemmalaw45.LookupTables'. -/
def lookupTablesUptoCard : Claim7 := { stood := { row := lookupTablesUptoRow, standIns := [], harness := (true, "6d774b7c43a4b5f09d50121b18dbc9ff24d91f6c63803aea1af2961815aeeacd"), looks := true }, kinds := [], alts := [], laidByText := true, laidKinds := [.data, .data, .data, .data, .sentinel, .sentinel, .data, .funcs, .data, .pinned], laidTests := true, laidLooks := .later }
def LookupTablesUptoCardSaid : Prop := Claim7.holds Tryz.pinned (.plain (OpenSpec.upto lookupTablesSpec)) lookupTablesUptoCard

/-- THE SECOND FORM's CARD OF 'analemmalaw45.LookupSteps'. -/
def lookupStepsUptoCard : Claim7 := { stood := { row := lookupStepsUptoRow, standIns := [], harness := (true, "6d774b7c43a4b5f09d50121b18dbc9ff24d91f6c63803aea1af2961815aeeacd"), looks := true }, kinds := [], alts := [], laidByText := true, laidKinds := [.data, .data, .data, .data, .sentinel, .sentinel, .data, .funcs, .data, .pinned], laidTests := true, laidLooks := .later }
def LookupStepsUptoCardSaid : Prop := Claim7.holds Tryz.pinned (.plain (OpenSpec.upto lookupStepsSpec)) lookupStepsUptoCard

/-- THE SECOND FORM's CARD OF 'analemmalaw45.LookupIndexes'. -/
def lookupIndexesUptoCard : Claim7 := { stood := { row := lookupIndexesUptoRow, standIns := [], harness := (true, "6d774b7c43a4b5f09d50121b18dbc9ff24d91f6c63803aea1af2961815aeeacd"), looks := true }, kinds := [], alts := [], laidByText := true, laidKinds := [.data, .data, .data, .data, .sentinel, .sentinel, .data, .funcs, .data, .pinned], laidTests := true, laidLooks := .later }
def LookupIndexesUptoCardSaid : Prop := Claim7.holds Tryz.pinned (.plain (OpenSpec.upto lookupIndexesSpec)) lookupIndexesUptoCard

/-- THE SECOND FORM's CARD OF 'analemmalaw45.LookupFooter'. -/
def lookupFooterUptoCard : Claim7 := { stood := { row := lookupFooterUptoRow, standIns := [], harness := (true, "6d774b7c43a4b5f09d50121b18dbc9ff24d91f6c63803aea1af2961815aeeacd"), looks := true }, kinds := [], alts := [], laidByText := true, laidKinds := [.data, .data, .data, .data, .sentinel, .sentinel, .data, .funcs, .data, .pinned], laidTests := true, laidLooks := .later }
def LookupFooterUptoCardSaid : Prop := Claim7.holds Tryz.pinned (.plain (OpenSpec.upto lookupFooterSpec)) lookupFooterUptoCard

/-- THE SECOND FORM's CARD OF 'analemmalaw45.LookupRefuses'. -/
def lookupRefusesUptoCard : Claim7 := { stood := { row := lookupRefusesUptoRow, standIns := [], harness := (true, "6d774b7c43a4b5f09d50121b18dbc9ff24d91f6c63803aea1af2961815aeeacd"), looks := true }, kinds := [], alts := [], laidByText := true, laidKinds := [.data, .data, .data, .data, .sentinel, .sentinel, .data, .funcs, .data, .pinned], laidTests := true, laidLooks := .later }
def LookupRefusesUptoCardSaid : Prop := Claim7.holds Tryz.pinned (.plain (OpenSpec.upto lookupRefusesSpec)) lookupRefusesUptoCard

/-- THE SECOND FORM's CARD OF 'analemmalaw40.TableChecks'. -/
def tableChecksUptoCard : Claim7 := { stood := { row := tableChecksUptoRow, standIns := [], harness := (true, "6d774b7c43a4b5f09d50121b18dbc9ff24d91f6c63803aea1af2961815aeeacd"), looks := true }, kinds := [], alts := [], laidByText := true, laidKinds := [.data, .data, .data, .data, .sentinel, .sentinel, .data, .funcs, .data, .pinned], laidTests := true, laidLooks := .later }
def TableChecksUptoCardSaid : Prop := Claim7.holds Tryz.pinned (.plain (OpenSpec.upto tableChecksSpec)) tableChecksUptoCard

/-- THE SECOND FORM's CARD OF 'analemmalaw40.TableMakes'. -/
def tableMakesUptoCard : Claim7 := { stood := { row := tableMakesUptoRow, standIns := [], harness := (true, "6d774b7c43a4b5f09d50121b18dbc9ff24d91f6c63803aea1af2961815aeeacd"), looks := true }, kinds := [], alts := [], laidByText := true, laidKinds := [.data, .data, .data, .data, .sentinel, .sentinel, .data, .funcs, .data, .pinned], laidTests := true, laidLooks := .later }
def TableMakesUptoCardSaid : Prop := Claim7.holds Tryz.pinned (.plain (OpenSpec.upto tableMakesSpec)) tableMakesUptoCard

/-- THE SECOND FORM's CARD OF 'analemmalaw40.TableRight'. -/
def tableRightUptoCard : Claim7 := { stood := { row := tableRightUptoRow, standIns := [], harness := (true, "6d774b7c43a4b5f09d50121b18dbc9ff24d91f6c63803aea1af2961815aeeacd"), looks := true }, kinds := [], alts := [], laidByText := true, laidKinds := [.data, .data, .data, .data, .sentinel, .sentinel, .data, .funcs, .data, .pinned], laidTests := true, laidLooks := .later }
def TableRightUptoCardSaid : Prop := Claim7.holds Tryz.pinned (.plain (OpenSpec.upto tableRightSpec)) tableRightUptoCard

/-- THE SECOND FORM's CARD OF 'analemmalaw40.TableSpoilt'. -/
def tableSpoiltUptoCard : Claim7 := { stood := { row := tableSpoiltUptoRow, standIns := [], harness := (true, "6d774b7c43a4b5f09d50121b18dbc9ff24d91f6c63803aea1af2961815aeeacd"), looks := true }, kinds := [], alts := [], laidByText := true, laidKinds := [.data, .data, .data, .data, .sentinel, .sentinel, .data, .funcs, .data, .pinned], laidTests := true, laidLooks := .later }
def TableSpoiltUptoCardSaid : Prop := Claim7.holds Tryz.pinned (.plain (OpenSpec.upto tableSpoiltSpec)) tableSpoiltUptoCard

/-- THE SECOND FORM's CARD OF 'analemmalaw40.TableMany'. -/
def tableManyUptoCard : Claim7 := { stood := { row := tableManyUptoRow, standIns := [], harness := (true, "6d774b7c43a4b5f09d50121b18dbc9ff24d91f6c63803aea1af2961815aeeacd"), looks := true }, kinds := [], alts := [], laidByText := true, laidKinds := [.data, .data, .data, .data, .sentinel, .sentinel, .data, .funcs, .data, .pinned], laidTests := true, laidLooks := .later }
def TableManyUptoCardSaid : Prop := Claim7.holds Tryz.pinned (.plain (OpenSpec.upto tableManySpec)) tableManyUptoCard

/-- THE SECOND FORM's CARD OF 'analemmalaw40.TableLines'. -/
def tableLinesUptoCard : Claim7 := { stood := { row := tableLinesUptoRow, standIns := [], harness := (true, "6d774b7c43a4b5f09d50121b18dbc9ff24d91f6c63803aea1af2961815aeeacd"), looks := true }, kinds := [], alts := [], laidByText := true, laidKinds := [.data, .data, .data, .data, .sentinel, .sentinel, .data, .funcs, .data, .pinned], laidTests := true, laidLooks := .later }
def TableLinesUptoCardSaid : Prop := Claim7.holds Tryz.pinned (.plain (OpenSpec.upto tableLinesSpec)) tableLinesUptoCard

/-- THE SECOND FORM's CARD OF 'analemmalaw40.TableFooters'. -/
def tableFootersUptoCard : Claim7 := { stood := { row := tableFootersUptoRow, standIns := [], harness := (true, "6d774b7c43a4b5f09d50121b18dbc9ff24d91f6c63803aea1af2961815aeeacd"), looks := true }, kinds := [], alts := [], laidByText := true, laidKinds := [.data, .data, .data, .data, .sentinel, .sentinel, .data, .funcs, .data, .pinned], laidTests := true, laidLooks := .later }
def TableFootersUptoCardSaid : Prop := Claim7.holds Tryz.pinned (.plain (OpenSpec.upto tableFootersSpec)) tableFootersUptoCard
end Rows
end Go.Proofs.YtlaplgaccjmbhaaGreatDoor
