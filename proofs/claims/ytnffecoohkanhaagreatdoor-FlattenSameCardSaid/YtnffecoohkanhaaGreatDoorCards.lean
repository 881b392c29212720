/-
  DERIVED. GIVEN WITH THE SEED: THE CARDS: each row of YtnffecoohkanhaaGreatDoorRows.lean that lists a variable, with what it lists TIED to the program's text (the seventh form; the later family's looks); each row that meets fmt, with fmt's text TOLD by the authors' own Lean function (tested against real Go, not proved from fmt's source: count such statements apart). THE CARD IS WHAT COUNTS. Prove the row's statement (the work); the ties are given (YtnffecoohkanhaaGreatDoorTie.lean); close each card by the builder's one call (the guide's Derived/Test/ToyasCard.lean, 'card_holds'). Laid BY PROGRAM, IN A SANDBOX (cutbox-door.mjs). By AI agents, Wed Nov 11 2026. No macro, syntax, notation, axiom, sorry.
-/
import Derived.Test.YtnffecoohkanhaaGreatDoorRows
import GoSem.ClaimSeven
namespace Go.Proofs.YtnffecoohkanhaaGreatDoor
namespace Rows

/-- THE TIED CARD OF 'analemmalaw35.FlattenSame'. -/
def flattenSameCard : Claim7 := { stood := { row := flattenSameRow, standIns := [], harness := (true, "045624a8e178817b20e32ba2c124e9093277244ff560d4916f273a35607b508f"), looks := true }, kinds := [], alts := [], laidByText := true, laidKinds := [.data, .data, .data, .data, .pinned], laidTests := true, laidLooks := .later }
def FlattenSameCardSaid : Prop := Claim7.holds Tryz.pinned (.plain (OpenSpec.ofChange flattenSameSpec)) flattenSameCard

/-- THE SECOND FORM's CARD OF 'analemmalaw35.FlattenSame'. -/
def flattenSameUptoCard : Claim7 := { stood := { row := flattenSameUptoRow, standIns := [], harness := (true, "045624a8e178817b20e32ba2c124e9093277244ff560d4916f273a35607b508f"), looks := true }, kinds := [], alts := [], laidByText := true, laidKinds := [.data, .data, .data, .data, .pinned], laidTests := true, laidLooks := .later }
def FlattenSameUptoCardSaid : Prop := Claim7.holds Tryz.pinned (.plain (OpenSpec.upto flattenSameSpec)) flattenSameUptoCard
end Rows
end Go.Proofs.YtnffecoohkanhaaGreatDoor
