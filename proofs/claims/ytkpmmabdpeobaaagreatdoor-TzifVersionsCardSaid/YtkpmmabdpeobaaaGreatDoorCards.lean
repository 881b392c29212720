/-
  DERIVED. GIVEN WITH THE SEED: THE CARDS: each row of YtkpmmabdpeobaaaGreatDoorRows.lean that lists a variable, with what it lists TIED to the program's text (the seventh form; the later family's looks); each row that meets fmt, with fmt's text TOLD by the authors' own Lean function (tested against real Go, not proved from fmt's source: count such statements apart). THE CARD IS WHAT COUNTS. Prove the row's statement (the work); the ties are given (YtkpmmabdpeobaaaGreatDoorTie.lean); close each card by the builder's one call (the guide's Derived/Test/ToyasCard.lean, 'card_holds'). Laid BY PROGRAM, IN A SANDBOX (cutbox-door.mjs). By AI agents, Wed Nov 11 2026. No macro, syntax, notation, axiom, sorry.
-/
import Derived.Test.YtkpmmabdpeobaaaGreatDoorRows
import GoSem.ClaimSeven
namespace Go.Proofs.YtkpmmabdpeobaaaGreatDoor
namespace Rows

/-- THE TIED CARD OF 'analemmalaw42.TzifData'. -/
def tzifDataCard : Claim7 := { stood := { row := tzifDataRow, standIns := [], harness := (true, "b9f8560ebc881393db798833db4c82d34107434507104349bd514ae333726006"), looks := true }, kinds := [], alts := [], laidByText := true, laidKinds := [.data, .data, .data, .data, .sentinel, .sentinel, .data, .funcs, .data, .pinned], laidTests := true, laidLooks := .later }
def TzifDataCardSaid : Prop := Claim7.holds Tryz.pinned (.plain (OpenSpec.ofChange tzifDataSpec)) tzifDataCard

/-- THE TIED CARD OF 'analemmalaw42.TzifVersions'. -/
def tzifVersionsCard : Claim7 := { stood := { row := tzifVersionsRow, standIns := [], harness := (true, "b9f8560ebc881393db798833db4c82d34107434507104349bd514ae333726006"), looks := true }, kinds := [], alts := [], laidByText := true, laidKinds := [.data, .data, .data, .data, .sentinel, .sentinel, .data, .funcs, .data, .pinned], laidTests := true, laidLooks := .later }
def TzifVersionsCardSaid : Prop := Claim7.holds Tryz.pinned (.plain (OpenSpec.ofChange tzifVersionsSpec)) tzifVersionsCard

/-- THE TIED CARD OF 'analemmalaw42.TzifLeast'. -/
def tzifLeastCard : Claim7 := { stood := { row := tzifLeastRow, standIns := [], harness := (true, "b9f8560ebc881393db798833db4c82d34107434507104349bd514ae333726006"), looks := true }, kinds := [], alts := [], laidByText := true, laidKinds := [.data, .data, .data, .data, .sentinel, .sentinel, .data, .funcs, .data, .pinned], laidTests := true, laidLooks := .later }
def TzifLeastCardSaid : Prop := Claim7.holds Tryz.pinned (.plain (OpenSpec.ofChange tzifLeastSpec)) tzifLeastCard

/-- THE TIED CARD OF 'analemmalaw42.TzifRefuses'. -/
def tzifRefusesCard : Claim7 := { stood := { row := tzifRefusesRow, standIns := [], harness := (true, "b9f8560ebc881393db798833db4c82d34107434507104349bd514ae333726006"), looks := true }, kinds := [], alts := [], laidByText := true, laidKinds := [.data, .data, .data, .data, .sentinel, .sentinel, .data, .funcs, .data, .pinned], laidTests := true, laidLooks := .later }
def TzifRefusesCardSaid : Prop := Claim7.holds Tryz.pinned (.plain (OpenSpec.ofChange tzifRefusesSpec)) tzifRefusesCard

/-- THE TIED CARD OF 'analemmalaw42.TzifDifferent'. -/
def tzifDifferentCard : Claim7 := { stood := { row := tzifDifferentRow, standIns := [], harness := (true, "b9f8560ebc881393db798833db4c82d34107434507104349bd514ae333726006"), looks := true }, kinds := [], alts := [], laidByText := true, laidKinds := [.data, .data, .data, .data, .sentinel, .sentinel, .data, .funcs, .data, .pinned], laidTests := true, laidLooks := .later }
def TzifDifferentCardSaid : Prop := Claim7.holds Tryz.pinned (.plain (OpenSpec.ofChange tzifDifferentSpec)) tzifDifferentCard

/-- THE TIED CARD OF 'analemmalaw42.TzifParts'. -/
def tzifPartsCard : Claim7 := { stood := { row := tzifPartsRow, standIns := [], harness := (true, "b9f8560ebc881393db798833db4c82d34107434507104349bd514ae333726006"), looks := true }, kinds := [], alts := [], laidByText := true, laidKinds := [.data, .data, .data, .data, .sentinel, .sentinel, .data, .funcs, .data, .pinned], laidTests := true, laidLooks := .later }
def TzifPartsCardSaid : Prop := Claim7.holds Tryz.pinned (.plain (OpenSpec.ofChange tzifPartsSpec)) tzifPartsCard

/-- THE TIED CARD OF 'analemmalaw43.DecodeApart'. -/
def decodeApartCard : Claim7 := { stood := { row := decodeApartRow, standIns := [], harness := (true, "b9f8560ebc881393db798833db4c82d34107434507104349bd514ae333726006"), looks := true }, kinds := [], alts := [], laidByText := true, laidKinds := [.data, .data, .data, .data, .sentinel, .sentinel, .data, .funcs, .data, .pinned], laidTests := true, laidLooks := .later }
def DecodeApartCardSaid : Prop := Claim7.holds Tryz.pinned (.plain (OpenSpec.ofChange decodeApartSpec)) decodeApartCard

/-- THE TIED CARD OF 'analemmalaw43.DecodeCut'. -/
def decodeCutCard : Claim7 := { stood := { row := decodeCutRow, standIns := [], harness := (true, "b9f8560ebc881393db798833db4c82d34107434507104349bd514ae333726006"), looks := true }, kinds := [], alts := [], laidByText := true, laidKinds := [.data, .data, .data, .data, .sentinel, .sentinel, .data, .funcs, .data, .pinned], laidTests := true, laidLooks := .later }
def DecodeCutCardSaid : Prop := Claim7.holds Tryz.pinned (.plain (OpenSpec.ofChange decodeCutSpec)) decodeCutCard

/-- THE TIED CARD OF 'analemmalaw43.DecodeBytes'. -/
def decodeBytesCard : Claim7 := { stood := { row := decodeBytesRow, standIns := [], harness := (true, "b9f8560ebc881393db798833db4c82d34107434507104349bd514ae333726006"), looks := true }, kinds := [], alts := [], laidByText := true, laidKinds := [.data, .data, .data, .data, .sentinel, .sentinel, .data, .funcs, .data, .pinned], laidTests := true, laidLooks := .later }
def DecodeBytesCardSaid : Prop := Claim7.holds Tryz.pinned (.plain (OpenSpec.ofChange decodeBytesSpec)) decodeBytesCard

/-- THE TIED CARD OF 'analemmalaw43.DecodeBack'. -/
def decodeBackCard : Claim7 := { stood := { row := decodeBackRow, standIns := [], harness := (true, "b9f8560ebc881393db798833db4c82d34107434507104349bd514ae333726006"), looks := true }, kinds := [], alts := [], laidByText := true, laidKinds := [.data, .data, .data, .data, .sentinel, .sentinel, .data, .funcs, .data, .pinned], laidTests := true, laidLooks := .later }
def DecodeBackCardSaid : Prop := Claim7.holds Tryz.pinned (.plain (OpenSpec.ofChange decodeBackSpec)) decodeBackCard

/-- THE TIED CARD OF 'analemmalaw43.DecodeStrict'. -/
def decodeStrictCard : Claim7 := { stood := { row := decodeStrictRow, standIns := [], harness := (true, "b9f8560ebc881393db798833db4c82d34107434507104349bd514ae333726006"), looks := true }, kinds := [], alts := [], laidByText := true, laidKinds := [.data, .data, .data, .data, .sentinel, .sentinel, .data, .funcs, .data, .pinned], laidTests := true, laidLooks := .later }
def DecodeStrictCardSaid : Prop := Claim7.holds Tryz.pinned (.plain (OpenSpec.ofChange decodeStrictSpec)) decodeStrictCard

/-- THE SECOND FORM's CARD OF 'analemmalaw42.TzifData'. -/
def tzifDataUptoCard : Claim7 := { stood := { row := tzifDataUptoRow, standIns := [], harness := (true, "b9f8560ebc881393db798833db4c82d34107434507104349bd514ae333726006"), looks := true }, kinds := [], alts := [], laidByText := true, laidKinds := [.data, .data, .data, .data, .sentinel, .sentinel, .data, .funcs, .data, .pinned], laidTests := true, laidLooks := .later }
def TzifDataUptoCardSaid : Prop := Claim7.holds Tryz.pinned (.plain (OpenSpec.upto tzifDataSpec)) tzifDataUptoCard

/-- THE SECOND FORM's CARD OF 'analemmalaw42.TzifVersions'. -/
def tzifVersionsUptoCard : Claim7 := { stood := { row := tzifVersionsUptoRow, standIns := [], harness := (true, "b9f8560ebc881393db798833db4c82d34107434507104349bd514ae333726006"), looks := true }, kinds := [], alts := [], laidByText := true, laidKinds := [.data, .data, .data, .data, .sentinel, .sentinel, .data, .funcs, .data, .pinned], laidTests := true, laidLooks := .later }
def TzifVersionsUptoCardSaid : Prop := Claim7.holds Tryz.pinned (.plain (OpenSpec.upto tzifVersionsSpec)) tzifVersionsUptoCard

/-- THE SECOND FORM's CARD OF 'analemmalaw42.TzifLeast'. -/
def tzifLeastUptoCard : Claim7 := { stood := { row := tzifLeastUptoRow, standIns := [], harness := (true, "b9f8560ebc881393db798833db4c82d34107434507104349bd514ae333726006"), looks := true }, kinds := [], alts := [], laidByText := true, laidKinds := [.data, .data, .data, .data, .sentinel, .sentinel, .data, .funcs, .data, .pinned], laidTests := true, laidLooks := .later }
def TzifLeastUptoCardSaid : Prop := Claim7.holds Tryz.pinned (.plain (OpenSpec.upto tzifLeastSpec)) tzifLeastUptoCard

/-- THE SECOND FORM's CARD OF 'analemmalaw42.TzifRefuses'. -/
def tzifRefusesUptoCard : Claim7 := { stood := { row := tzifRefusesUptoRow, standIns := [], harness := (true, "b9f8560ebc881393db798833db4c82d34107434507104349bd514ae333726006"), looks := true }, kinds := [], alts := [], laidByText := true, laidKinds := [.data, .data, .data, .data, .sentinel, .sentinel, .data, .funcs, .data, .pinned], laidTests := true, laidLooks := .later }
def TzifRefusesUptoCardSaid : Prop := Claim7.holds Tryz.pinned (.plain (OpenSpec.upto tzifRefusesSpec)) tzifRefusesUptoCard

/-- THE SECOND FORM's CARD OF 'analemmalaw42.TzifDifferent'. -/
def tzifDifferentUptoCard : Claim7 := { stood := { row := tzifDifferentUptoRow, standIns := [], harness := (true, "b9f8560ebc881393db798833db4c82d34107434507104349bd514ae333726006"), looks := true }, kinds := [], alts := [], laidByText := true, laidKinds := [.data, .data, .data, .data, .sentinel, .sentinel, .data, .funcs, .data, .pinned], laidTests := true, laidLooks := .later }
def TzifDifferentUptoCardSaid : Prop := Claim7.holds Tryz.pinned (.plain (OpenSpec.upto tzifDifferentSpec)) tzifDifferentUptoCard

/-- THE SECOND FORM's CARD OF 'analemmalaw42.TzifParts'. -/
def tzifPartsUptoCard : Claim7 := { stood := { row := tzifPartsUptoRow, standIns := [], harness := (true, "b9f8560ebc881393db798833db4c82d34107434507104349bd514ae333726006"), looks := true }, kinds := [], alts := [], laidByText := true, laidKinds := [.data, .data, .data, .data, .sentinel, .sentinel, .data, .funcs, .data, .pinned], laidTests := true, laidLooks := .later }
def TzifPartsUptoCardSaid : Prop := Claim7.holds Tryz.pinned (.plain (OpenSpec.upto tzifPartsSpec)) tzifPartsUptoCard

/-- THE SECOND FORM's CARD OF 'analemmalaw43.DecodeApart'. -/
def decodeApartUptoCard : Claim7 := { stood := { row := decodeApartUptoRow, standIns := [], harness := (true, "b9f8560ebc881393db798833db4c82d34107434507104349bd514ae333726006"), looks := true }, kinds := [], alts := [], laidByText := true, laidKinds := [.data, .data, .data, .data, .sentinel, .sentinel, .data, .funcs, .data, .pinned], laidTests := true, laidLooks := .later }
def DecodeApartUptoCardSaid : Prop := Claim7.holds Tryz.pinned (.plain (OpenSpec.upto decodeApartSpec)) decodeApartUptoCard

/-- THE SECOND FORM's CARD OF 'analemmalaw43.DecodeCut'. -/
def decodeCutUptoCard : Claim7 := { stood := { row := decodeCutUptoRow, standIns := [], harness := (true, "b9f8560ebc881393db798833db4c82d34107434507104349bd514ae333726006"), looks := true }, kinds := [], alts := [], laidByText := true, laidKinds := [.data, .data, .data, .data, .sentinel, .sentinel, .data, .funcs, .data, .pinned], laidTests := true, laidLooks := .later }
def DecodeCutUptoCardSaid : Prop := Claim7.holds Tryz.pinned (.plain (OpenSpec.upto decodeCutSpec)) decodeCutUptoCard

/-- THE SECOND FORM's CARD OF 'analemmalaw43.DecodeBytes'. -/
def decodeBytesUptoCard : Claim7 := { stood := { row := decodeBytesUptoRow, standIns := [], harness := (true, "b9f8560ebc881393db798833db4c82d34107434507104349bd514ae333726006"), looks := true }, kinds := [], alts := [], laidByText := true, laidKinds := [.data, .data, .data, .data, .sentinel, .sentinel, .data, .funcs, .data, .pinned], laidTests := true, laidLooks := .later }
def DecodeBytesUptoCardSaid : Prop := Claim7.holds Tryz.pinned (.plain (OpenSpec.upto decodeBytesSpec)) decodeBytesUptoCard

/-- THE SECOND FORM's CARD OF 'analemmalaw43.DecodeBack'. -/
def decodeBackUptoCard : Claim7 := { stood := { row := decodeBackUptoRow, standIns := [], harness := (true, "b9f8560ebc881393db798833db4c82d34107434507104349bd514ae333726006"), looks := true }, kinds := [], alts := [], laidByText := true, laidKinds := [.data, .data, .data, .data, .sentinel, .sentinel, .data, .funcs, .data, .pinned], laidTests := true, laidLooks := .later }
def DecodeBackUptoCardSaid : Prop := Claim7.holds Tryz.pinned (.plain (OpenSpec.upto decodeBackSpec)) decodeBackUptoCard

/-- THE SECOND FORM's CARD OF 'analemmalaw43.DecodeStrict'. -/
def decodeStrictUptoCard : Claim7 := { stood := { row := decodeStrictUptoRow, standIns := [], harness := (true, "b9f8560ebc881393db798833db4c82d34107434507104349bd514ae333726006"), looks := true }, kinds := [], alts := [], laidByText := true, laidKinds := [.data, .data, .data, .data, .sentinel, .sentinel, .data, .funcs, .data, .pinned], laidTests := true, laidLooks := .later }
def DecodeStrictUptoCardSaid : Prop := Claim7.holds Tryz.pinned (.plain (OpenSpec.upto decodeStrictSpec)) decodeStrictUptoCard
end Rows
end Go.Proofs.YtkpmmabdpeobaaaGreatDoor
