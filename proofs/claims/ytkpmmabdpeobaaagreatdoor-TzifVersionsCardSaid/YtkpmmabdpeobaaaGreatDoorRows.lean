/-
  NARROWER THAN 'FOR EVERY INPUT', by the rows' own cells (each row's printed sentence says how): TzifData: laid · TzifVersions: laid · TzifLeast: laid · TzifRefuses: laid · TzifDifferent: laid · TzifParts: laid · DecodeApart: laid · DecodeCut: laid · DecodeBytes: laid · DecodeBack: laid · DecodeStrict: laid.
  DERIVED. THE GIVEN ROWS OF THIS SEAT. 11 by the template 'for every input the law returns true; each argument reads behind the call as it read before'; 0 by the template 'total and deterministic' (their statements: YtkpmmabdpeobaaaGreatDoorTotals.lean).
  GIVEN WITH THE SEED: the statements are not yours to turn. If you find one false, say at which input.
  Laid BY PROGRAM, IN A SANDBOX (cutbox-rows.mjs): the forced cells as the released guide's own fill.sh prints them over the translation d5be91ecfba4b2d5… (all of the seat's roots in one cut). By AI agents, Wed Nov 11 2026. No macro, syntax, notation, axiom, sorry.
-/
import Derived.Test.YtkpmmabdpeobaaaGreatDoorChecked
import GoSem.PinnedTables
import GoSem.Claim
import GoSem.ClaimJoined
import GoSem.ClaimMapViews
import Derived.JoinedTies
import Derived.KernelRfl
namespace Go.Proofs.YtkpmmabdpeobaaaGreatDoor
/- THE CELL 'sum', in the pinned program and in every row, IS THE sha256 OF THE DUMP (.gsa) THAT YtkpmmabdpeobaaaGreatDoorProg.lean LOADS. Nothing in Lean hashes anything: it is a label: what it is worth is what the hold of that sum in a sandbox is worth. -/
noncomputable def Tryz.pinned : Pinned := { name := "ytkpmmabdpeobaaagreatdoor", sum := "d5be91ecfba4b2d507c0d195119c099f5535baf890138f17012ddfe4323bd207", checked := Tryz.checked }
namespace Rows
def none {H : Type} : Left H := { results := [], args := [] }

/- WHAT THE LISTED PACKAGE-LEVEL VARIABLES READ AS WHEN THE CALL BEGINS. Each datum BY PROGRAM (the guide's laid-datum.mjs) off the statement by which the dump's own 'gosem.cut.vars' lays the variable. In a bare row this is a premise. The card (YtkpmmabdpeobaaaGreatDoorCards.lean) ties it to the program's text. -/
def laid_math_bits_deBruijn32tab {H : Type} : DataW H := .agg [.lit (.int .u8 0), .lit (.int .u8 1), .lit (.int .u8 28), .lit (.int .u8 2), .lit (.int .u8 29), .lit (.int .u8 14), .lit (.int .u8 24), .lit (.int .u8 3), .lit (.int .u8 30), .lit (.int .u8 22), .lit (.int .u8 20), .lit (.int .u8 15), .lit (.int .u8 25), .lit (.int .u8 17), .lit (.int .u8 4), .lit (.int .u8 8), .lit (.int .u8 31), .lit (.int .u8 27), .lit (.int .u8 13), .lit (.int .u8 23), .lit (.int .u8 21), .lit (.int .u8 19), .lit (.int .u8 16), .lit (.int .u8 7), .lit (.int .u8 26), .lit (.int .u8 12), .lit (.int .u8 18), .lit (.int .u8 6), .lit (.int .u8 11), .lit (.int .u8 5), .lit (.int .u8 10), .lit (.int .u8 9)]
def laid_math_bits_deBruijn64tab {H : Type} : DataW H := .agg [.lit (.int .u8 0), .lit (.int .u8 1), .lit (.int .u8 56), .lit (.int .u8 2), .lit (.int .u8 57), .lit (.int .u8 49), .lit (.int .u8 28), .lit (.int .u8 3), .lit (.int .u8 61), .lit (.int .u8 58), .lit (.int .u8 42), .lit (.int .u8 50), .lit (.int .u8 38), .lit (.int .u8 29), .lit (.int .u8 17), .lit (.int .u8 4), .lit (.int .u8 62), .lit (.int .u8 47), .lit (.int .u8 59), .lit (.int .u8 36), .lit (.int .u8 45), .lit (.int .u8 43), .lit (.int .u8 51), .lit (.int .u8 22), .lit (.int .u8 53), .lit (.int .u8 39), .lit (.int .u8 33), .lit (.int .u8 30), .lit (.int .u8 24), .lit (.int .u8 18), .lit (.int .u8 12), .lit (.int .u8 5), .lit (.int .u8 63), .lit (.int .u8 55), .lit (.int .u8 48), .lit (.int .u8 27), .lit (.int .u8 60), .lit (.int .u8 41), .lit (.int .u8 37), .lit (.int .u8 16), .lit (.int .u8 46), .lit (.int .u8 35), .lit (.int .u8 44), .lit (.int .u8 21), .lit (.int .u8 52), .lit (.int .u8 32), .lit (.int .u8 23), .lit (.int .u8 11), .lit (.int .u8 54), .lit (.int .u8 26), .lit (.int .u8 40), .lit (.int .u8 15), .lit (.int .u8 34), .lit (.int .u8 20), .lit (.int .u8 31), .lit (.int .u8 10), .lit (.int .u8 25), .lit (.int .u8 14), .lit (.int .u8 19), .lit (.int .u8 9), .lit (.int .u8 13), .lit (.int .u8 8), .lit (.int .u8 7), .lit (.int .u8 6)]
def laid_internal_strconv_uint64pow10 {H : Type} : DataW H := .agg [.lit (.int .u64 1), .lit (.int .u64 10), .lit (.int .u64 100), .lit (.int .u64 1000), .lit (.int .u64 10000), .lit (.int .u64 100000), .lit (.int .u64 1000000), .lit (.int .u64 10000000), .lit (.int .u64 100000000), .lit (.int .u64 1000000000), .lit (.int .u64 10000000000), .lit (.int .u64 100000000000), .lit (.int .u64 1000000000000), .lit (.int .u64 10000000000000), .lit (.int .u64 100000000000000), .lit (.int .u64 1000000000000000), .lit (.int .u64 10000000000000000), .lit (.int .u64 100000000000000000), .lit (.int .u64 1000000000000000000), .lit (.int .u64 10000000000000000000)]
def laid_unicode_utf8_acceptRanges {H : Type} : DataW H := .agg [.agg [.lit (.int .u8 128), .lit (.int .u8 191)], .agg [.lit (.int .u8 160), .lit (.int .u8 191)], .agg [.lit (.int .u8 128), .lit (.int .u8 159)], .agg [.lit (.int .u8 144), .lit (.int .u8 191)], .agg [.lit (.int .u8 128), .lit (.int .u8 143)], .agg [.lit (.int .u8 0), .lit (.int .u8 0)], .agg [.lit (.int .u8 0), .lit (.int .u8 0)], .agg [.lit (.int .u8 0), .lit (.int .u8 0)], .agg [.lit (.int .u8 0), .lit (.int .u8 0)], .agg [.lit (.int .u8 0), .lit (.int .u8 0)], .agg [.lit (.int .u8 0), .lit (.int .u8 0)], .agg [.lit (.int .u8 0), .lit (.int .u8 0)], .agg [.lit (.int .u8 0), .lit (.int .u8 0)], .agg [.lit (.int .u8 0), .lit (.int .u8 0)], .agg [.lit (.int .u8 0), .lit (.int .u8 0)], .agg [.lit (.int .u8 0), .lit (.int .u8 0)]]
def laid_strconv_ErrRange {H : Type} : DataW H := .iface "*errors.errorString" (.ptr (.agg [.lit (.string [118, 97, 108, 117, 101, 32, 111, 117, 116, 32, 111, 102, 32, 114, 97, 110, 103, 101])]))
def laid_strconv_ErrSyntax {H : Type} : DataW H := .iface "*errors.errorString" (.ptr (.agg [.lit (.string [105, 110, 118, 97, 108, 105, 100, 32, 115, 121, 110, 116, 97, 120])]))
def laid_analemma_civil_before {H : Type} : DataW H := .agg [.lit (.int .i64 0), .lit (.int .i64 31), .lit (.int .i64 61), .lit (.int .i64 92), .lit (.int .i64 122), .lit (.int .i64 153), .lit (.int .i64 184), .lit (.int .i64 214), .lit (.int .i64 245), .lit (.int .i64 275), .lit (.int .i64 306), .lit (.int .i64 337)]
def laid_analemma_dayform_kinds {H : Type} : DataW H := .iface "func table" (.agg [.agg [.lit (.bool false), .lit (.bool false), .nil], .agg [.lit (.bool false), .lit (.bool true), .iface "func" (.lit (.string [97, 110, 97, 108, 101, 109, 109, 97, 47, 100, 97, 121, 102, 111, 114, 109, 46, 107, 105, 110, 100, 115, 36, 49]))], .agg [.lit (.bool true), .lit (.bool false), .iface "func" (.lit (.string [97, 110, 97, 108, 101, 109, 109, 97, 47, 100, 97, 121, 102, 111, 114, 109, 46, 107, 105, 110, 100, 115, 36, 50]))], .agg [.lit (.bool true), .lit (.bool true), .iface "func" (.lit (.string [97, 110, 97, 108, 101, 109, 109, 97, 47, 100, 97, 121, 102, 111, 114, 109, 46, 107, 105, 110, 100, 115, 36, 51]))], .agg [.lit (.bool true), .lit (.bool true), .iface "func" (.lit (.string [97, 110, 97, 108, 101, 109, 109, 97, 47, 100, 97, 121, 102, 111, 114, 109, 46, 107, 105, 110, 100, 115, 36, 52]))]])
def laid_analemma_offset_units {H : Type} : DataW H := .agg [.lit (.int .i64 3600), .lit (.int .i64 60), .lit (.int .i64 1)]
/-- One of Go's own tables, pinned by name: the form's constant. -/
def laid_unicode_utf8_first : DataW Unit := Go.Pinned.utf8First

/-- 'analemmalaw42.TzifData': WHATEVER THE INPUT: true; the input reads as it did. -/
def tzifDataSpec : ChangeSpec := { name := "tzifData", fn := fun _ => fun
  | [d1, d2] => { results := [.lit (.bool true)], args := [d1, d2] }
  | _ => none }
def tzifDataRow : OpenClaim := { program := "ytkpmmabdpeobaaagreatdoor", sum := "d5be91ecfba4b2d507c0d195119c099f5535baf890138f17012ddfe4323bd207", func := "analemma/analemmalaw42.TzifData", spec := "tzifData", inPlace := ["internal/bytealg.IndexByteString", "internal/bytealg.IndexString", "internal/abi.NoEscape"], unfollowed := true, recurses := true, named := ["unicode/utf8.first", "unicode/utf8.acceptRanges", "analemma/offset.units", "strconv.ErrSyntax", "strconv.ErrRange", "internal/strconv.uint64pow10", "math/bits.deBruijn32tab", "math/bits.deBruijn64tab", "analemma/civil.before", "analemma/dayform.kinds", "internal/bytealg.MaxLen"], plainKeys := false, apart := false, laid := [("math/bits.deBruijn32tab", laid_math_bits_deBruijn32tab), ("math/bits.deBruijn64tab", laid_math_bits_deBruijn64tab), ("internal/strconv.uint64pow10", laid_internal_strconv_uint64pow10), ("unicode/utf8.acceptRanges", laid_unicode_utf8_acceptRanges), ("strconv.ErrRange", laid_strconv_ErrRange), ("strconv.ErrSyntax", laid_strconv_ErrSyntax), ("analemma/civil.before", laid_analemma_civil_before), ("analemma/dayform.kinds", laid_analemma_dayform_kinds), ("analemma/offset.units", laid_analemma_offset_units), ("unicode/utf8.first", laid_unicode_utf8_first)] }
def TzifDataSaid : Prop := tzifDataRow.holds Tryz.pinned (OpenSpec.ofChange tzifDataSpec)

/-- ITS FALSE NEIGHBOUR: 'it returns false'. Refute it at one input. -/
def tzifDataWrong : ChangeSpec := { name := "tzifData", fn := fun _ => fun
  | [d1, d2] => { results := [.lit (.bool false)], args := [d1, d2] }
  | _ => none }
def TzifDataWrongFalsely : Prop := tzifDataRow.holds Tryz.pinned (OpenSpec.ofChange tzifDataWrong)

/-- 'analemmalaw42.TzifVersions': WHATEVER THE INPUT: true; the input reads as it did. -/
def tzifVersionsSpec : ChangeSpec := { name := "tzifVersions", fn := fun _ => fun
  | [d1, d2] => { results := [.lit (.bool true)], args := [d1, d2] }
  | _ => none }
def tzifVersionsRow : OpenClaim := { program := "ytkpmmabdpeobaaagreatdoor", sum := "d5be91ecfba4b2d507c0d195119c099f5535baf890138f17012ddfe4323bd207", func := "analemma/analemmalaw42.TzifVersions", spec := "tzifVersions", inPlace := ["internal/bytealg.IndexByteString", "internal/bytealg.IndexString", "internal/abi.NoEscape"], unfollowed := true, recurses := true, named := ["unicode/utf8.first", "unicode/utf8.acceptRanges", "analemma/offset.units", "strconv.ErrSyntax", "strconv.ErrRange", "internal/strconv.uint64pow10", "math/bits.deBruijn32tab", "math/bits.deBruijn64tab", "analemma/civil.before", "analemma/dayform.kinds", "internal/bytealg.MaxLen"], plainKeys := false, apart := false, laid := [("math/bits.deBruijn32tab", laid_math_bits_deBruijn32tab), ("math/bits.deBruijn64tab", laid_math_bits_deBruijn64tab), ("internal/strconv.uint64pow10", laid_internal_strconv_uint64pow10), ("unicode/utf8.acceptRanges", laid_unicode_utf8_acceptRanges), ("strconv.ErrRange", laid_strconv_ErrRange), ("strconv.ErrSyntax", laid_strconv_ErrSyntax), ("analemma/civil.before", laid_analemma_civil_before), ("analemma/dayform.kinds", laid_analemma_dayform_kinds), ("analemma/offset.units", laid_analemma_offset_units), ("unicode/utf8.first", laid_unicode_utf8_first)] }
def TzifVersionsSaid : Prop := tzifVersionsRow.holds Tryz.pinned (OpenSpec.ofChange tzifVersionsSpec)

/-- ITS FALSE NEIGHBOUR: 'it returns false'. Refute it at one input. -/
def tzifVersionsWrong : ChangeSpec := { name := "tzifVersions", fn := fun _ => fun
  | [d1, d2] => { results := [.lit (.bool false)], args := [d1, d2] }
  | _ => none }
def TzifVersionsWrongFalsely : Prop := tzifVersionsRow.holds Tryz.pinned (OpenSpec.ofChange tzifVersionsWrong)

/-- 'analemmalaw42.TzifLeast': WHATEVER THE INPUT: true; the input reads as it did. -/
def tzifLeastSpec : ChangeSpec := { name := "tzifLeast", fn := fun _ => fun
  | [d] => { results := [.lit (.bool true)], args := [d] }
  | _ => none }
def tzifLeastRow : OpenClaim := { program := "ytkpmmabdpeobaaagreatdoor", sum := "d5be91ecfba4b2d507c0d195119c099f5535baf890138f17012ddfe4323bd207", func := "analemma/analemmalaw42.TzifLeast", spec := "tzifLeast", inPlace := ["internal/bytealg.IndexByteString", "internal/bytealg.IndexString", "internal/abi.NoEscape"], unfollowed := true, recurses := true, named := ["unicode/utf8.first", "unicode/utf8.acceptRanges", "analemma/offset.units", "strconv.ErrSyntax", "strconv.ErrRange", "internal/strconv.uint64pow10", "math/bits.deBruijn32tab", "math/bits.deBruijn64tab", "analemma/civil.before", "analemma/dayform.kinds", "internal/bytealg.MaxLen"], plainKeys := false, apart := false, laid := [("math/bits.deBruijn32tab", laid_math_bits_deBruijn32tab), ("math/bits.deBruijn64tab", laid_math_bits_deBruijn64tab), ("internal/strconv.uint64pow10", laid_internal_strconv_uint64pow10), ("unicode/utf8.acceptRanges", laid_unicode_utf8_acceptRanges), ("strconv.ErrRange", laid_strconv_ErrRange), ("strconv.ErrSyntax", laid_strconv_ErrSyntax), ("analemma/civil.before", laid_analemma_civil_before), ("analemma/dayform.kinds", laid_analemma_dayform_kinds), ("analemma/offset.units", laid_analemma_offset_units), ("unicode/utf8.first", laid_unicode_utf8_first)] }
def TzifLeastSaid : Prop := tzifLeastRow.holds Tryz.pinned (OpenSpec.ofChange tzifLeastSpec)

/-- ITS FALSE NEIGHBOUR: 'it returns false'. Refute it at one input. -/
def tzifLeastWrong : ChangeSpec := { name := "tzifLeast", fn := fun _ => fun
  | [d] => { results := [.lit (.bool false)], args := [d] }
  | _ => none }
def TzifLeastWrongFalsely : Prop := tzifLeastRow.holds Tryz.pinned (OpenSpec.ofChange tzifLeastWrong)

/-- 'analemmalaw42.TzifRefuses': WHATEVER THE INPUT: true; the input reads as it did. -/
def tzifRefusesSpec : ChangeSpec := { name := "tzifRefuses", fn := fun _ => fun
  | [d1, d2] => { results := [.lit (.bool true)], args := [d1, d2] }
  | _ => none }
def tzifRefusesRow : OpenClaim := { program := "ytkpmmabdpeobaaagreatdoor", sum := "d5be91ecfba4b2d507c0d195119c099f5535baf890138f17012ddfe4323bd207", func := "analemma/analemmalaw42.TzifRefuses", spec := "tzifRefuses", inPlace := ["internal/bytealg.IndexByteString", "internal/bytealg.IndexString", "internal/abi.NoEscape"], unfollowed := true, recurses := true, named := ["unicode/utf8.first", "unicode/utf8.acceptRanges", "analemma/offset.units", "strconv.ErrSyntax", "strconv.ErrRange", "internal/strconv.uint64pow10", "math/bits.deBruijn32tab", "math/bits.deBruijn64tab", "analemma/civil.before", "analemma/dayform.kinds", "internal/bytealg.MaxLen"], plainKeys := false, apart := false, laid := [("math/bits.deBruijn32tab", laid_math_bits_deBruijn32tab), ("math/bits.deBruijn64tab", laid_math_bits_deBruijn64tab), ("internal/strconv.uint64pow10", laid_internal_strconv_uint64pow10), ("unicode/utf8.acceptRanges", laid_unicode_utf8_acceptRanges), ("strconv.ErrRange", laid_strconv_ErrRange), ("strconv.ErrSyntax", laid_strconv_ErrSyntax), ("analemma/civil.before", laid_analemma_civil_before), ("analemma/dayform.kinds", laid_analemma_dayform_kinds), ("analemma/offset.units", laid_analemma_offset_units), ("unicode/utf8.first", laid_unicode_utf8_first)] }
def TzifRefusesSaid : Prop := tzifRefusesRow.holds Tryz.pinned (OpenSpec.ofChange tzifRefusesSpec)

/-- ITS FALSE NEIGHBOUR: 'it returns false'. Refute it at one input. -/
def tzifRefusesWrong : ChangeSpec := { name := "tzifRefuses", fn := fun _ => fun
  | [d1, d2] => { results := [.lit (.bool false)], args := [d1, d2] }
  | _ => none }
def TzifRefusesWrongFalsely : Prop := tzifRefusesRow.holds Tryz.pinned (OpenSpec.ofChange tzifRefusesWrong)

/-- 'analemmalaw42.TzifDifferent': WHATEVER THE INPUT: true; the input reads as it did. -/
def tzifDifferentSpec : ChangeSpec := { name := "tzifDifferent", fn := fun _ => fun
  | [d1, d2] => { results := [.lit (.bool true)], args := [d1, d2] }
  | _ => none }
def tzifDifferentRow : OpenClaim := { program := "ytkpmmabdpeobaaagreatdoor", sum := "d5be91ecfba4b2d507c0d195119c099f5535baf890138f17012ddfe4323bd207", func := "analemma/analemmalaw42.TzifDifferent", spec := "tzifDifferent", inPlace := ["internal/bytealg.IndexByteString", "internal/bytealg.IndexString", "internal/abi.NoEscape"], unfollowed := true, recurses := true, named := ["unicode/utf8.first", "unicode/utf8.acceptRanges", "analemma/offset.units", "strconv.ErrSyntax", "strconv.ErrRange", "internal/strconv.uint64pow10", "math/bits.deBruijn32tab", "math/bits.deBruijn64tab", "analemma/civil.before", "analemma/dayform.kinds", "internal/bytealg.MaxLen"], plainKeys := false, apart := false, laid := [("math/bits.deBruijn32tab", laid_math_bits_deBruijn32tab), ("math/bits.deBruijn64tab", laid_math_bits_deBruijn64tab), ("internal/strconv.uint64pow10", laid_internal_strconv_uint64pow10), ("unicode/utf8.acceptRanges", laid_unicode_utf8_acceptRanges), ("strconv.ErrRange", laid_strconv_ErrRange), ("strconv.ErrSyntax", laid_strconv_ErrSyntax), ("analemma/civil.before", laid_analemma_civil_before), ("analemma/dayform.kinds", laid_analemma_dayform_kinds), ("analemma/offset.units", laid_analemma_offset_units), ("unicode/utf8.first", laid_unicode_utf8_first)] }
def TzifDifferentSaid : Prop := tzifDifferentRow.holds Tryz.pinned (OpenSpec.ofChange tzifDifferentSpec)

/-- ITS FALSE NEIGHBOUR: 'it returns false'. Refute it at one input. -/
def tzifDifferentWrong : ChangeSpec := { name := "tzifDifferent", fn := fun _ => fun
  | [d1, d2] => { results := [.lit (.bool false)], args := [d1, d2] }
  | _ => none }
def TzifDifferentWrongFalsely : Prop := tzifDifferentRow.holds Tryz.pinned (OpenSpec.ofChange tzifDifferentWrong)

/-- 'analemmalaw42.TzifParts': WHATEVER THE INPUT: true; the input reads as it did. -/
def tzifPartsSpec : ChangeSpec := { name := "tzifParts", fn := fun _ => fun
  | [d1, d2] => { results := [.lit (.bool true)], args := [d1, d2] }
  | _ => none }
def tzifPartsRow : OpenClaim := { program := "ytkpmmabdpeobaaagreatdoor", sum := "d5be91ecfba4b2d507c0d195119c099f5535baf890138f17012ddfe4323bd207", func := "analemma/analemmalaw42.TzifParts", spec := "tzifParts", inPlace := ["internal/bytealg.IndexByteString", "internal/bytealg.IndexString", "internal/abi.NoEscape"], unfollowed := true, recurses := true, named := ["unicode/utf8.first", "unicode/utf8.acceptRanges", "analemma/offset.units", "strconv.ErrSyntax", "strconv.ErrRange", "internal/strconv.uint64pow10", "math/bits.deBruijn32tab", "math/bits.deBruijn64tab", "analemma/civil.before", "analemma/dayform.kinds", "internal/bytealg.MaxLen"], plainKeys := false, apart := false, laid := [("math/bits.deBruijn32tab", laid_math_bits_deBruijn32tab), ("math/bits.deBruijn64tab", laid_math_bits_deBruijn64tab), ("internal/strconv.uint64pow10", laid_internal_strconv_uint64pow10), ("unicode/utf8.acceptRanges", laid_unicode_utf8_acceptRanges), ("strconv.ErrRange", laid_strconv_ErrRange), ("strconv.ErrSyntax", laid_strconv_ErrSyntax), ("analemma/civil.before", laid_analemma_civil_before), ("analemma/dayform.kinds", laid_analemma_dayform_kinds), ("analemma/offset.units", laid_analemma_offset_units), ("unicode/utf8.first", laid_unicode_utf8_first)] }
def TzifPartsSaid : Prop := tzifPartsRow.holds Tryz.pinned (OpenSpec.ofChange tzifPartsSpec)

/-- ITS FALSE NEIGHBOUR: 'it returns false'. Refute it at one input. -/
def tzifPartsWrong : ChangeSpec := { name := "tzifParts", fn := fun _ => fun
  | [d1, d2] => { results := [.lit (.bool false)], args := [d1, d2] }
  | _ => none }
def TzifPartsWrongFalsely : Prop := tzifPartsRow.holds Tryz.pinned (OpenSpec.ofChange tzifPartsWrong)

/-- 'analemmalaw43.DecodeApart': WHATEVER THE INPUT: true; the input reads as it did. -/
def decodeApartSpec : ChangeSpec := { name := "decodeApart", fn := fun _ => fun
  | [d] => { results := [.lit (.bool true)], args := [d] }
  | _ => none }
def decodeApartRow : OpenClaim := { program := "ytkpmmabdpeobaaagreatdoor", sum := "d5be91ecfba4b2d507c0d195119c099f5535baf890138f17012ddfe4323bd207", func := "analemma/analemmalaw43.DecodeApart", spec := "decodeApart", inPlace := ["internal/bytealg.IndexByteString", "internal/bytealg.IndexString", "internal/abi.NoEscape", "internal/bytealg.IndexByte", "internal/bytealg.Index"], unfollowed := true, recurses := true, named := ["unicode/utf8.first", "unicode/utf8.acceptRanges", "analemma/offset.units", "strconv.ErrSyntax", "strconv.ErrRange", "internal/strconv.uint64pow10", "math/bits.deBruijn32tab", "math/bits.deBruijn64tab", "analemma/civil.before", "analemma/dayform.kinds", "internal/bytealg.MaxLen"], plainKeys := false, apart := false, laid := [("math/bits.deBruijn32tab", laid_math_bits_deBruijn32tab), ("math/bits.deBruijn64tab", laid_math_bits_deBruijn64tab), ("internal/strconv.uint64pow10", laid_internal_strconv_uint64pow10), ("unicode/utf8.acceptRanges", laid_unicode_utf8_acceptRanges), ("strconv.ErrRange", laid_strconv_ErrRange), ("strconv.ErrSyntax", laid_strconv_ErrSyntax), ("analemma/civil.before", laid_analemma_civil_before), ("analemma/dayform.kinds", laid_analemma_dayform_kinds), ("analemma/offset.units", laid_analemma_offset_units), ("unicode/utf8.first", laid_unicode_utf8_first)] }
def DecodeApartSaid : Prop := decodeApartRow.holds Tryz.pinned (OpenSpec.ofChange decodeApartSpec)

/-- ITS FALSE NEIGHBOUR: 'it returns false'. Refute it at one input. -/
def decodeApartWrong : ChangeSpec := { name := "decodeApart", fn := fun _ => fun
  | [d] => { results := [.lit (.bool false)], args := [d] }
  | _ => none }
def DecodeApartWrongFalsely : Prop := decodeApartRow.holds Tryz.pinned (OpenSpec.ofChange decodeApartWrong)

/-- 'analemmalaw43.DecodeCut': WHATEVER THE INPUT: true; the input reads as it did. -/
def decodeCutSpec : ChangeSpec := { name := "decodeCut", fn := fun _ => fun
  | [d1, d2, d3] => { results := [.lit (.bool true)], args := [d1, d2, d3] }
  | _ => none }
def decodeCutRow : OpenClaim := { program := "ytkpmmabdpeobaaagreatdoor", sum := "d5be91ecfba4b2d507c0d195119c099f5535baf890138f17012ddfe4323bd207", func := "analemma/analemmalaw43.DecodeCut", spec := "decodeCut", inPlace := ["internal/bytealg.IndexByteString", "internal/bytealg.IndexString", "internal/abi.NoEscape", "internal/bytealg.IndexByte", "internal/bytealg.Index"], unfollowed := true, recurses := true, named := ["unicode/utf8.first", "unicode/utf8.acceptRanges", "analemma/offset.units", "strconv.ErrSyntax", "strconv.ErrRange", "internal/strconv.uint64pow10", "math/bits.deBruijn32tab", "math/bits.deBruijn64tab", "analemma/civil.before", "analemma/dayform.kinds", "internal/bytealg.MaxLen"], plainKeys := false, apart := false, laid := [("math/bits.deBruijn32tab", laid_math_bits_deBruijn32tab), ("math/bits.deBruijn64tab", laid_math_bits_deBruijn64tab), ("internal/strconv.uint64pow10", laid_internal_strconv_uint64pow10), ("unicode/utf8.acceptRanges", laid_unicode_utf8_acceptRanges), ("strconv.ErrRange", laid_strconv_ErrRange), ("strconv.ErrSyntax", laid_strconv_ErrSyntax), ("analemma/civil.before", laid_analemma_civil_before), ("analemma/dayform.kinds", laid_analemma_dayform_kinds), ("analemma/offset.units", laid_analemma_offset_units), ("unicode/utf8.first", laid_unicode_utf8_first)] }
def DecodeCutSaid : Prop := decodeCutRow.holds Tryz.pinned (OpenSpec.ofChange decodeCutSpec)

/-- ITS FALSE NEIGHBOUR: 'it returns false'. Refute it at one input. -/
def decodeCutWrong : ChangeSpec := { name := "decodeCut", fn := fun _ => fun
  | [d1, d2, d3] => { results := [.lit (.bool false)], args := [d1, d2, d3] }
  | _ => none }
def DecodeCutWrongFalsely : Prop := decodeCutRow.holds Tryz.pinned (OpenSpec.ofChange decodeCutWrong)

/-- 'analemmalaw43.DecodeBytes': WHATEVER THE INPUT: true; the input reads as it did. -/
def decodeBytesSpec : ChangeSpec := { name := "decodeBytes", fn := fun _ => fun
  | [d] => { results := [.lit (.bool true)], args := [d] }
  | _ => none }
def decodeBytesRow : OpenClaim := { program := "ytkpmmabdpeobaaagreatdoor", sum := "d5be91ecfba4b2d507c0d195119c099f5535baf890138f17012ddfe4323bd207", func := "analemma/analemmalaw43.DecodeBytes", spec := "decodeBytes", inPlace := ["internal/bytealg.IndexByteString", "internal/bytealg.IndexString", "internal/abi.NoEscape", "internal/bytealg.IndexByte", "internal/bytealg.Index"], unfollowed := true, recurses := true, named := ["unicode/utf8.first", "unicode/utf8.acceptRanges", "analemma/offset.units", "strconv.ErrSyntax", "strconv.ErrRange", "internal/strconv.uint64pow10", "math/bits.deBruijn32tab", "math/bits.deBruijn64tab", "analemma/civil.before", "analemma/dayform.kinds", "internal/bytealg.MaxLen"], plainKeys := false, apart := false, laid := [("math/bits.deBruijn32tab", laid_math_bits_deBruijn32tab), ("math/bits.deBruijn64tab", laid_math_bits_deBruijn64tab), ("internal/strconv.uint64pow10", laid_internal_strconv_uint64pow10), ("unicode/utf8.acceptRanges", laid_unicode_utf8_acceptRanges), ("strconv.ErrRange", laid_strconv_ErrRange), ("strconv.ErrSyntax", laid_strconv_ErrSyntax), ("analemma/civil.before", laid_analemma_civil_before), ("analemma/dayform.kinds", laid_analemma_dayform_kinds), ("analemma/offset.units", laid_analemma_offset_units), ("unicode/utf8.first", laid_unicode_utf8_first)] }
def DecodeBytesSaid : Prop := decodeBytesRow.holds Tryz.pinned (OpenSpec.ofChange decodeBytesSpec)

/-- ITS FALSE NEIGHBOUR: 'it returns false'. Refute it at one input. -/
def decodeBytesWrong : ChangeSpec := { name := "decodeBytes", fn := fun _ => fun
  | [d] => { results := [.lit (.bool false)], args := [d] }
  | _ => none }
def DecodeBytesWrongFalsely : Prop := decodeBytesRow.holds Tryz.pinned (OpenSpec.ofChange decodeBytesWrong)

/-- 'analemmalaw43.DecodeBack': WHATEVER THE INPUT: true; the input reads as it did. -/
def decodeBackSpec : ChangeSpec := { name := "decodeBack", fn := fun _ => fun
  | [d] => { results := [.lit (.bool true)], args := [d] }
  | _ => none }
def decodeBackRow : OpenClaim := { program := "ytkpmmabdpeobaaagreatdoor", sum := "d5be91ecfba4b2d507c0d195119c099f5535baf890138f17012ddfe4323bd207", func := "analemma/analemmalaw43.DecodeBack", spec := "decodeBack", inPlace := ["internal/bytealg.IndexByteString", "internal/bytealg.IndexString", "internal/abi.NoEscape", "internal/bytealg.IndexByte", "internal/bytealg.Index"], unfollowed := true, recurses := true, named := ["unicode/utf8.first", "unicode/utf8.acceptRanges", "analemma/offset.units", "strconv.ErrSyntax", "strconv.ErrRange", "internal/strconv.uint64pow10", "math/bits.deBruijn32tab", "math/bits.deBruijn64tab", "analemma/civil.before", "analemma/dayform.kinds", "internal/bytealg.MaxLen"], plainKeys := false, apart := false, laid := [("math/bits.deBruijn32tab", laid_math_bits_deBruijn32tab), ("math/bits.deBruijn64tab", laid_math_bits_deBruijn64tab), ("internal/strconv.uint64pow10", laid_internal_strconv_uint64pow10), ("unicode/utf8.acceptRanges", laid_unicode_utf8_acceptRanges), ("strconv.ErrRange", laid_strconv_ErrRange), ("strconv.ErrSyntax", laid_strconv_ErrSyntax), ("analemma/civil.before", laid_analemma_civil_before), ("analemma/dayform.kinds", laid_analemma_dayform_kinds), ("analemma/offset.units", laid_analemma_offset_units), ("unicode/utf8.first", laid_unicode_utf8_first)] }
def DecodeBackSaid : Prop := decodeBackRow.holds Tryz.pinned (OpenSpec.ofChange decodeBackSpec)

/-- ITS FALSE NEIGHBOUR: 'it returns false'. Refute it at one input. -/
def decodeBackWrong : ChangeSpec := { name := "decodeBack", fn := fun _ => fun
  | [d] => { results := [.lit (.bool false)], args := [d] }
  | _ => none }
def DecodeBackWrongFalsely : Prop := decodeBackRow.holds Tryz.pinned (OpenSpec.ofChange decodeBackWrong)

/-- 'analemmalaw43.DecodeStrict': WHATEVER THE INPUT: true; the input reads as it did. -/
def decodeStrictSpec : ChangeSpec := { name := "decodeStrict", fn := fun _ => fun
  | [d1, d2, d3] => { results := [.lit (.bool true)], args := [d1, d2, d3] }
  | _ => none }
def decodeStrictRow : OpenClaim := { program := "ytkpmmabdpeobaaagreatdoor", sum := "d5be91ecfba4b2d507c0d195119c099f5535baf890138f17012ddfe4323bd207", func := "analemma/analemmalaw43.DecodeStrict", spec := "decodeStrict", inPlace := ["internal/bytealg.IndexByteString", "internal/bytealg.IndexString", "internal/abi.NoEscape", "internal/bytealg.IndexByte", "internal/bytealg.Index"], unfollowed := true, recurses := true, named := ["unicode/utf8.first", "unicode/utf8.acceptRanges", "analemma/offset.units", "strconv.ErrSyntax", "strconv.ErrRange", "internal/strconv.uint64pow10", "math/bits.deBruijn32tab", "math/bits.deBruijn64tab", "analemma/civil.before", "analemma/dayform.kinds", "internal/bytealg.MaxLen"], plainKeys := false, apart := false, laid := [("math/bits.deBruijn32tab", laid_math_bits_deBruijn32tab), ("math/bits.deBruijn64tab", laid_math_bits_deBruijn64tab), ("internal/strconv.uint64pow10", laid_internal_strconv_uint64pow10), ("unicode/utf8.acceptRanges", laid_unicode_utf8_acceptRanges), ("strconv.ErrRange", laid_strconv_ErrRange), ("strconv.ErrSyntax", laid_strconv_ErrSyntax), ("analemma/civil.before", laid_analemma_civil_before), ("analemma/dayform.kinds", laid_analemma_dayform_kinds), ("analemma/offset.units", laid_analemma_offset_units), ("unicode/utf8.first", laid_unicode_utf8_first)] }
def DecodeStrictSaid : Prop := decodeStrictRow.holds Tryz.pinned (OpenSpec.ofChange decodeStrictSpec)

/-- ITS FALSE NEIGHBOUR: 'it returns false'. Refute it at one input. -/
def decodeStrictWrong : ChangeSpec := { name := "decodeStrict", fn := fun _ => fun
  | [d1, d2, d3] => { results := [.lit (.bool false)], args := [d1, d2, d3] }
  | _ => none }
def DecodeStrictWrongFalsely : Prop := decodeStrictRow.holds Tryz.pinned (OpenSpec.ofChange decodeStrictWrong)

/- THE SECOND FORM. 'bulk': how many values and letters a reading holds, each counted each time it is reached (what is shared counts as often as it is met; a slice's spare places count too). A statement '..UptoSaid' is the law's where the arguments, and the package variables that the reading takes, are together of bulk at most 1048576: NARROWER than '..Said'. Prove '..Said' where nothing that the law and all that it calls make is longer than what came in: it says more and counts as full. Else prove '..UptoSaid'. A law counts once. -/
mutual
def uptoBulk {H : Type} : DataW H → Nat
  | .lit (.string bytes) => bytes.length + 1
  | .lit _ => 1
  | .nil => 1
  | .ptr d => uptoBulk d + 1
  | .slice elems spare => uptoBulkAll elems + uptoBulkAll spare + 1
  | .agg parts => uptoBulkAll parts + 1
  | .iface _ d => uptoBulk d + 1
  | .map entries => uptoBulkEntries entries + 1
  | .held _ => 1
def uptoBulkAll {H : Type} : List (DataW H) → Nat
  | [] => 0
  | d :: r => uptoBulk d + uptoBulkAll r
def uptoBulkEntries {H : Type} : List (Lit × DataW H) → Nat
  | [] => 0
  | x :: r => uptoBulkEntry x + uptoBulkEntries r
def uptoBulkEntry {H : Type} : Lit × DataW H → Nat
  | (.string bytes, d) => bytes.length + uptoBulk d + 1
  | (_, d) => uptoBulk d + 1
 end
def uptoSmall : (H : Type) → List (DataW H) → Bool := fun _ ds => decide (uptoBulkAll ds ≤ 1048576)
def OpenSpec.upto (s : _root_.Go.ChangeSpec) : _root_.Go.OpenSpec := { _root_.Go.OpenSpec.ofChange s with cond := some uptoSmall }

/-- 'analemmalaw42.TzifData', WHERE WHAT IT READS IS OF BULK AT MOST 1048576: true; the input reads as it did. -/
def tzifDataUptoRow : OpenClaim := { program := "ytkpmmabdpeobaaagreatdoor", sum := "d5be91ecfba4b2d507c0d195119c099f5535baf890138f17012ddfe4323bd207", func := "analemma/analemmalaw42.TzifData", spec := "tzifData", inPlace := ["internal/bytealg.IndexByteString", "internal/bytealg.IndexString", "internal/abi.NoEscape"], unfollowed := true, recurses := true, named := ["unicode/utf8.first", "unicode/utf8.acceptRanges", "analemma/offset.units", "strconv.ErrSyntax", "strconv.ErrRange", "internal/strconv.uint64pow10", "math/bits.deBruijn32tab", "math/bits.deBruijn64tab", "analemma/civil.before", "analemma/dayform.kinds", "internal/bytealg.MaxLen"], plainKeys := false, apart := false, laid := [("math/bits.deBruijn32tab", laid_math_bits_deBruijn32tab), ("math/bits.deBruijn64tab", laid_math_bits_deBruijn64tab), ("internal/strconv.uint64pow10", laid_internal_strconv_uint64pow10), ("unicode/utf8.acceptRanges", laid_unicode_utf8_acceptRanges), ("strconv.ErrRange", laid_strconv_ErrRange), ("strconv.ErrSyntax", laid_strconv_ErrSyntax), ("analemma/civil.before", laid_analemma_civil_before), ("analemma/dayform.kinds", laid_analemma_dayform_kinds), ("analemma/offset.units", laid_analemma_offset_units), ("unicode/utf8.first", laid_unicode_utf8_first)], narrowed := true }
def TzifDataUptoSaid : Prop := tzifDataUptoRow.holds Tryz.pinned (OpenSpec.upto tzifDataSpec)

/-- 'analemmalaw42.TzifVersions', WHERE WHAT IT READS IS OF BULK AT MOST 1048576: true; the input reads as it did. -/
def tzifVersionsUptoRow : OpenClaim := { program := "ytkpmmabdpeobaaagreatdoor", sum := "d5be91ecfba4b2d507c0d195119c099f5535baf890138f17012ddfe4323bd207", func := "analemma/analemmalaw42.TzifVersions", spec := "tzifVersions", inPlace := ["internal/bytealg.IndexByteString", "internal/bytealg.IndexString", "internal/abi.NoEscape"], unfollowed := true, recurses := true, named := ["unicode/utf8.first", "unicode/utf8.acceptRanges", "analemma/offset.units", "strconv.ErrSyntax", "strconv.ErrRange", "internal/strconv.uint64pow10", "math/bits.deBruijn32tab", "math/bits.deBruijn64tab", "analemma/civil.before", "analemma/dayform.kinds", "internal/bytealg.MaxLen"], plainKeys := false, apart := false, laid := [("math/bits.deBruijn32tab", laid_math_bits_deBruijn32tab), ("math/bits.deBruijn64tab", laid_math_bits_deBruijn64tab), ("internal/strconv.uint64pow10", laid_internal_strconv_uint64pow10), ("unicode/utf8.acceptRanges", laid_unicode_utf8_acceptRanges), ("strconv.ErrRange", laid_strconv_ErrRange), ("strconv.ErrSyntax", laid_strconv_ErrSyntax), ("analemma/civil.before", laid_analemma_civil_before), ("analemma/dayform.kinds", laid_analemma_dayform_kinds), ("analemma/offset.units", laid_analemma_offset_units), ("unicode/utf8.first", laid_unicode_utf8_first)], narrowed := true }
def TzifVersionsUptoSaid : Prop := tzifVersionsUptoRow.holds Tryz.pinned (OpenSpec.upto tzifVersionsSpec)

/-- 'analemmalaw42.TzifLeast', WHERE WHAT IT READS IS OF BULK AT MOST 1048576: true; the input reads as it did. -/
def tzifLeastUptoRow : OpenClaim := { program := "ytkpmmabdpeobaaagreatdoor", sum := "d5be91ecfba4b2d507c0d195119c099f5535baf890138f17012ddfe4323bd207", func := "analemma/analemmalaw42.TzifLeast", spec := "tzifLeast", inPlace := ["internal/bytealg.IndexByteString", "internal/bytealg.IndexString", "internal/abi.NoEscape"], unfollowed := true, recurses := true, named := ["unicode/utf8.first", "unicode/utf8.acceptRanges", "analemma/offset.units", "strconv.ErrSyntax", "strconv.ErrRange", "internal/strconv.uint64pow10", "math/bits.deBruijn32tab", "math/bits.deBruijn64tab", "analemma/civil.before", "analemma/dayform.kinds", "internal/bytealg.MaxLen"], plainKeys := false, apart := false, laid := [("math/bits.deBruijn32tab", laid_math_bits_deBruijn32tab), ("math/bits.deBruijn64tab", laid_math_bits_deBruijn64tab), ("internal/strconv.uint64pow10", laid_internal_strconv_uint64pow10), ("unicode/utf8.acceptRanges", laid_unicode_utf8_acceptRanges), ("strconv.ErrRange", laid_strconv_ErrRange), ("strconv.ErrSyntax", laid_strconv_ErrSyntax), ("analemma/civil.before", laid_analemma_civil_before), ("analemma/dayform.kinds", laid_analemma_dayform_kinds), ("analemma/offset.units", laid_analemma_offset_units), ("unicode/utf8.first", laid_unicode_utf8_first)], narrowed := true }
def TzifLeastUptoSaid : Prop := tzifLeastUptoRow.holds Tryz.pinned (OpenSpec.upto tzifLeastSpec)

/-- 'analemmalaw42.TzifRefuses', WHERE WHAT IT READS IS OF BULK AT MOST 1048576: true; the input reads as it did. -/
def tzifRefusesUptoRow : OpenClaim := { program := "ytkpmmabdpeobaaagreatdoor", sum := "d5be91ecfba4b2d507c0d195119c099f5535baf890138f17012ddfe4323bd207", func := "analemma/analemmalaw42.TzifRefuses", spec := "tzifRefuses", inPlace := ["internal/bytealg.IndexByteString", "internal/bytealg.IndexString", "internal/abi.NoEscape"], unfollowed := true, recurses := true, named := ["unicode/utf8.first", "unicode/utf8.acceptRanges", "analemma/offset.units", "strconv.ErrSyntax", "strconv.ErrRange", "internal/strconv.uint64pow10", "math/bits.deBruijn32tab", "math/bits.deBruijn64tab", "analemma/civil.before", "analemma/dayform.kinds", "internal/bytealg.MaxLen"], plainKeys := false, apart := false, laid := [("math/bits.deBruijn32tab", laid_math_bits_deBruijn32tab), ("math/bits.deBruijn64tab", laid_math_bits_deBruijn64tab), ("internal/strconv.uint64pow10", laid_internal_strconv_uint64pow10), ("unicode/utf8.acceptRanges", laid_unicode_utf8_acceptRanges), ("strconv.ErrRange", laid_strconv_ErrRange), ("strconv.ErrSyntax", laid_strconv_ErrSyntax), ("analemma/civil.before", laid_analemma_civil_before), ("analemma/dayform.kinds", laid_analemma_dayform_kinds), ("analemma/offset.units", laid_analemma_offset_units), ("unicode/utf8.first", laid_unicode_utf8_first)], narrowed := true }
def TzifRefusesUptoSaid : Prop := tzifRefusesUptoRow.holds Tryz.pinned (OpenSpec.upto tzifRefusesSpec)

/-- 'analemmalaw42.TzifDifferent', WHERE WHAT IT READS IS OF BULK AT MOST 1048576: true; the input reads as it did. -/
def tzifDifferentUptoRow : OpenClaim := { program := "ytkpmmabdpeobaaagreatdoor", sum := "d5be91ecfba4b2d507c0d195119c099f5535baf890138f17012ddfe4323bd207", func := "analemma/analemmalaw42.TzifDifferent", spec := "tzifDifferent", inPlace := ["internal/bytealg.IndexByteString", "internal/bytealg.IndexString", "internal/abi.NoEscape"], unfollowed := true, recurses := true, named := ["unicode/utf8.first", "unicode/utf8.acceptRanges", "analemma/offset.units", "strconv.ErrSyntax", "strconv.ErrRange", "internal/strconv.uint64pow10", "math/bits.deBruijn32tab", "math/bits.deBruijn64tab", "analemma/civil.before", "analemma/dayform.kinds", "internal/bytealg.MaxLen"], plainKeys := false, apart := false, laid := [("math/bits.deBruijn32tab", laid_math_bits_deBruijn32tab), ("math/bits.deBruijn64tab", laid_math_bits_deBruijn64tab), ("internal/strconv.uint64pow10", laid_internal_strconv_uint64pow10), ("unicode/utf8.acceptRanges", laid_unicode_utf8_acceptRanges), ("strconv.ErrRange", laid_strconv_ErrRange), ("strconv.ErrSyntax", laid_strconv_ErrSyntax), ("analemma/civil.before", laid_analemma_civil_before), ("analemma/dayform.kinds", laid_analemma_dayform_kinds), ("analemma/offset.units", laid_analemma_offset_units), ("unicode/utf8.first", laid_unicode_utf8_first)], narrowed := true }
def TzifDifferentUptoSaid : Prop := tzifDifferentUptoRow.holds Tryz.pinned (OpenSpec.upto tzifDifferentSpec)

/-- 'analemmalaw42.TzifParts', WHERE WHAT IT READS IS OF BULK AT MOST 1048576: true; the input reads as it did. -/
def tzifPartsUptoRow : OpenClaim := { program := "ytkpmmabdpeobaaagreatdoor", sum := "d5be91ecfba4b2d507c0d195119c099f5535baf890138f17012ddfe4323bd207", func := "analemma/analemmalaw42.TzifParts", spec := "tzifParts", inPlace := ["internal/bytealg.IndexByteString", "internal/bytealg.IndexString", "internal/abi.NoEscape"], unfollowed := true, recurses := true, named := ["unicode/utf8.first", "unicode/utf8.acceptRanges", "analemma/offset.units", "strconv.ErrSyntax", "strconv.ErrRange", "internal/strconv.uint64pow10", "math/bits.deBruijn32tab", "math/bits.deBruijn64tab", "analemma/civil.before", "analemma/dayform.kinds", "internal/bytealg.MaxLen"], plainKeys := false, apart := false, laid := [("math/bits.deBruijn32tab", laid_math_bits_deBruijn32tab), ("math/bits.deBruijn64tab", laid_math_bits_deBruijn64tab), ("internal/strconv.uint64pow10", laid_internal_strconv_uint64pow10), ("unicode/utf8.acceptRanges", laid_unicode_utf8_acceptRanges), ("strconv.ErrRange", laid_strconv_ErrRange), ("strconv.ErrSyntax", laid_strconv_ErrSyntax), ("analemma/civil.before", laid_analemma_civil_before), ("analemma/dayform.kinds", laid_analemma_dayform_kinds), ("analemma/offset.units", laid_analemma_offset_units), ("unicode/utf8.first", laid_unicode_utf8_first)], narrowed := true }
def TzifPartsUptoSaid : Prop := tzifPartsUptoRow.holds Tryz.pinned (OpenSpec.upto tzifPartsSpec)

/-- 'analemmalaw43.DecodeApart', WHERE WHAT IT READS IS OF BULK AT MOST 1048576: true; the input reads as it did. -/
def decodeApartUptoRow : OpenClaim := { program := "ytkpmmabdpeobaaagreatdoor", sum := "d5be91ecfba4b2d507c0d195119c099f5535baf890138f17012ddfe4323bd207", func := "analemma/analemmalaw43.DecodeApart", spec := "decodeApart", inPlace := ["internal/bytealg.IndexByteString", "internal/bytealg.IndexString", "internal/abi.NoEscape", "internal/bytealg.IndexByte", "internal/bytealg.Index"], unfollowed := true, recurses := true, named := ["unicode/utf8.first", "unicode/utf8.acceptRanges", "analemma/offset.units", "strconv.ErrSyntax", "strconv.ErrRange", "internal/strconv.uint64pow10", "math/bits.deBruijn32tab", "math/bits.deBruijn64tab", "analemma/civil.before", "analemma/dayform.kinds", "internal/bytealg.MaxLen"], plainKeys := false, apart := false, laid := [("math/bits.deBruijn32tab", laid_math_bits_deBruijn32tab), ("math/bits.deBruijn64tab", laid_math_bits_deBruijn64tab), ("internal/strconv.uint64pow10", laid_internal_strconv_uint64pow10), ("unicode/utf8.acceptRanges", laid_unicode_utf8_acceptRanges), ("strconv.ErrRange", laid_strconv_ErrRange), ("strconv.ErrSyntax", laid_strconv_ErrSyntax), ("analemma/civil.before", laid_analemma_civil_before), ("analemma/dayform.kinds", laid_analemma_dayform_kinds), ("analemma/offset.units", laid_analemma_offset_units), ("unicode/utf8.first", laid_unicode_utf8_first)], narrowed := true }
def DecodeApartUptoSaid : Prop := decodeApartUptoRow.holds Tryz.pinned (OpenSpec.upto decodeApartSpec)

/-- 'analemmalaw43.DecodeCut', WHERE WHAT IT READS IS OF BULK AT MOST 1048576: true; the input reads as it did. -/
def decodeCutUptoRow : OpenClaim := { program := "ytkpmmabdpeobaaagreatdoor", sum := "d5be91ecfba4b2d507c0d195119c099f5535baf890138f17012ddfe4323bd207", func := "analemma/analemmalaw43.DecodeCut", spec := "decodeCut", inPlace := ["internal/bytealg.IndexByteString", "internal/bytealg.IndexString", "internal/abi.NoEscape", "internal/bytealg.IndexByte", "internal/bytealg.Index"], unfollowed := true, recurses := true, named := ["unicode/utf8.first", "unicode/utf8.acceptRanges", "analemma/offset.units", "strconv.ErrSyntax", "strconv.ErrRange", "internal/strconv.uint64pow10", "math/bits.deBruijn32tab", "math/bits.deBruijn64tab", "analemma/civil.before", "analemma/dayform.kinds", "internal/bytealg.MaxLen"], plainKeys := false, apart := false, laid := [("math/bits.deBruijn32tab", laid_math_bits_deBruijn32tab), ("math/bits.deBruijn64tab", laid_math_bits_deBruijn64tab), ("internal/strconv.uint64pow10", laid_internal_strconv_uint64pow10), ("unicode/utf8.acceptRanges", laid_unicode_utf8_acceptRanges), ("strconv.ErrRange", laid_strconv_ErrRange), ("strconv.ErrSyntax", laid_strconv_ErrSyntax), ("analemma/civil.before", laid_analemma_civil_before), ("analemma/dayform.kinds", laid_analemma_dayform_kinds), ("analemma/offset.units", laid_analemma_offset_units), ("unicode/utf8.first", laid_unicode_utf8_first)], narrowed := true }
def DecodeCutUptoSaid : Prop := decodeCutUptoRow.holds Tryz.pinned (OpenSpec.upto decodeCutSpec)

/-- 'analemmalaw43.DecodeBytes', WHERE WHAT IT READS IS OF BULK AT MOST 1048576: true; the input reads as it did. -/
def decodeBytesUptoRow : OpenClaim := { program := "ytkpmmabdpeobaaagreatdoor", sum := "d5be91ecfba4b2d507c0d195119c099f5535baf890138f17012ddfe4323bd207", func := "analemma/analemmalaw43.DecodeBytes", spec := "decodeBytes", inPlace := ["internal/bytealg.IndexByteString", "internal/bytealg.IndexString", "internal/abi.NoEscape", "internal/bytealg.IndexByte", "internal/bytealg.Index"], unfollowed := true, recurses := true, named := ["unicode/utf8.first", "unicode/utf8.acceptRanges", "analemma/offset.units", "strconv.ErrSyntax", "strconv.ErrRange", "internal/strconv.uint64pow10", "math/bits.deBruijn32tab", "math/bits.deBruijn64tab", "analemma/civil.before", "analemma/dayform.kinds", "internal/bytealg.MaxLen"], plainKeys := false, apart := false, laid := [("math/bits.deBruijn32tab", laid_math_bits_deBruijn32tab), ("math/bits.deBruijn64tab", laid_math_bits_deBruijn64tab), ("internal/strconv.uint64pow10", laid_internal_strconv_uint64pow10), ("unicode/utf8.acceptRanges", laid_unicode_utf8_acceptRanges), ("strconv.ErrRange", laid_strconv_ErrRange), ("strconv.ErrSyntax", laid_strconv_ErrSyntax), ("analemma/civil.before", laid_analemma_civil_before), ("analemma/dayform.kinds", laid_analemma_dayform_kinds), ("analemma/offset.units", laid_analemma_offset_units), ("unicode/utf8.first", laid_unicode_utf8_first)], narrowed := true }
def DecodeBytesUptoSaid : Prop := decodeBytesUptoRow.holds Tryz.pinned (OpenSpec.upto decodeBytesSpec)

/-- 'analemmalaw43.DecodeBack', WHERE WHAT IT READS IS OF BULK AT MOST 1048576: true; the input reads as it did. -/
def decodeBackUptoRow : OpenClaim := { program := "ytkpmmabdpeobaaagreatdoor", sum := "d5be91ecfba4b2d507c0d195119c099f5535baf890138f17012ddfe4323bd207", func := "analemma/analemmalaw43.DecodeBack", spec := "decodeBack", inPlace := ["internal/bytealg.IndexByteString", "internal/bytealg.IndexString", "internal/abi.NoEscape", "internal/bytealg.IndexByte", "internal/bytealg.Index"], unfollowed := true, recurses := true, named := ["unicode/utf8.first", "unicode/utf8.acceptRanges", "analemma/offset.units", "strconv.ErrSyntax", "strconv.ErrRange", "internal/strconv.uint64pow10", "math/bits.deBruijn32tab", "math/bits.deBruijn64tab", "analemma/civil.before", "analemma/dayform.kinds", "internal/bytealg.MaxLen"], plainKeys := false, apart := false, laid := [("math/bits.deBruijn32tab", laid_math_bits_deBruijn32tab), ("math/bits.deBruijn64tab", laid_math_bits_deBruijn64tab), ("internal/strconv.uint64pow10", laid_internal_strconv_uint64pow10), ("unicode/utf8.acceptRanges", laid_unicode_utf8_acceptRanges), ("strconv.ErrRange", laid_strconv_ErrRange), ("strconv.ErrSyntax", laid_strconv_ErrSyntax), ("analemma/civil.before", laid_analemma_civil_before), ("analemma/dayform.kinds", laid_analemma_dayform_kinds), ("analemma/offset.units", laid_analemma_offset_units), ("unicode/utf8.first", laid_unicode_utf8_first)], narrowed := true }
def DecodeBackUptoSaid : Prop := decodeBackUptoRow.holds Tryz.pinned (OpenSpec.upto decodeBackSpec)

/-- 'analemmalaw43.DecodeStrict', WHERE WHAT IT READS IS OF BULK AT MOST 1048576: true; the input reads as it did. -/
def decodeStrictUptoRow : OpenClaim := { program := "ytkpmmabdpeobaaagreatdoor", sum := "d5be91ecfba4b2d507c0d195119c099f5535baf890138f17012ddfe4323bd207", func := "analemma/analemmalaw43.DecodeStrict", spec := "decodeStrict", inPlace := ["internal/bytealg.IndexByteString", "internal/bytealg.IndexString", "internal/abi.NoEscape", "internal/bytealg.IndexByte", "internal/bytealg.Index"], unfollowed := true, recurses := true, named := ["unicode/utf8.first", "unicode/utf8.acceptRanges", "analemma/offset.units", "strconv.ErrSyntax", "strconv.ErrRange", "internal/strconv.uint64pow10", "math/bits.deBruijn32tab", "math/bits.deBruijn64tab", "analemma/civil.before", "analemma/dayform.kinds", "internal/bytealg.MaxLen"], plainKeys := false, apart := false, laid := [("math/bits.deBruijn32tab", laid_math_bits_deBruijn32tab), ("math/bits.deBruijn64tab", laid_math_bits_deBruijn64tab), ("internal/strconv.uint64pow10", laid_internal_strconv_uint64pow10), ("unicode/utf8.acceptRanges", laid_unicode_utf8_acceptRanges), ("strconv.ErrRange", laid_strconv_ErrRange), ("strconv.ErrSyntax", laid_strconv_ErrSyntax), ("analemma/civil.before", laid_analemma_civil_before), ("analemma/dayform.kinds", laid_analemma_dayform_kinds), ("analemma/offset.units", laid_analemma_offset_units), ("unicode/utf8.first", laid_unicode_utf8_first)], narrowed := true }
def DecodeStrictUptoSaid : Prop := decodeStrictUptoRow.holds Tryz.pinned (OpenSpec.upto decodeStrictSpec)

end Rows
end Go.Proofs.YtkpmmabdpeobaaaGreatDoor
