/-
  NARROWER THAN 'FOR EVERY INPUT', by the rows' own cells (each row's printed sentence says how): LookupTables: laid · LookupSteps: laid · LookupIndexes: laid · LookupFooter: laid · LookupRefuses: laid · TableChecks: laid · TableMakes: laid · TableRight: laid · TableSpoilt: laid · TableMany: laid · TableLines: laid · TableFooters: laid.
  DERIVED. THE GIVEN ROWS OF THIS SEAT. 12 by the template 'for every input the law returns true; each argument reads behind the call as it read before'; 0 by the template 'total and deterministic' (their statements: YtlaplgaccjmbhaaGreatDoorTotals.lean).
  GIVEN WITH THE SEED: the statements are not yours to turn. If you find one false, say at which input.
  Laid BY PROGRAM, IN A SANDBOX (cutbox-rows.mjs): the forced cells as the released guide's own fill.sh prints them over the translation a05ae6b9aef796c3… (all of the seat's roots in one cut). By AI agents, Wed Nov 11 2026. No macro, syntax, notation, axiom, sorry.
-/
import Derived.Test.YtlaplgaccjmbhaaGreatDoorChecked
import GoSem.PinnedTables
import GoSem.Claim
import GoSem.ClaimJoined
import GoSem.ClaimMapViews
import Derived.JoinedTies
import Derived.KernelRfl
namespace Go.Proofs.YtlaplgaccjmbhaaGreatDoor
/- THE CELL 'sum', in the pinned program and in every row, IS THE sha256 OF THE DUMP (.gsa) THAT YtlaplgaccjmbhaaGreatDoorProg.lean LOADS. Nothing in Lean hashes anything: it is a label: what it is worth is what the hold of that sum in a sandbox is worth. -/
noncomputable def Tryz.pinned : Pinned := { name := "ytlaplgaccjmbhaagreatdoor", sum := "a05ae6b9aef796c3bc78c1a2417431786851091bd51175f204a4a71b425b034b", checked := Tryz.checked }
namespace Rows
def none {H : Type} : Left H := { results := [], args := [] }

/- WHAT THE LISTED PACKAGE-LEVEL VARIABLES READ AS WHEN THE CALL BEGINS. Each datum BY PROGRAM (the guide's laid-datum.mjs) off the statement by which the dump's own 'gosem.cut.vars' lays the variable. In a bare row this is a premise. The card (YtlaplgaccjmbhaaGreatDoorCards.lean) ties it to the program's text. -/
def laid_math_bits_deBruijn32tab {H : Type} : DataW H := .agg [.lit (.int .u8 0), .lit (.int .u8 1), .lit (.int .u8 28), .lit (.int .u8 2), .lit (.int .u8 29), .lit (.int .u8 14), .lit (.int .u8 24), .lit (.int .u8 3), .lit (.int .u8 30), .lit (.int .u8 22), .lit (.int .u8 20), .lit (.int .u8 15), .lit (.int .u8 25), .lit (.int .u8 17), .lit (.int .u8 4), .lit (.int .u8 8), .lit (.int .u8 31), .lit (.int .u8 27), .lit (.int .u8 13), .lit (.int .u8 23), .lit (.int .u8 21), .lit (.int .u8 19), .lit (.int .u8 16), .lit (.int .u8 7), .lit (.int .u8 26), .lit (.int .u8 12), .lit (.int .u8 18), .lit (.int .u8 6), .lit (.int .u8 11), .lit (.int .u8 5), .lit (.int .u8 10), .lit (.int .u8 9)]
def laid_math_bits_deBruijn64tab {H : Type} : DataW H := .agg [.lit (.int .u8 0), .lit (.int .u8 1), .lit (.int .u8 56), .lit (.int .u8 2), .lit (.int .u8 57), .lit (.int .u8 49), .lit (.int .u8 28), .lit (.int .u8 3), .lit (.int .u8 61), .lit (.int .u8 58), .lit (.int .u8 42), .lit (.int .u8 50), .lit (.int .u8 38), .lit (.int .u8 29), .lit (.int .u8 17), .lit (.int .u8 4), .lit (.int .u8 62), .lit (.int .u8 47), .lit (.int .u8 59), .lit (.int .u8 36), .lit (.int .u8 45), .lit (.int .u8 43), .lit (.int .u8 51), .lit (.int .u8 22), .lit (.int .u8 53), .lit (.int .u8 39), .lit (.int .u8 33), .lit (.int .u8 30), .lit (.int .u8 24), .lit (.int .u8 18), .lit (.int .u8 12), .lit (.int .u8 5), .lit (.int .u8 63), .lit (.int .u8 55), .lit (.int .u8 48), .lit (.int .u8 27), .lit (.int .u8 60), .lit (.int .u8 41), .lit (.int .u8 37), .lit (.int .u8 16), .lit (.int .u8 46), .lit (.int .u8 35), .lit (.int .u8 44), .lit (.int .u8 21), .lit (.int .u8 52), .lit (.int .u8 32), .lit (.int .u8 23), .lit (.int .u8 11), .lit (.int .u8 54), .lit (.int .u8 26), .lit (.int .u8 40), .lit (.int .u8 15), .lit (.int .u8 34), .lit (.int .u8 20), .lit (.int .u8 31), .lit (.int .u8 10), .lit (.int .u8 25), .lit (.int .u8 14), .lit (.int .u8 19), .lit (.int .u8 9), .lit (.int .u8 13), .lit (.int .u8 8), .lit (.int .u8 7), .lit (.int .u8 6)]
def laid_internal_strconv_uint64pow10 {H : Type} : DataW H := .agg [.lit (.int .u64 1), .lit (.int .u64 10), .lit (.int .u64 100), .lit (.int .u64 1000), .lit (.int .u64 10000), .lit (.int .u64 100000), .lit (.int .u64 1000000), .lit (.int .u64 10000000), .lit (.int .u64 100000000), .lit (.int .u64 1000000000), .lit (.int .u64 10000000000), .lit (.int .u64 100000000000), .lit (.int .u64 1000000000000), .lit (.int .u64 10000000000000), .lit (.int .u64 100000000000000), .lit (.int .u64 1000000000000000), .lit (.int .u64 10000000000000000), .lit (.int .u64 100000000000000000), .lit (.int .u64 1000000000000000000), .lit (.int .u64 10000000000000000000)]
def laid_unicode_utf8_acceptRanges {H : Type} : DataW H := .agg [.agg [.lit (.int .u8 128), .lit (.int .u8 191)], .agg [.lit (.int .u8 160), .lit (.int .u8 191)], .agg [.lit (.int .u8 128), .lit (.int .u8 159)], .agg [.lit (.int .u8 144), .lit (.int .u8 191)], .agg [.lit (.int .u8 128), .lit (.int .u8 143)], .agg [.lit (.int .u8 0), .lit (.int .u8 0)], .agg [.lit (.int .u8 0), .lit (.int .u8 0)], .agg [.lit (.int .u8 0), .lit (.int .u8 0)], .agg [.lit (.int .u8 0), .lit (.int .u8 0)], .agg [.lit (.int .u8 0), .lit (.int .u8 0)], .agg [.lit (.int .u8 0), .lit (.int .u8 0)], .agg [.lit (.int .u8 0), .lit (.int .u8 0)], .agg [.lit (.int .u8 0), .lit (.int .u8 0)], .agg [.lit (.int .u8 0), .lit (.int .u8 0)], .agg [.lit (.int .u8 0), .lit (.int .u8 0)], .agg [.lit (.int .u8 0), .lit (.int .u8 0)]]
def laid_strconv_ErrRange {H : Type} : DataW H := .iface "*errors.errorString" (.ptr (.agg [.lit (.string [118, 97, 108, 117, 101, 32, 111, 117, 116, 32, 111, 102, 32, 114, 97, 110, 103, 101])]))
def laid_strconv_ErrSyntax {H : Type} : DataW H := .iface "*errors.errorString" (.ptr (.agg [.lit (.string [105, 110, 118, 97, 108, 105, 100, 32, 115, 121, 110, 116, 97, 120])]))
def laid_analemma_civil_before {H : Type} : DataW H := .agg [.lit (.int .i64 0), .lit (.int .i64 31), .lit (.int .i64 61), .lit (.int .i64 92), .lit (.int .i64 122), .lit (.int .i64 153), .lit (.int .i64 184), .lit (.int .i64 214), .lit (.int .i64 245), .lit (.int .i64 275), .lit (.int .i64 306), .lit (.int .i64 337)]
def laid_analemma_dayform_kinds {H : Type} : DataW H := .iface "func table" (.agg [.agg [.lit (.bool false), .lit (.bool false), .nil], .agg [.lit (.bool false), .lit (.bool true), .iface "func" (.lit (.string [97, 110, 97, 108, 101, 109, 109, 97, 47, 100, 97, 121, 102, 111, 114, 109, 46, 107, 105, 110, 100, 115, 36, 49]))], .agg [.lit (.bool true), .lit (.bool false), .iface "func" (.lit (.string [97, 110, 97, 108, 101, 109, 109, 97, 47, 100, 97, 121, 102, 111, 114, 109, 46, 107, 105, 110, 100, 115, 36, 50]))], .agg [.lit (.bool true), .lit (.bool true), .iface "func" (.lit (.string [97, 110, 97, 108, 101, 109, 109, 97, 47, 100, 97, 121, 102, 111, 114, 109, 46, 107, 105, 110, 100, 115, 36, 51]))], .agg [.lit (.bool true), .lit (.bool true), .iface "func" (.lit (.string [97, 110, 97, 108, 101, 109, 109, 97, 47, 100, 97, 121, 102, 111, 114, 109, 46, 107, 105, 110, 100, 115, 36, 52]))]])
def laid_analemma_offset_units {H : Type} : DataW H := .agg [.lit (.int .i64 3600), .lit (.int .i64 60), .lit (.int .i64 1)]
/-- One of Go's own tables, pinned by name: the form's constant. -/
def laid_unicode_utf8_first : DataW Unit := Go.Pinned.utf8First

/-- 'analemmalaw45.LookupTables': WHATEVER THE INPUT: true; the input reads as it did. -/
def lookupTablesSpec : ChangeSpec := { name := "lookupTables", fn := fun _ => fun
  | [d1, d2] => { results := [.lit (.bool true)], args := [d1, d2] }
  | _ => none }
def lookupTablesRow : OpenClaim := { program := "ytlaplgaccjmbhaagreatdoor", sum := "a05ae6b9aef796c3bc78c1a2417431786851091bd51175f204a4a71b425b034b", func := "analemma/analemmalaw45.LookupTables", spec := "lookupTables", inPlace := ["internal/bytealg.IndexByteString", "internal/bytealg.IndexString"], unfollowed := true, recurses := true, named := ["unicode/utf8.first", "unicode/utf8.acceptRanges", "analemma/offset.units", "strconv.ErrSyntax", "strconv.ErrRange", "internal/strconv.uint64pow10", "math/bits.deBruijn32tab", "math/bits.deBruijn64tab", "analemma/civil.before", "analemma/dayform.kinds", "internal/bytealg.MaxLen"], plainKeys := false, apart := false, laid := [("math/bits.deBruijn32tab", laid_math_bits_deBruijn32tab), ("math/bits.deBruijn64tab", laid_math_bits_deBruijn64tab), ("internal/strconv.uint64pow10", laid_internal_strconv_uint64pow10), ("unicode/utf8.acceptRanges", laid_unicode_utf8_acceptRanges), ("strconv.ErrRange", laid_strconv_ErrRange), ("strconv.ErrSyntax", laid_strconv_ErrSyntax), ("analemma/civil.before", laid_analemma_civil_before), ("analemma/dayform.kinds", laid_analemma_dayform_kinds), ("analemma/offset.units", laid_analemma_offset_units), ("unicode/utf8.first", laid_unicode_utf8_first)] }
def LookupTablesSaid : Prop := lookupTablesRow.holds Tryz.pinned (OpenSpec.ofChange lookupTablesSpec)

/-- ITS FALSE NEIGHBOUR: 'it returns false'. Refute it at one input. -/
def lookupTablesWrong : ChangeSpec := { name := "lookupTables", fn := fun _ => fun
  | [d1, d2] => { results := [.lit (.bool false)], args := [d1, d2] }
  | _ => none }
def LookupTablesWrongFalsely : Prop := lookupTablesRow.holds Tryz.pinned (OpenSpec.ofChange lookupTablesWrong)

/-- 'analemmalaw45.LookupSteps': WHATEVER THE INPUT: true; the input reads as it did. -/
def lookupStepsSpec : ChangeSpec := { name := "lookupSteps", fn := fun _ => fun
  | [d1, d2] => { results := [.lit (.bool true)], args := [d1, d2] }
  | _ => none }
def lookupStepsRow : OpenClaim := { program := "ytlaplgaccjmbhaagreatdoor", sum := "a05ae6b9aef796c3bc78c1a2417431786851091bd51175f204a4a71b425b034b", func := "analemma/analemmalaw45.LookupSteps", spec := "lookupSteps", inPlace := ["internal/bytealg.IndexByteString", "internal/bytealg.IndexString"], unfollowed := true, recurses := true, named := ["unicode/utf8.first", "unicode/utf8.acceptRanges", "internal/strconv.uint64pow10", "math/bits.deBruijn32tab", "math/bits.deBruijn64tab", "analemma/civil.before", "analemma/dayform.kinds", "analemma/offset.units", "strconv.ErrSyntax", "strconv.ErrRange", "internal/bytealg.MaxLen"], plainKeys := false, apart := false, laid := [("math/bits.deBruijn32tab", laid_math_bits_deBruijn32tab), ("math/bits.deBruijn64tab", laid_math_bits_deBruijn64tab), ("internal/strconv.uint64pow10", laid_internal_strconv_uint64pow10), ("unicode/utf8.acceptRanges", laid_unicode_utf8_acceptRanges), ("strconv.ErrRange", laid_strconv_ErrRange), ("strconv.ErrSyntax", laid_strconv_ErrSyntax), ("analemma/civil.before", laid_analemma_civil_before), ("analemma/dayform.kinds", laid_analemma_dayform_kinds), ("analemma/offset.units", laid_analemma_offset_units), ("unicode/utf8.first", laid_unicode_utf8_first)] }
def LookupStepsSaid : Prop := lookupStepsRow.holds Tryz.pinned (OpenSpec.ofChange lookupStepsSpec)

/-- ITS FALSE NEIGHBOUR: 'it returns false'. Refute it at one input. -/
def lookupStepsWrong : ChangeSpec := { name := "lookupSteps", fn := fun _ => fun
  | [d1, d2] => { results := [.lit (.bool false)], args := [d1, d2] }
  | _ => none }
def LookupStepsWrongFalsely : Prop := lookupStepsRow.holds Tryz.pinned (OpenSpec.ofChange lookupStepsWrong)

/-- 'analemmalaw45.LookupIndexes': WHATEVER THE INPUT: true; the input reads as it did. -/
def lookupIndexesSpec : ChangeSpec := { name := "lookupIndexes", fn := fun _ => fun
  | [d1, d2, d3] => { results := [.lit (.bool true)], args := [d1, d2, d3] }
  | _ => none }
def lookupIndexesRow : OpenClaim := { program := "ytlaplgaccjmbhaagreatdoor", sum := "a05ae6b9aef796c3bc78c1a2417431786851091bd51175f204a4a71b425b034b", func := "analemma/analemmalaw45.LookupIndexes", spec := "lookupIndexes", inPlace := ["internal/bytealg.IndexByteString", "internal/bytealg.IndexString"], unfollowed := true, recurses := true, named := ["unicode/utf8.first", "unicode/utf8.acceptRanges", "internal/strconv.uint64pow10", "math/bits.deBruijn32tab", "math/bits.deBruijn64tab", "analemma/civil.before", "analemma/dayform.kinds", "analemma/offset.units", "strconv.ErrSyntax", "strconv.ErrRange", "internal/bytealg.MaxLen"], plainKeys := false, apart := false, laid := [("math/bits.deBruijn32tab", laid_math_bits_deBruijn32tab), ("math/bits.deBruijn64tab", laid_math_bits_deBruijn64tab), ("internal/strconv.uint64pow10", laid_internal_strconv_uint64pow10), ("unicode/utf8.acceptRanges", laid_unicode_utf8_acceptRanges), ("strconv.ErrRange", laid_strconv_ErrRange), ("strconv.ErrSyntax", laid_strconv_ErrSyntax), ("analemma/civil.before", laid_analemma_civil_before), ("analemma/dayform.kinds", laid_analemma_dayform_kinds), ("analemma/offset.units", laid_analemma_offset_units), ("unicode/utf8.first", laid_unicode_utf8_first)] }
def LookupIndexesSaid : Prop := lookupIndexesRow.holds Tryz.pinned (OpenSpec.ofChange lookupIndexesSpec)

/-- ITS FALSE NEIGHBOUR: 'it returns false'. Refute it at one input. -/
def lookupIndexesWrong : ChangeSpec := { name := "lookupIndexes", fn := fun _ => fun
  | [d1, d2, d3] => { results := [.lit (.bool false)], args := [d1, d2, d3] }
  | _ => none }
def LookupIndexesWrongFalsely : Prop := lookupIndexesRow.holds Tryz.pinned (OpenSpec.ofChange lookupIndexesWrong)

/-- 'analemmalaw45.LookupFooter': WHATEVER THE INPUT: true; the input reads as it did. -/
def lookupFooterSpec : ChangeSpec := { name := "lookupFooter", fn := fun _ => fun
  | [d1, d2, d3] => { results := [.lit (.bool true)], args := [d1, d2, d3] }
  | _ => none }
def lookupFooterRow : OpenClaim := { program := "ytlaplgaccjmbhaagreatdoor", sum := "a05ae6b9aef796c3bc78c1a2417431786851091bd51175f204a4a71b425b034b", func := "analemma/analemmalaw45.LookupFooter", spec := "lookupFooter", inPlace := ["internal/bytealg.IndexByteString", "internal/bytealg.IndexString"], unfollowed := true, recurses := true, named := ["unicode/utf8.first", "unicode/utf8.acceptRanges", "internal/strconv.uint64pow10", "math/bits.deBruijn32tab", "math/bits.deBruijn64tab", "analemma/civil.before", "analemma/dayform.kinds", "analemma/offset.units", "strconv.ErrSyntax", "strconv.ErrRange", "internal/bytealg.MaxLen"], plainKeys := false, apart := false, laid := [("math/bits.deBruijn32tab", laid_math_bits_deBruijn32tab), ("math/bits.deBruijn64tab", laid_math_bits_deBruijn64tab), ("internal/strconv.uint64pow10", laid_internal_strconv_uint64pow10), ("unicode/utf8.acceptRanges", laid_unicode_utf8_acceptRanges), ("strconv.ErrRange", laid_strconv_ErrRange), ("strconv.ErrSyntax", laid_strconv_ErrSyntax), ("analemma/civil.before", laid_analemma_civil_before), ("analemma/dayform.kinds", laid_analemma_dayform_kinds), ("analemma/offset.units", laid_analemma_offset_units), ("unicode/utf8.first", laid_unicode_utf8_first)] }
def LookupFooterSaid : Prop := lookupFooterRow.holds Tryz.pinned (OpenSpec.ofChange lookupFooterSpec)

/-- ITS FALSE NEIGHBOUR: 'it returns false'. Refute it at one input. -/
def lookupFooterWrong : ChangeSpec := { name := "lookupFooter", fn := fun _ => fun
  | [d1, d2, d3] => { results := [.lit (.bool false)], args := [d1, d2, d3] }
  | _ => none }
def LookupFooterWrongFalsely : Prop := lookupFooterRow.holds Tryz.pinned (OpenSpec.ofChange lookupFooterWrong)

/-- 'analemmalaw45.LookupRefuses': WHATEVER THE INPUT: true; the input reads as it did. -/
def lookupRefusesSpec : ChangeSpec := { name := "lookupRefuses", fn := fun _ => fun
  | [d1, d2, d3] => { results := [.lit (.bool true)], args := [d1, d2, d3] }
  | _ => none }
def lookupRefusesRow : OpenClaim := { program := "ytlaplgaccjmbhaagreatdoor", sum := "a05ae6b9aef796c3bc78c1a2417431786851091bd51175f204a4a71b425b034b", func := "analemma/analemmalaw45.LookupRefuses", spec := "lookupRefuses", inPlace := ["internal/bytealg.IndexByteString", "internal/bytealg.IndexString"], unfollowed := true, recurses := true, named := ["unicode/utf8.first", "unicode/utf8.acceptRanges", "internal/strconv.uint64pow10", "math/bits.deBruijn32tab", "math/bits.deBruijn64tab", "analemma/civil.before", "analemma/dayform.kinds", "analemma/offset.units", "strconv.ErrSyntax", "strconv.ErrRange", "internal/bytealg.MaxLen"], plainKeys := false, apart := false, laid := [("math/bits.deBruijn32tab", laid_math_bits_deBruijn32tab), ("math/bits.deBruijn64tab", laid_math_bits_deBruijn64tab), ("internal/strconv.uint64pow10", laid_internal_strconv_uint64pow10), ("unicode/utf8.acceptRanges", laid_unicode_utf8_acceptRanges), ("strconv.ErrRange", laid_strconv_ErrRange), ("strconv.ErrSyntax", laid_strconv_ErrSyntax), ("analemma/civil.before", laid_analemma_civil_before), ("analemma/dayform.kinds", laid_analemma_dayform_kinds), ("analemma/offset.units", laid_analemma_offset_units), ("unicode/utf8.first", laid_unicode_utf8_first)] }
def LookupRefusesSaid : Prop := lookupRefusesRow.holds Tryz.pinned (OpenSpec.ofChange lookupRefusesSpec)

/-- ITS FALSE NEIGHBOUR: 'it returns false'. Refute it at one input. -/
def lookupRefusesWrong : ChangeSpec := { name := "lookupRefuses", fn := fun _ => fun
  | [d1, d2, d3] => { results := [.lit (.bool false)], args := [d1, d2, d3] }
  | _ => none }
def LookupRefusesWrongFalsely : Prop := lookupRefusesRow.holds Tryz.pinned (OpenSpec.ofChange lookupRefusesWrong)

/-- 'analemmalaw40.TableChecks': WHATEVER THE INPUT: true; the input reads as it did. -/
def tableChecksSpec : ChangeSpec := { name := "tableChecks", fn := fun _ => fun
  | [d1, d2] => { results := [.lit (.bool true)], args := [d1, d2] }
  | _ => none }
def tableChecksRow : OpenClaim := { program := "ytlaplgaccjmbhaagreatdoor", sum := "a05ae6b9aef796c3bc78c1a2417431786851091bd51175f204a4a71b425b034b", func := "analemma/analemmalaw40.TableChecks", spec := "tableChecks", inPlace := ["internal/bytealg.IndexByteString", "internal/bytealg.IndexString", "internal/abi.NoEscape", "internal/bytealg.MakeNoZero"], unfollowed := true, recurses := true, named := ["unicode/utf8.first", "unicode/utf8.acceptRanges", "analemma/offset.units", "strconv.ErrSyntax", "strconv.ErrRange", "internal/strconv.uint64pow10", "math/bits.deBruijn32tab", "math/bits.deBruijn64tab", "analemma/civil.before", "analemma/dayform.kinds", "internal/bytealg.MaxLen"], plainKeys := false, apart := false, laid := [("math/bits.deBruijn32tab", laid_math_bits_deBruijn32tab), ("math/bits.deBruijn64tab", laid_math_bits_deBruijn64tab), ("internal/strconv.uint64pow10", laid_internal_strconv_uint64pow10), ("unicode/utf8.acceptRanges", laid_unicode_utf8_acceptRanges), ("strconv.ErrRange", laid_strconv_ErrRange), ("strconv.ErrSyntax", laid_strconv_ErrSyntax), ("analemma/civil.before", laid_analemma_civil_before), ("analemma/dayform.kinds", laid_analemma_dayform_kinds), ("analemma/offset.units", laid_analemma_offset_units), ("unicode/utf8.first", laid_unicode_utf8_first)] }
def TableChecksSaid : Prop := tableChecksRow.holds Tryz.pinned (OpenSpec.ofChange tableChecksSpec)

/-- ITS FALSE NEIGHBOUR: 'it returns false'. Refute it at one input. -/
def tableChecksWrong : ChangeSpec := { name := "tableChecks", fn := fun _ => fun
  | [d1, d2] => { results := [.lit (.bool false)], args := [d1, d2] }
  | _ => none }
def TableChecksWrongFalsely : Prop := tableChecksRow.holds Tryz.pinned (OpenSpec.ofChange tableChecksWrong)

/-- 'analemmalaw40.TableMakes': WHATEVER THE INPUT: true; the input reads as it did. -/
def tableMakesSpec : ChangeSpec := { name := "tableMakes", fn := fun _ => fun
  | [d1, d2, d3, d4] => { results := [.lit (.bool true)], args := [d1, d2, d3, d4] }
  | _ => none }
def tableMakesRow : OpenClaim := { program := "ytlaplgaccjmbhaagreatdoor", sum := "a05ae6b9aef796c3bc78c1a2417431786851091bd51175f204a4a71b425b034b", func := "analemma/analemmalaw40.TableMakes", spec := "tableMakes", inPlace := ["internal/bytealg.IndexByteString", "internal/bytealg.IndexString", "internal/abi.NoEscape", "internal/bytealg.MakeNoZero"], unfollowed := true, recurses := true, named := ["unicode/utf8.first", "unicode/utf8.acceptRanges", "analemma/offset.units", "strconv.ErrSyntax", "strconv.ErrRange", "internal/strconv.uint64pow10", "math/bits.deBruijn32tab", "math/bits.deBruijn64tab", "analemma/civil.before", "analemma/dayform.kinds", "internal/bytealg.MaxLen"], plainKeys := false, apart := false, laid := [("math/bits.deBruijn32tab", laid_math_bits_deBruijn32tab), ("math/bits.deBruijn64tab", laid_math_bits_deBruijn64tab), ("internal/strconv.uint64pow10", laid_internal_strconv_uint64pow10), ("unicode/utf8.acceptRanges", laid_unicode_utf8_acceptRanges), ("strconv.ErrRange", laid_strconv_ErrRange), ("strconv.ErrSyntax", laid_strconv_ErrSyntax), ("analemma/civil.before", laid_analemma_civil_before), ("analemma/dayform.kinds", laid_analemma_dayform_kinds), ("analemma/offset.units", laid_analemma_offset_units), ("unicode/utf8.first", laid_unicode_utf8_first)] }
def TableMakesSaid : Prop := tableMakesRow.holds Tryz.pinned (OpenSpec.ofChange tableMakesSpec)

/-- ITS FALSE NEIGHBOUR: 'it returns false'. Refute it at one input. -/
def tableMakesWrong : ChangeSpec := { name := "tableMakes", fn := fun _ => fun
  | [d1, d2, d3, d4] => { results := [.lit (.bool false)], args := [d1, d2, d3, d4] }
  | _ => none }
def TableMakesWrongFalsely : Prop := tableMakesRow.holds Tryz.pinned (OpenSpec.ofChange tableMakesWrong)

/-- 'analemmalaw40.TableRight': WHATEVER THE INPUT: true; the input reads as it did. -/
def tableRightSpec : ChangeSpec := { name := "tableRight", fn := fun _ => fun
  | [d] => { results := [.lit (.bool true)], args := [d] }
  | _ => none }
def tableRightRow : OpenClaim := { program := "ytlaplgaccjmbhaagreatdoor", sum := "a05ae6b9aef796c3bc78c1a2417431786851091bd51175f204a4a71b425b034b", func := "analemma/analemmalaw40.TableRight", spec := "tableRight", inPlace := ["internal/bytealg.IndexByteString", "internal/bytealg.IndexString", "internal/abi.NoEscape", "internal/bytealg.MakeNoZero"], unfollowed := true, recurses := true, named := ["unicode/utf8.first", "unicode/utf8.acceptRanges", "analemma/offset.units", "strconv.ErrSyntax", "strconv.ErrRange", "internal/strconv.uint64pow10", "math/bits.deBruijn32tab", "math/bits.deBruijn64tab", "analemma/civil.before", "analemma/dayform.kinds", "internal/bytealg.MaxLen"], plainKeys := false, apart := false, laid := [("math/bits.deBruijn32tab", laid_math_bits_deBruijn32tab), ("math/bits.deBruijn64tab", laid_math_bits_deBruijn64tab), ("internal/strconv.uint64pow10", laid_internal_strconv_uint64pow10), ("unicode/utf8.acceptRanges", laid_unicode_utf8_acceptRanges), ("strconv.ErrRange", laid_strconv_ErrRange), ("strconv.ErrSyntax", laid_strconv_ErrSyntax), ("analemma/civil.before", laid_analemma_civil_before), ("analemma/dayform.kinds", laid_analemma_dayform_kinds), ("analemma/offset.units", laid_analemma_offset_units), ("unicode/utf8.first", laid_unicode_utf8_first)] }
def TableRightSaid : Prop := tableRightRow.holds Tryz.pinned (OpenSpec.ofChange tableRightSpec)

/-- ITS FALSE NEIGHBOUR: 'it returns false'. Refute it at one input. -/
def tableRightWrong : ChangeSpec := { name := "tableRight", fn := fun _ => fun
  | [d] => { results := [.lit (.bool false)], args := [d] }
  | _ => none }
def TableRightWrongFalsely : Prop := tableRightRow.holds Tryz.pinned (OpenSpec.ofChange tableRightWrong)

/-- 'analemmalaw40.TableSpoilt': WHATEVER THE INPUT: true; the input reads as it did. -/
def tableSpoiltSpec : ChangeSpec := { name := "tableSpoilt", fn := fun _ => fun
  | [d1, d2, d3] => { results := [.lit (.bool true)], args := [d1, d2, d3] }
  | _ => none }
def tableSpoiltRow : OpenClaim := { program := "ytlaplgaccjmbhaagreatdoor", sum := "a05ae6b9aef796c3bc78c1a2417431786851091bd51175f204a4a71b425b034b", func := "analemma/analemmalaw40.TableSpoilt", spec := "tableSpoilt", inPlace := ["internal/bytealg.IndexByteString", "internal/bytealg.IndexString", "internal/abi.NoEscape", "internal/bytealg.MakeNoZero"], unfollowed := true, recurses := true, named := ["unicode/utf8.first", "unicode/utf8.acceptRanges", "analemma/offset.units", "strconv.ErrSyntax", "strconv.ErrRange", "internal/strconv.uint64pow10", "math/bits.deBruijn32tab", "math/bits.deBruijn64tab", "analemma/civil.before", "analemma/dayform.kinds", "internal/bytealg.MaxLen"], plainKeys := false, apart := false, laid := [("math/bits.deBruijn32tab", laid_math_bits_deBruijn32tab), ("math/bits.deBruijn64tab", laid_math_bits_deBruijn64tab), ("internal/strconv.uint64pow10", laid_internal_strconv_uint64pow10), ("unicode/utf8.acceptRanges", laid_unicode_utf8_acceptRanges), ("strconv.ErrRange", laid_strconv_ErrRange), ("strconv.ErrSyntax", laid_strconv_ErrSyntax), ("analemma/civil.before", laid_analemma_civil_before), ("analemma/dayform.kinds", laid_analemma_dayform_kinds), ("analemma/offset.units", laid_analemma_offset_units), ("unicode/utf8.first", laid_unicode_utf8_first)] }
def TableSpoiltSaid : Prop := tableSpoiltRow.holds Tryz.pinned (OpenSpec.ofChange tableSpoiltSpec)

/-- ITS FALSE NEIGHBOUR: 'it returns false'. Refute it at one input. -/
def tableSpoiltWrong : ChangeSpec := { name := "tableSpoilt", fn := fun _ => fun
  | [d1, d2, d3] => { results := [.lit (.bool false)], args := [d1, d2, d3] }
  | _ => none }
def TableSpoiltWrongFalsely : Prop := tableSpoiltRow.holds Tryz.pinned (OpenSpec.ofChange tableSpoiltWrong)

/-- 'analemmalaw40.TableMany': WHATEVER THE INPUT: true; the input reads as it did. -/
def tableManySpec : ChangeSpec := { name := "tableMany", fn := fun _ => fun
  | [d1, d2] => { results := [.lit (.bool true)], args := [d1, d2] }
  | _ => none }
def tableManyRow : OpenClaim := { program := "ytlaplgaccjmbhaagreatdoor", sum := "a05ae6b9aef796c3bc78c1a2417431786851091bd51175f204a4a71b425b034b", func := "analemma/analemmalaw40.TableMany", spec := "tableMany", inPlace := ["internal/bytealg.IndexByteString", "internal/bytealg.IndexString", "internal/abi.NoEscape", "internal/bytealg.MakeNoZero"], unfollowed := true, recurses := true, named := ["unicode/utf8.first", "unicode/utf8.acceptRanges", "analemma/offset.units", "strconv.ErrSyntax", "strconv.ErrRange", "internal/strconv.uint64pow10", "math/bits.deBruijn32tab", "math/bits.deBruijn64tab", "analemma/civil.before", "analemma/dayform.kinds", "internal/bytealg.MaxLen"], plainKeys := false, apart := false, laid := [("math/bits.deBruijn32tab", laid_math_bits_deBruijn32tab), ("math/bits.deBruijn64tab", laid_math_bits_deBruijn64tab), ("internal/strconv.uint64pow10", laid_internal_strconv_uint64pow10), ("unicode/utf8.acceptRanges", laid_unicode_utf8_acceptRanges), ("strconv.ErrRange", laid_strconv_ErrRange), ("strconv.ErrSyntax", laid_strconv_ErrSyntax), ("analemma/civil.before", laid_analemma_civil_before), ("analemma/dayform.kinds", laid_analemma_dayform_kinds), ("analemma/offset.units", laid_analemma_offset_units), ("unicode/utf8.first", laid_unicode_utf8_first)] }
def TableManySaid : Prop := tableManyRow.holds Tryz.pinned (OpenSpec.ofChange tableManySpec)

/-- ITS FALSE NEIGHBOUR: 'it returns false'. Refute it at one input. -/
def tableManyWrong : ChangeSpec := { name := "tableMany", fn := fun _ => fun
  | [d1, d2] => { results := [.lit (.bool false)], args := [d1, d2] }
  | _ => none }
def TableManyWrongFalsely : Prop := tableManyRow.holds Tryz.pinned (OpenSpec.ofChange tableManyWrong)

/-- 'analemmalaw40.TableLines': WHATEVER THE INPUT: true; the input reads as it did. -/
def tableLinesSpec : ChangeSpec := { name := "tableLines", fn := fun _ => fun
  | [d1, d2] => { results := [.lit (.bool true)], args := [d1, d2] }
  | _ => none }
def tableLinesRow : OpenClaim := { program := "ytlaplgaccjmbhaagreatdoor", sum := "a05ae6b9aef796c3bc78c1a2417431786851091bd51175f204a4a71b425b034b", func := "analemma/analemmalaw40.TableLines", spec := "tableLines", inPlace := ["internal/bytealg.IndexByteString", "internal/bytealg.IndexString", "internal/abi.NoEscape", "internal/bytealg.MakeNoZero", "internal/bytealg.CountString"], unfollowed := true, recurses := true, named := ["unicode/utf8.first", "unicode/utf8.acceptRanges", "analemma/offset.units", "strconv.ErrSyntax", "strconv.ErrRange", "internal/strconv.uint64pow10", "math/bits.deBruijn32tab", "math/bits.deBruijn64tab", "analemma/civil.before", "analemma/dayform.kinds", "internal/bytealg.MaxLen"], plainKeys := false, apart := false, laid := [("math/bits.deBruijn32tab", laid_math_bits_deBruijn32tab), ("math/bits.deBruijn64tab", laid_math_bits_deBruijn64tab), ("internal/strconv.uint64pow10", laid_internal_strconv_uint64pow10), ("unicode/utf8.acceptRanges", laid_unicode_utf8_acceptRanges), ("strconv.ErrRange", laid_strconv_ErrRange), ("strconv.ErrSyntax", laid_strconv_ErrSyntax), ("analemma/civil.before", laid_analemma_civil_before), ("analemma/dayform.kinds", laid_analemma_dayform_kinds), ("analemma/offset.units", laid_analemma_offset_units), ("unicode/utf8.first", laid_unicode_utf8_first)] }
def TableLinesSaid : Prop := tableLinesRow.holds Tryz.pinned (OpenSpec.ofChange tableLinesSpec)

/-- ITS FALSE NEIGHBOUR: 'it returns false'. Refute it at one input. -/
def tableLinesWrong : ChangeSpec := { name := "tableLines", fn := fun _ => fun
  | [d1, d2] => { results := [.lit (.bool false)], args := [d1, d2] }
  | _ => none }
def TableLinesWrongFalsely : Prop := tableLinesRow.holds Tryz.pinned (OpenSpec.ofChange tableLinesWrong)

/-- 'analemmalaw40.TableFooters': WHATEVER THE INPUT: true; the input reads as it did. -/
def tableFootersSpec : ChangeSpec := { name := "tableFooters", fn := fun _ => fun
  | [d1, d2, d3, d4] => { results := [.lit (.bool true)], args := [d1, d2, d3, d4] }
  | _ => none }
def tableFootersRow : OpenClaim := { program := "ytlaplgaccjmbhaagreatdoor", sum := "a05ae6b9aef796c3bc78c1a2417431786851091bd51175f204a4a71b425b034b", func := "analemma/analemmalaw40.TableFooters", spec := "tableFooters", inPlace := ["internal/bytealg.CountString", "internal/bytealg.IndexByteString", "internal/bytealg.IndexString", "internal/abi.NoEscape", "internal/bytealg.MakeNoZero"], unfollowed := true, recurses := true, named := ["internal/bytealg.MaxLen", "unicode/utf8.first", "unicode/utf8.acceptRanges", "internal/strconv.uint64pow10", "math/bits.deBruijn32tab", "math/bits.deBruijn64tab", "analemma/civil.before", "analemma/dayform.kinds", "analemma/offset.units", "strconv.ErrSyntax", "strconv.ErrRange"], plainKeys := false, apart := false, laid := [("math/bits.deBruijn32tab", laid_math_bits_deBruijn32tab), ("math/bits.deBruijn64tab", laid_math_bits_deBruijn64tab), ("internal/strconv.uint64pow10", laid_internal_strconv_uint64pow10), ("unicode/utf8.acceptRanges", laid_unicode_utf8_acceptRanges), ("strconv.ErrRange", laid_strconv_ErrRange), ("strconv.ErrSyntax", laid_strconv_ErrSyntax), ("analemma/civil.before", laid_analemma_civil_before), ("analemma/dayform.kinds", laid_analemma_dayform_kinds), ("analemma/offset.units", laid_analemma_offset_units), ("unicode/utf8.first", laid_unicode_utf8_first)] }
def TableFootersSaid : Prop := tableFootersRow.holds Tryz.pinned (OpenSpec.ofChange tableFootersSpec)

/-- ITS FALSE NEIGHBOUR: 'it returns false'. Refute it at one input. -/
def tableFootersWrong : ChangeSpec := { name := "tableFooters", fn := fun _ => fun
  | [d1, d2, d3, d4] => { results := [.lit (.bool false)], args := [d1, d2, d3, d4] }
  | _ => none }
def TableFootersWrongFalsely : Prop := tableFootersRow.holds Tryz.pinned (OpenSpec.ofChange tableFootersWrong)

/- THE SECOND FORM. 'bulk': how many values and letters a reading holds, each counted each time it is reached (what is shared counts as often as it is met; a slice's spare places count too). A statement '..UptoSaid' is the law's where the arguments, and the package variables that the reading takes, are together of bulk at most 1048576: NARROWER than '..Said'. Prove '..Said' where nothing that the law and all that it calls make is longer than what came in: it says more and counts as full. Else prove '..UptoSaid'. A law counts once. -/
mutual
def uptoBulk {H : Type} : DataW H → Nat
  | .lit (.string bytes) => bytes.length + 1
  | .lit _ => 1
  | .nil => 1
  | .ptr d => uptoBulk d + 1
  | .slice elems spare => uptoBulkAll elems + uptoBulkAll spare + 1
  | .agg parts => uptoBulkAll parts + 1
  | .iface _ d => uptoBulk d + 1
  | .map entries => uptoBulkEntries entries + 1
  | .held _ => 1
def uptoBulkAll {H : Type} : List (DataW H) → Nat
  | [] => 0
  | d :: r => uptoBulk d + uptoBulkAll r
def uptoBulkEntries {H : Type} : List (Lit × DataW H) → Nat
  | [] => 0
  | x :: r => uptoBulkEntry x + uptoBulkEntries r
def uptoBulkEntry {H : Type} : Lit × DataW H → Nat
  | (.string bytes, d) => bytes.length + uptoBulk d + 1
  | (_, d) => uptoBulk d + 1
 end
def uptoSmall : (H : Type) → List (DataW H) → Bool := fun _ ds => decide (uptoBulkAll ds ≤ 1048576)
def OpenSpec.upto (s : _root_.Go.ChangeSpec) : _root_.Go.OpenSpec := { _root_.Go.OpenSpec.ofChange s with cond := some uptoSmall }

/-- 'analemmalaw45.LookupTables', WHERE WHAT IT READS IS OF BULK AT MOST 1048576: true; the input reads as it did. -/
def lookupTablesUptoRow : OpenClaim := { program := "ytlaplgaccjmbhaagreatdoor", sum := "a05ae6b9aef796c3bc78c1a2417431786851091bd51175f204a4a71b425b034b", func := "analemma/analemmalaw45.LookupTables", spec := "lookupTables", inPlace := ["internal/bytealg.IndexByteString", "internal/bytealg.IndexString"], unfollowed := true, recurses := true, named := ["unicode/utf8.first", "unicode/utf8.acceptRanges", "analemma/offset.units", "strconv.ErrSyntax", "strconv.ErrRange", "internal/strconv.uint64pow10", "math/bits.deBruijn32tab", "math/bits.deBruijn64tab", "analemma/civil.before", "analemma/dayform.kinds", "internal/bytealg.MaxLen"], plainKeys := false, apart := false, laid := [("math/bits.deBruijn32tab", laid_math_bits_deBruijn32tab), ("math/bits.deBruijn64tab", laid_math_bits_deBruijn64tab), ("internal/strconv.uint64pow10", laid_internal_strconv_uint64pow10), ("unicode/utf8.acceptRanges", laid_unicode_utf8_acceptRanges), ("strconv.ErrRange", laid_strconv_ErrRange), ("strconv.ErrSyntax", laid_strconv_ErrSyntax), ("analemma/civil.before", laid_analemma_civil_before), ("analemma/dayform.kinds", laid_analemma_dayform_kinds), ("analemma/offset.units", laid_analemma_offset_units), ("unicode/utf8.first", laid_unicode_utf8_first)], narrowed := true }
def LookupTablesUptoSaid : Prop := lookupTablesUptoRow.holds Tryz.pinned (OpenSpec.upto lookupTablesSpec)

/-- 'analemmalaw45.LookupSteps', WHERE WHAT IT READS IS OF BULK AT MOST 1048576: true; the input reads as it did. -/
def lookupStepsUptoRow : OpenClaim := { program := "ytlaplgaccjmbhaagreatdoor", sum := "a05ae6b9aef796c3bc78c1a2417431786851091bd51175f204a4a71b425b034b", func := "analemma/analemmalaw45.LookupSteps", spec := "lookupSteps", inPlace := ["internal/bytealg.IndexByteString", "internal/bytealg.IndexString"], unfollowed := true, recurses := true, named := ["unicode/utf8.first", "unicode/utf8.acceptRanges", "internal/strconv.uint64pow10", "math/bits.deBruijn32tab", "math/bits.deBruijn64tab", "analemma/civil.before", "analemma/dayform.kinds", "analemma/offset.units", "strconv.ErrSyntax", "strconv.ErrRange", "internal/bytealg.MaxLen"], plainKeys := false, apart := false, laid := [("math/bits.deBruijn32tab", laid_math_bits_deBruijn32tab), ("math/bits.deBruijn64tab", laid_math_bits_deBruijn64tab), ("internal/strconv.uint64pow10", laid_internal_strconv_uint64pow10), ("unicode/utf8.acceptRanges", laid_unicode_utf8_acceptRanges), ("strconv.ErrRange", laid_strconv_ErrRange), ("strconv.ErrSyntax", laid_strconv_ErrSyntax), ("analemma/civil.before", laid_analemma_civil_before), ("analemma/dayform.kinds", laid_analemma_dayform_kinds), ("analemma/offset.units", laid_analemma_offset_units), ("unicode/utf8.first", laid_unicode_utf8_first)], narrowed := true }
def LookupStepsUptoSaid : Prop := lookupStepsUptoRow.holds Tryz.pinned (OpenSpec.upto lookupStepsSpec)

/-- 'analemmalaw45.LookupIndexes', WHERE WHAT IT READS IS OF BULK AT MOST 1048576: true; the input reads as it did. -/
def lookupIndexesUptoRow : OpenClaim := { program := "ytlaplgaccjmbhaagreatdoor", sum := "a05ae6b9aef796c3bc78c1a2417431786851091bd51175f204a4a71b425b034b", func := "analemma/analemmalaw45.LookupIndexes", spec := "lookupIndexes", inPlace := ["internal/bytealg.IndexByteString", "internal/bytealg.IndexString"], unfollowed := true, recurses := true, named := ["unicode/utf8.first", "unicode/utf8.acceptRanges", "internal/strconv.uint64pow10", "math/bits.deBruijn32tab", "math/bits.deBruijn64tab", "analemma/civil.before", "analemma/dayform.kinds", "analemma/offset.units", "strconv.ErrSyntax", "strconv.ErrRange", "internal/bytealg.MaxLen"], plainKeys := false, apart := false, laid := [("math/bits.deBruijn32tab", laid_math_bits_deBruijn32tab), ("math/bits.deBruijn64tab", laid_math_bits_deBruijn64tab), ("internal/strconv.uint64pow10", laid_internal_strconv_uint64pow10), ("unicode/utf8.acceptRanges", laid_unicode_utf8_acceptRanges), ("strconv.ErrRange", laid_strconv_ErrRange), ("strconv.ErrSyntax", laid_strconv_ErrSyntax), ("analemma/civil.before", laid_analemma_civil_before), ("analemma/dayform.kinds", laid_analemma_dayform_kinds), ("analemma/offset.units", laid_analemma_offset_units), ("unicode/utf8.first", laid_unicode_utf8_first)], narrowed := true }
def LookupIndexesUptoSaid : Prop := lookupIndexesUptoRow.holds Tryz.pinned (OpenSpec.upto lookupIndexesSpec)

/-- 'analemmalaw45.LookupFooter', WHERE WHAT IT READS IS OF BULK AT MOST 1048576: true; the input reads as it did. -/
def lookupFooterUptoRow : OpenClaim := { program := "ytlaplgaccjmbhaagreatdoor", sum := "a05ae6b9aef796c3bc78c1a2417431786851091bd51175f204a4a71b425b034b", func := "analemma/analemmalaw45.LookupFooter", spec := "lookupFooter", inPlace := ["internal/bytealg.IndexByteString", "internal/bytealg.IndexString"], unfollowed := true, recurses := true, named := ["unicode/utf8.first", "unicode/utf8.acceptRanges", "internal/strconv.uint64pow10", "math/bits.deBruijn32tab", "math/bits.deBruijn64tab", "analemma/civil.before", "analemma/dayform.kinds", "analemma/offset.units", "strconv.ErrSyntax", "strconv.ErrRange", "internal/bytealg.MaxLen"], plainKeys := false, apart := false, laid := [("math/bits.deBruijn32tab", laid_math_bits_deBruijn32tab), ("math/bits.deBruijn64tab", laid_math_bits_deBruijn64tab), ("internal/strconv.uint64pow10", laid_internal_strconv_uint64pow10), ("unicode/utf8.acceptRanges", laid_unicode_utf8_acceptRanges), ("strconv.ErrRange", laid_strconv_ErrRange), ("strconv.ErrSyntax", laid_strconv_ErrSyntax), ("analemma/civil.before", laid_analemma_civil_before), ("analemma/dayform.kinds", laid_analemma_dayform_kinds), ("analemma/offset.units", laid_analemma_offset_units), ("unicode/utf8.first", laid_unicode_utf8_first)], narrowed := true }
def LookupFooterUptoSaid : Prop := lookupFooterUptoRow.holds Tryz.pinned (OpenSpec.upto lookupFooterSpec)

/-- 'analemmalaw45.LookupRefuses', WHERE WHAT IT READS IS OF BULK AT MOST 1048576: true; the input reads as it did. -/
def lookupRefusesUptoRow : OpenClaim := { program := "ytlaplgaccjmbhaagreatdoor", sum := "a05ae6b9aef796c3bc78c1a2417431786851091bd51175f204a4a71b425b034b", func := "analemma/analemmalaw45.LookupRefuses", spec := "lookupRefuses", inPlace := ["internal/bytealg.IndexByteString", "internal/bytealg.IndexString"], unfollowed := true, recurses := true, named := ["unicode/utf8.first", "unicode/utf8.acceptRanges", "internal/strconv.uint64pow10", "math/bits.deBruijn32tab", "math/bits.deBruijn64tab", "analemma/civil.before", "analemma/dayform.kinds", "analemma/offset.units", "strconv.ErrSyntax", "strconv.ErrRange", "internal/bytealg.MaxLen"], plainKeys := false, apart := false, laid := [("math/bits.deBruijn32tab", laid_math_bits_deBruijn32tab), ("math/bits.deBruijn64tab", laid_math_bits_deBruijn64tab), ("internal/strconv.uint64pow10", laid_internal_strconv_uint64pow10), ("unicode/utf8.acceptRanges", laid_unicode_utf8_acceptRanges), ("strconv.ErrRange", laid_strconv_ErrRange), ("strconv.ErrSyntax", laid_strconv_ErrSyntax), ("analemma/civil.before", laid_analemma_civil_before), ("analemma/dayform.kinds", laid_analemma_dayform_kinds), ("analemma/offset.units", laid_analemma_offset_units), ("unicode/utf8.first", laid_unicode_utf8_first)], narrowed := true }
def LookupRefusesUptoSaid : Prop := lookupRefusesUptoRow.holds Tryz.pinned (OpenSpec.upto lookupRefusesSpec)

/-- 'analemmalaw40.TableChecks', WHERE WHAT IT READS IS OF BULK AT MOST 1048576: true; the input reads as it did. -/
def tableChecksUptoRow : OpenClaim := { program := "ytlaplgaccjmbhaagreatdoor", sum := "a05ae6b9aef796c3bc78c1a2417431786851091bd51175f204a4a71b425b034b", func := "analemma/analemmalaw40.TableChecks", spec := "tableChecks", inPlace := ["internal/bytealg.IndexByteString", "internal/bytealg.IndexString", "internal/abi.NoEscape", "internal/bytealg.MakeNoZero"], unfollowed := true, recurses := true, named := ["unicode/utf8.first", "unicode/utf8.acceptRanges", "analemma/offset.units", "strconv.ErrSyntax", "strconv.ErrRange", "internal/strconv.uint64pow10", "math/bits.deBruijn32tab", "math/bits.deBruijn64tab", "analemma/civil.before", "analemma/dayform.kinds", "internal/bytealg.MaxLen"], plainKeys := false, apart := false, laid := [("math/bits.deBruijn32tab", laid_math_bits_deBruijn32tab), ("math/bits.deBruijn64tab", laid_math_bits_deBruijn64tab), ("internal/strconv.uint64pow10", laid_internal_strconv_uint64pow10), ("unicode/utf8.acceptRanges", laid_unicode_utf8_acceptRanges), ("strconv.ErrRange", laid_strconv_ErrRange), ("strconv.ErrSyntax", laid_strconv_ErrSyntax), ("analemma/civil.before", laid_analemma_civil_before), ("analemma/dayform.kinds", laid_analemma_dayform_kinds), ("analemma/offset.units", laid_analemma_offset_units), ("unicode/utf8.first", laid_unicode_utf8_first)], narrowed := true }
def TableChecksUptoSaid : Prop := tableChecksUptoRow.holds Tryz.pinned (OpenSpec.upto tableChecksSpec)

/-- 'analemmalaw40.TableMakes', WHERE WHAT IT READS IS OF BULK AT MOST 1048576: true; the input reads as it did. -/
def tableMakesUptoRow : OpenClaim := { program := "ytlaplgaccjmbhaagreatdoor", sum := "a05ae6b9aef796c3bc78c1a2417431786851091bd51175f204a4a71b425b034b", func := "analemma/analemmalaw40.TableMakes", spec := "tableMakes", inPlace := ["internal/bytealg.IndexByteString", "internal/bytealg.IndexString", "internal/abi.NoEscape", "internal/bytealg.MakeNoZero"], unfollowed := true, recurses := true, named := ["unicode/utf8.first", "unicode/utf8.acceptRanges", "analemma/offset.units", "strconv.ErrSyntax", "strconv.ErrRange", "internal/strconv.uint64pow10", "math/bits.deBruijn32tab", "math/bits.deBruijn64tab", "analemma/civil.before", "analemma/dayform.kinds", "internal/bytealg.MaxLen"], plainKeys := false, apart := false, laid := [("math/bits.deBruijn32tab", laid_math_bits_deBruijn32tab), ("math/bits.deBruijn64tab", laid_math_bits_deBruijn64tab), ("internal/strconv.uint64pow10", laid_internal_strconv_uint64pow10), ("unicode/utf8.acceptRanges", laid_unicode_utf8_acceptRanges), ("strconv.ErrRange", laid_strconv_ErrRange), ("strconv.ErrSyntax", laid_strconv_ErrSyntax), ("analemma/civil.before", laid_analemma_civil_before), ("analemma/dayform.kinds", laid_analemma_dayform_kinds), ("analemma/offset.units", laid_analemma_offset_units), ("unicode/utf8.first", laid_unicode_utf8_first)], narrowed := true }
def TableMakesUptoSaid : Prop := tableMakesUptoRow.holds Tryz.pinned (OpenSpec.upto tableMakesSpec)

/-- 'analemmalaw40.TableRight', WHERE WHAT IT READS IS OF BULK AT MOST 1048576: true; the input reads as it did. -/
def tableRightUptoRow : OpenClaim := { program := "ytlaplgaccjmbhaagreatdoor", sum := "a05ae6b9aef796c3bc78c1a2417431786851091bd51175f204a4a71b425b034b", func := "analemma/analemmalaw40.TableRight", spec := "tableRight", inPlace := ["internal/bytealg.IndexByteString", "internal/bytealg.IndexString", "internal/abi.NoEscape", "internal/bytealg.MakeNoZero"], unfollowed := true, recurses := true, named := ["unicode/utf8.first", "unicode/utf8.acceptRanges", "analemma/offset.units", "strconv.ErrSyntax", "strconv.ErrRange", "internal/strconv.uint64pow10", "math/bits.deBruijn32tab", "math/bits.deBruijn64tab", "analemma/civil.before", "analemma/dayform.kinds", "internal/bytealg.MaxLen"], plainKeys := false, apart := false, laid := [("math/bits.deBruijn32tab", laid_math_bits_deBruijn32tab), ("math/bits.deBruijn64tab", laid_math_bits_deBruijn64tab), ("internal/strconv.uint64pow10", laid_internal_strconv_uint64pow10), ("unicode/utf8.acceptRanges", laid_unicode_utf8_acceptRanges), ("strconv.ErrRange", laid_strconv_ErrRange), ("strconv.ErrSyntax", laid_strconv_ErrSyntax), ("analemma/civil.before", laid_analemma_civil_before), ("analemma/dayform.kinds", laid_analemma_dayform_kinds), ("analemma/offset.units", laid_analemma_offset_units), ("unicode/utf8.first", laid_unicode_utf8_first)], narrowed := true }
def TableRightUptoSaid : Prop := tableRightUptoRow.holds Tryz.pinned (OpenSpec.upto tableRightSpec)

/-- 'analemmalaw40.TableSpoilt', WHERE WHAT IT READS IS OF BULK AT MOST 1048576: true; the input reads as it did. -/
def tableSpoiltUptoRow : OpenClaim := { program := "ytlaplgaccjmbhaagreatdoor", sum := "a05ae6b9aef796c3bc78c1a2417431786851091bd51175f204a4a71b425b034b", func := "analemma/analemmalaw40.TableSpoilt", spec := "tableSpoilt", inPlace := ["internal/bytealg.IndexByteString", "internal/bytealg.IndexString", "internal/abi.NoEscape", "internal/bytealg.MakeNoZero"], unfollowed := true, recurses := true, named := ["unicode/utf8.first", "unicode/utf8.acceptRanges", "analemma/offset.units", "strconv.ErrSyntax", "strconv.ErrRange", "internal/strconv.uint64pow10", "math/bits.deBruijn32tab", "math/bits.deBruijn64tab", "analemma/civil.before", "analemma/dayform.kinds", "internal/bytealg.MaxLen"], plainKeys := false, apart := false, laid := [("math/bits.deBruijn32tab", laid_math_bits_deBruijn32tab), ("math/bits.deBruijn64tab", laid_math_bits_deBruijn64tab), ("internal/strconv.uint64pow10", laid_internal_strconv_uint64pow10), ("unicode/utf8.acceptRanges", laid_unicode_utf8_acceptRanges), ("strconv.ErrRange", laid_strconv_ErrRange), ("strconv.ErrSyntax", laid_strconv_ErrSyntax), ("analemma/civil.before", laid_analemma_civil_before), ("analemma/dayform.kinds", laid_analemma_dayform_kinds), ("analemma/offset.units", laid_analemma_offset_units), ("unicode/utf8.first", laid_unicode_utf8_first)], narrowed := true }
def TableSpoiltUptoSaid : Prop := tableSpoiltUptoRow.holds Tryz.pinned (OpenSpec.upto tableSpoiltSpec)

/-- 'analemmalaw40.TableMany', WHERE WHAT IT READS IS OF BULK AT MOST 1048576: true; the input reads as it did. -/
def tableManyUptoRow : OpenClaim := { program := "ytlaplgaccjmbhaagreatdoor", sum := "a05ae6b9aef796c3bc78c1a2417431786851091bd51175f204a4a71b425b034b", func := "analemma/analemmalaw40.TableMany", spec := "tableMany", inPlace := ["internal/bytealg.IndexByteString", "internal/bytealg.IndexString", "internal/abi.NoEscape", "internal/bytealg.MakeNoZero"], unfollowed := true, recurses := true, named := ["unicode/utf8.first", "unicode/utf8.acceptRanges", "analemma/offset.units", "strconv.ErrSyntax", "strconv.ErrRange", "internal/strconv.uint64pow10", "math/bits.deBruijn32tab", "math/bits.deBruijn64tab", "analemma/civil.before", "analemma/dayform.kinds", "internal/bytealg.MaxLen"], plainKeys := false, apart := false, laid := [("math/bits.deBruijn32tab", laid_math_bits_deBruijn32tab), ("math/bits.deBruijn64tab", laid_math_bits_deBruijn64tab), ("internal/strconv.uint64pow10", laid_internal_strconv_uint64pow10), ("unicode/utf8.acceptRanges", laid_unicode_utf8_acceptRanges), ("strconv.ErrRange", laid_strconv_ErrRange), ("strconv.ErrSyntax", laid_strconv_ErrSyntax), ("analemma/civil.before", laid_analemma_civil_before), ("analemma/dayform.kinds", laid_analemma_dayform_kinds), ("analemma/offset.units", laid_analemma_offset_units), ("unicode/utf8.first", laid_unicode_utf8_first)], narrowed := true }
def TableManyUptoSaid : Prop := tableManyUptoRow.holds Tryz.pinned (OpenSpec.upto tableManySpec)

/-- 'analemmalaw40.TableLines', WHERE WHAT IT READS IS OF BULK AT MOST 1048576: true; the input reads as it did. -/
def tableLinesUptoRow : OpenClaim := { program := "ytlaplgaccjmbhaagreatdoor", sum := "a05ae6b9aef796c3bc78c1a2417431786851091bd51175f204a4a71b425b034b", func := "analemma/analemmalaw40.TableLines", spec := "tableLines", inPlace := ["internal/bytealg.IndexByteString", "internal/bytealg.IndexString", "internal/abi.NoEscape", "internal/bytealg.MakeNoZero", "internal/bytealg.CountString"], unfollowed := true, recurses := true, named := ["unicode/utf8.first", "unicode/utf8.acceptRanges", "analemma/offset.units", "strconv.ErrSyntax", "strconv.ErrRange", "internal/strconv.uint64pow10", "math/bits.deBruijn32tab", "math/bits.deBruijn64tab", "analemma/civil.before", "analemma/dayform.kinds", "internal/bytealg.MaxLen"], plainKeys := false, apart := false, laid := [("math/bits.deBruijn32tab", laid_math_bits_deBruijn32tab), ("math/bits.deBruijn64tab", laid_math_bits_deBruijn64tab), ("internal/strconv.uint64pow10", laid_internal_strconv_uint64pow10), ("unicode/utf8.acceptRanges", laid_unicode_utf8_acceptRanges), ("strconv.ErrRange", laid_strconv_ErrRange), ("strconv.ErrSyntax", laid_strconv_ErrSyntax), ("analemma/civil.before", laid_analemma_civil_before), ("analemma/dayform.kinds", laid_analemma_dayform_kinds), ("analemma/offset.units", laid_analemma_offset_units), ("unicode/utf8.first", laid_unicode_utf8_first)], narrowed := true }
def TableLinesUptoSaid : Prop := tableLinesUptoRow.holds Tryz.pinned (OpenSpec.upto tableLinesSpec)

/-- 'analemmalaw40.TableFooters', WHERE WHAT IT READS IS OF BULK AT MOST 1048576: true; the input reads as it did. -/
def tableFootersUptoRow : OpenClaim := { program := "ytlaplgaccjmbhaagreatdoor", sum := "a05ae6b9aef796c3bc78c1a2417431786851091bd51175f204a4a71b425b034b", func := "analemma/analemmalaw40.TableFooters", spec := "tableFooters", inPlace := ["internal/bytealg.CountString", "internal/bytealg.IndexByteString", "internal/bytealg.IndexString", "internal/abi.NoEscape", "internal/bytealg.MakeNoZero"], unfollowed := true, recurses := true, named := ["internal/bytealg.MaxLen", "unicode/utf8.first", "unicode/utf8.acceptRanges", "internal/strconv.uint64pow10", "math/bits.deBruijn32tab", "math/bits.deBruijn64tab", "analemma/civil.before", "analemma/dayform.kinds", "analemma/offset.units", "strconv.ErrSyntax", "strconv.ErrRange"], plainKeys := false, apart := false, laid := [("math/bits.deBruijn32tab", laid_math_bits_deBruijn32tab), ("math/bits.deBruijn64tab", laid_math_bits_deBruijn64tab), ("internal/strconv.uint64pow10", laid_internal_strconv_uint64pow10), ("unicode/utf8.acceptRanges", laid_unicode_utf8_acceptRanges), ("strconv.ErrRange", laid_strconv_ErrRange), ("strconv.ErrSyntax", laid_strconv_ErrSyntax), ("analemma/civil.before", laid_analemma_civil_before), ("analemma/dayform.kinds", laid_analemma_dayform_kinds), ("analemma/offset.units", laid_analemma_offset_units), ("unicode/utf8.first", laid_unicode_utf8_first)], narrowed := true }
def TableFootersUptoSaid : Prop := tableFootersUptoRow.holds Tryz.pinned (OpenSpec.upto tableFootersSpec)

end Rows
end Go.Proofs.YtlaplgaccjmbhaaGreatDoor
