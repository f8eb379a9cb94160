/-
  NARROWER THAN 'FOR EVERY INPUT', by the rows' own cells (each row's printed sentence says how): WashSeasons: laid · WashGains: laid · WashPlans: laid · WashTables: laid · WashWays: laid · WashRounds: laid · WashParts: laid · WashStrings: laid · WashSoils: laid · WashBest: laid · WashCrews: laid · WashBack: laid.
  DERIVED. THE GIVEN ROWS OF THIS SEAT. 12 by the template 'for every input the law returns true; each argument reads behind the call as it read before'; 0 by the template 'total and deterministic' (their statements: YtcgajpaohlggpaaGreatDoorTotals.lean).
  GIVEN WITH THE SEED: the statements are not yours to turn. If you find one false, say at which input.
  Laid BY PROGRAM, IN A SANDBOX (cutbox-rows.mjs): the forced cells as the released guide's own fill.sh prints them over the translation 861f307d0f4588ec… (all of the seat's roots in one cut). By AI agents, Wed Nov 11 2026. No macro, syntax, notation, axiom, sorry.
-/
import Derived.Test.YtcgajpaohlggpaaGreatDoorChecked
import GoSem.PinnedTables
import GoSem.Claim
import GoSem.ClaimJoined
import GoSem.ClaimMapViews
import Derived.JoinedTies
import Derived.KernelRfl
namespace Go.Proofs.YtcgajpaohlggpaaGreatDoor
/- THE CELL 'sum', in the pinned program and in every row, IS THE sha256 OF THE DUMP (.gsa) THAT YtcgajpaohlggpaaGreatDoorProg.lean LOADS. Nothing in Lean hashes anything: it is a label: what it is worth is what the hold of that sum in a sandbox is worth. -/
noncomputable def Tryz.pinned : Pinned := { name := "ytcgajpaohlggpaagreatdoor", sum := "861f307d0f4588ec3b368ec117a213196cfbe9d7c78dfb24af6b2ee6cff6a125", checked := Tryz.checked }
namespace Rows
def none {H : Type} : Left H := { results := [], args := [] }

/- WHAT THE LISTED PACKAGE-LEVEL VARIABLES READ AS WHEN THE CALL BEGINS. Each datum BY PROGRAM (the guide's laid-datum.mjs) off the statement by which the dump's own 'gosem.cut.vars' lays the variable. In a bare row this is a premise. The card (YtcgajpaohlggpaaGreatDoorCards.lean) ties it to the program's text. -/
def laid_math_bits_deBruijn32tab {H : Type} : DataW H := .agg [.lit (.int .u8 0), .lit (.int .u8 1), .lit (.int .u8 28), .lit (.int .u8 2), .lit (.int .u8 29), .lit (.int .u8 14), .lit (.int .u8 24), .lit (.int .u8 3), .lit (.int .u8 30), .lit (.int .u8 22), .lit (.int .u8 20), .lit (.int .u8 15), .lit (.int .u8 25), .lit (.int .u8 17), .lit (.int .u8 4), .lit (.int .u8 8), .lit (.int .u8 31), .lit (.int .u8 27), .lit (.int .u8 13), .lit (.int .u8 23), .lit (.int .u8 21), .lit (.int .u8 19), .lit (.int .u8 16), .lit (.int .u8 7), .lit (.int .u8 26), .lit (.int .u8 12), .lit (.int .u8 18), .lit (.int .u8 6), .lit (.int .u8 11), .lit (.int .u8 5), .lit (.int .u8 10), .lit (.int .u8 9)]
def laid_math_bits_deBruijn64tab {H : Type} : DataW H := .agg [.lit (.int .u8 0), .lit (.int .u8 1), .lit (.int .u8 56), .lit (.int .u8 2), .lit (.int .u8 57), .lit (.int .u8 49), .lit (.int .u8 28), .lit (.int .u8 3), .lit (.int .u8 61), .lit (.int .u8 58), .lit (.int .u8 42), .lit (.int .u8 50), .lit (.int .u8 38), .lit (.int .u8 29), .lit (.int .u8 17), .lit (.int .u8 4), .lit (.int .u8 62), .lit (.int .u8 47), .lit (.int .u8 59), .lit (.int .u8 36), .lit (.int .u8 45), .lit (.int .u8 43), .lit (.int .u8 51), .lit (.int .u8 22), .lit (.int .u8 53), .lit (.int .u8 39), .lit (.int .u8 33), .lit (.int .u8 30), .lit (.int .u8 24), .lit (.int .u8 18), .lit (.int .u8 12), .lit (.int .u8 5), .lit (.int .u8 63), .lit (.int .u8 55), .lit (.int .u8 48), .lit (.int .u8 27), .lit (.int .u8 60), .lit (.int .u8 41), .lit (.int .u8 37), .lit (.int .u8 16), .lit (.int .u8 46), .lit (.int .u8 35), .lit (.int .u8 44), .lit (.int .u8 21), .lit (.int .u8 52), .lit (.int .u8 32), .lit (.int .u8 23), .lit (.int .u8 11), .lit (.int .u8 54), .lit (.int .u8 26), .lit (.int .u8 40), .lit (.int .u8 15), .lit (.int .u8 34), .lit (.int .u8 20), .lit (.int .u8 31), .lit (.int .u8 10), .lit (.int .u8 25), .lit (.int .u8 14), .lit (.int .u8 19), .lit (.int .u8 9), .lit (.int .u8 13), .lit (.int .u8 8), .lit (.int .u8 7), .lit (.int .u8 6)]
def laid_internal_strconv_uint64pow10 {H : Type} : DataW H := .agg [.lit (.int .u64 1), .lit (.int .u64 10), .lit (.int .u64 100), .lit (.int .u64 1000), .lit (.int .u64 10000), .lit (.int .u64 100000), .lit (.int .u64 1000000), .lit (.int .u64 10000000), .lit (.int .u64 100000000), .lit (.int .u64 1000000000), .lit (.int .u64 10000000000), .lit (.int .u64 100000000000), .lit (.int .u64 1000000000000), .lit (.int .u64 10000000000000), .lit (.int .u64 100000000000000), .lit (.int .u64 1000000000000000), .lit (.int .u64 10000000000000000), .lit (.int .u64 100000000000000000), .lit (.int .u64 1000000000000000000), .lit (.int .u64 10000000000000000000)]
def laid_unicode_utf8_acceptRanges {H : Type} : DataW H := .agg [.agg [.lit (.int .u8 128), .lit (.int .u8 191)], .agg [.lit (.int .u8 160), .lit (.int .u8 191)], .agg [.lit (.int .u8 128), .lit (.int .u8 159)], .agg [.lit (.int .u8 144), .lit (.int .u8 191)], .agg [.lit (.int .u8 128), .lit (.int .u8 143)], .agg [.lit (.int .u8 0), .lit (.int .u8 0)], .agg [.lit (.int .u8 0), .lit (.int .u8 0)], .agg [.lit (.int .u8 0), .lit (.int .u8 0)], .agg [.lit (.int .u8 0), .lit (.int .u8 0)], .agg [.lit (.int .u8 0), .lit (.int .u8 0)], .agg [.lit (.int .u8 0), .lit (.int .u8 0)], .agg [.lit (.int .u8 0), .lit (.int .u8 0)], .agg [.lit (.int .u8 0), .lit (.int .u8 0)], .agg [.lit (.int .u8 0), .lit (.int .u8 0)], .agg [.lit (.int .u8 0), .lit (.int .u8 0)], .agg [.lit (.int .u8 0), .lit (.int .u8 0)]]
def laid_combiner_wash_criteria {H : Type} : DataW H := .iface "func table" (.agg [.agg [.lit (.string [119, 111, 114, 116, 104]), .iface "func" (.lit (.string [99, 111, 109, 98, 105, 110, 101, 114, 47, 119, 97, 115, 104, 46, 99, 114, 105, 116, 101, 114, 105, 97, 36, 49]))], .agg [.lit (.string [110, 117, 109, 98, 101, 114]), .iface "func" (.lit (.string [99, 111, 109, 98, 105, 110, 101, 114, 47, 119, 97, 115, 104, 46, 99, 114, 105, 116, 101, 114, 105, 97, 36, 50]))], .agg [.lit (.string [102, 105, 114, 115, 116]), .iface "func" (.lit (.string [99, 111, 109, 98, 105, 110, 101, 114, 47, 119, 97, 115, 104, 46, 99, 114, 105, 116, 101, 114, 105, 97, 36, 51]))]])
/-- One of Go's own tables, pinned by name: the form's constant. -/
def laid_unicode_utf8_first : DataW Unit := Go.Pinned.utf8First

/-- 'combinerlaw08.WashSeasons': WHATEVER THE INPUT: true; the input reads as it did. -/
def washSeasonsSpec : ChangeSpec := { name := "washSeasons", fn := fun _ => fun
  | [d1, d2] => { results := [.lit (.bool true)], args := [d1, d2] }
  | _ => none }
def washSeasonsRow : OpenClaim := { program := "ytcgajpaohlggpaagreatdoor", sum := "861f307d0f4588ec3b368ec117a213196cfbe9d7c78dfb24af6b2ee6cff6a125", func := "combiner/combinerlaw08.WashSeasons", spec := "washSeasons", inPlace := ["internal/abi.NoEscape", "internal/bytealg.MakeNoZero", "internal/bytealg.IndexByteString", "internal/bytealg.CountString", "internal/bytealg.IndexString"], unfollowed := true, recurses := true, named := ["combiner/wash.criteria", "internal/strconv.uint64pow10", "math/bits.deBruijn32tab", "math/bits.deBruijn64tab", "unicode/utf8.first", "unicode/utf8.acceptRanges", "internal/bytealg.MaxLen"], apart := false, laid := [("math/bits.deBruijn32tab", laid_math_bits_deBruijn32tab), ("math/bits.deBruijn64tab", laid_math_bits_deBruijn64tab), ("internal/strconv.uint64pow10", laid_internal_strconv_uint64pow10), ("unicode/utf8.acceptRanges", laid_unicode_utf8_acceptRanges), ("combiner/wash.criteria", laid_combiner_wash_criteria), ("unicode/utf8.first", laid_unicode_utf8_first)] }
def WashSeasonsSaid : Prop := washSeasonsRow.holds Tryz.pinned (OpenSpec.ofChange washSeasonsSpec)

/-- ITS FALSE NEIGHBOUR: 'it returns false'. Refute it at one input. -/
def washSeasonsWrong : ChangeSpec := { name := "washSeasons", fn := fun _ => fun
  | [d1, d2] => { results := [.lit (.bool false)], args := [d1, d2] }
  | _ => none }
def WashSeasonsWrongFalsely : Prop := washSeasonsRow.holds Tryz.pinned (OpenSpec.ofChange washSeasonsWrong)

/-- 'combinerlaw08.WashGains': WHATEVER THE INPUT: true; the input reads as it did. -/
def washGainsSpec : ChangeSpec := { name := "washGains", fn := fun _ => fun
  | [d1, d2, d3] => { results := [.lit (.bool true)], args := [d1, d2, d3] }
  | _ => none }
def washGainsRow : OpenClaim := { program := "ytcgajpaohlggpaagreatdoor", sum := "861f307d0f4588ec3b368ec117a213196cfbe9d7c78dfb24af6b2ee6cff6a125", func := "combiner/combinerlaw08.WashGains", spec := "washGains", inPlace := ["internal/abi.NoEscape", "internal/bytealg.MakeNoZero", "internal/bytealg.IndexByteString", "internal/bytealg.CountString", "internal/bytealg.IndexString"], unfollowed := true, recurses := true, named := ["combiner/wash.criteria", "internal/strconv.uint64pow10", "math/bits.deBruijn32tab", "math/bits.deBruijn64tab", "unicode/utf8.first", "unicode/utf8.acceptRanges", "internal/bytealg.MaxLen"], apart := false, laid := [("math/bits.deBruijn32tab", laid_math_bits_deBruijn32tab), ("math/bits.deBruijn64tab", laid_math_bits_deBruijn64tab), ("internal/strconv.uint64pow10", laid_internal_strconv_uint64pow10), ("unicode/utf8.acceptRanges", laid_unicode_utf8_acceptRanges), ("combiner/wash.criteria", laid_combiner_wash_criteria), ("unicode/utf8.first", laid_unicode_utf8_first)] }
def WashGainsSaid : Prop := washGainsRow.holds Tryz.pinned (OpenSpec.ofChange washGainsSpec)

/-- ITS FALSE NEIGHBOUR: 'it returns false'. Refute it at one input. -/
def washGainsWrong : ChangeSpec := { name := "washGains", fn := fun _ => fun
  | [d1, d2, d3] => { results := [.lit (.bool false)], args := [d1, d2, d3] }
  | _ => none }
def WashGainsWrongFalsely : Prop := washGainsRow.holds Tryz.pinned (OpenSpec.ofChange washGainsWrong)

/-- 'combinerlaw08.WashPlans': WHATEVER THE INPUT: true; the input reads as it did. -/
def washPlansSpec : ChangeSpec := { name := "washPlans", fn := fun _ => fun
  | [d] => { results := [.lit (.bool true)], args := [d] }
  | _ => none }
def washPlansRow : OpenClaim := { program := "ytcgajpaohlggpaagreatdoor", sum := "861f307d0f4588ec3b368ec117a213196cfbe9d7c78dfb24af6b2ee6cff6a125", func := "combiner/combinerlaw08.WashPlans", spec := "washPlans", inPlace := ["internal/abi.NoEscape", "internal/bytealg.MakeNoZero", "internal/bytealg.IndexByteString", "internal/bytealg.CountString", "internal/bytealg.IndexString"], unfollowed := true, recurses := true, named := ["combiner/wash.criteria", "internal/strconv.uint64pow10", "math/bits.deBruijn32tab", "math/bits.deBruijn64tab", "unicode/utf8.first", "unicode/utf8.acceptRanges", "internal/bytealg.MaxLen"], apart := false, laid := [("math/bits.deBruijn32tab", laid_math_bits_deBruijn32tab), ("math/bits.deBruijn64tab", laid_math_bits_deBruijn64tab), ("internal/strconv.uint64pow10", laid_internal_strconv_uint64pow10), ("unicode/utf8.acceptRanges", laid_unicode_utf8_acceptRanges), ("combiner/wash.criteria", laid_combiner_wash_criteria), ("unicode/utf8.first", laid_unicode_utf8_first)] }
def WashPlansSaid : Prop := washPlansRow.holds Tryz.pinned (OpenSpec.ofChange washPlansSpec)

/-- ITS FALSE NEIGHBOUR: 'it returns false'. Refute it at one input. -/
def washPlansWrong : ChangeSpec := { name := "washPlans", fn := fun _ => fun
  | [d] => { results := [.lit (.bool false)], args := [d] }
  | _ => none }
def WashPlansWrongFalsely : Prop := washPlansRow.holds Tryz.pinned (OpenSpec.ofChange washPlansWrong)

/-- 'combinerlaw08.WashTables': WHATEVER THE INPUT: true; the input reads as it did. -/
def washTablesSpec : ChangeSpec := { name := "washTables", fn := fun _ => fun
  | [d1, d2, d3] => { results := [.lit (.bool true)], args := [d1, d2, d3] }
  | _ => none }
def washTablesRow : OpenClaim := { program := "ytcgajpaohlggpaagreatdoor", sum := "861f307d0f4588ec3b368ec117a213196cfbe9d7c78dfb24af6b2ee6cff6a125", func := "combiner/combinerlaw08.WashTables", spec := "washTables", inPlace := ["internal/abi.NoEscape", "internal/bytealg.MakeNoZero", "internal/bytealg.IndexByteString", "internal/bytealg.CountString", "internal/bytealg.IndexString"], unfollowed := true, recurses := true, named := ["combiner/wash.criteria", "internal/strconv.uint64pow10", "math/bits.deBruijn32tab", "math/bits.deBruijn64tab", "unicode/utf8.first", "unicode/utf8.acceptRanges", "internal/bytealg.MaxLen"], apart := false, laid := [("math/bits.deBruijn32tab", laid_math_bits_deBruijn32tab), ("math/bits.deBruijn64tab", laid_math_bits_deBruijn64tab), ("internal/strconv.uint64pow10", laid_internal_strconv_uint64pow10), ("unicode/utf8.acceptRanges", laid_unicode_utf8_acceptRanges), ("combiner/wash.criteria", laid_combiner_wash_criteria), ("unicode/utf8.first", laid_unicode_utf8_first)] }
def WashTablesSaid : Prop := washTablesRow.holds Tryz.pinned (OpenSpec.ofChange washTablesSpec)

/-- ITS FALSE NEIGHBOUR: 'it returns false'. Refute it at one input. -/
def washTablesWrong : ChangeSpec := { name := "washTables", fn := fun _ => fun
  | [d1, d2, d3] => { results := [.lit (.bool false)], args := [d1, d2, d3] }
  | _ => none }
def WashTablesWrongFalsely : Prop := washTablesRow.holds Tryz.pinned (OpenSpec.ofChange washTablesWrong)

/-- 'combinerlaw08.WashWays': WHATEVER THE INPUT: true; the input reads as it did. -/
def washWaysSpec : ChangeSpec := { name := "washWays", fn := fun _ => fun
  | [d1, d2, d3] => { results := [.lit (.bool true)], args := [d1, d2, d3] }
  | _ => none }
def washWaysRow : OpenClaim := { program := "ytcgajpaohlggpaagreatdoor", sum := "861f307d0f4588ec3b368ec117a213196cfbe9d7c78dfb24af6b2ee6cff6a125", func := "combiner/combinerlaw08.WashWays", spec := "washWays", inPlace := ["internal/abi.NoEscape", "internal/bytealg.MakeNoZero", "internal/bytealg.IndexByteString", "internal/bytealg.CountString", "internal/bytealg.IndexString"], unfollowed := true, recurses := true, named := ["combiner/wash.criteria", "internal/strconv.uint64pow10", "math/bits.deBruijn32tab", "math/bits.deBruijn64tab", "unicode/utf8.first", "unicode/utf8.acceptRanges", "internal/bytealg.MaxLen"], apart := false, laid := [("math/bits.deBruijn32tab", laid_math_bits_deBruijn32tab), ("math/bits.deBruijn64tab", laid_math_bits_deBruijn64tab), ("internal/strconv.uint64pow10", laid_internal_strconv_uint64pow10), ("unicode/utf8.acceptRanges", laid_unicode_utf8_acceptRanges), ("combiner/wash.criteria", laid_combiner_wash_criteria), ("unicode/utf8.first", laid_unicode_utf8_first)] }
def WashWaysSaid : Prop := washWaysRow.holds Tryz.pinned (OpenSpec.ofChange washWaysSpec)

/-- ITS FALSE NEIGHBOUR: 'it returns false'. Refute it at one input. -/
def washWaysWrong : ChangeSpec := { name := "washWays", fn := fun _ => fun
  | [d1, d2, d3] => { results := [.lit (.bool false)], args := [d1, d2, d3] }
  | _ => none }
def WashWaysWrongFalsely : Prop := washWaysRow.holds Tryz.pinned (OpenSpec.ofChange washWaysWrong)

/-- 'combinerlaw08.WashRounds': WHATEVER THE INPUT: true; the input reads as it did. -/
def washRoundsSpec : ChangeSpec := { name := "washRounds", fn := fun _ => fun
  | [d1, d2, d3] => { results := [.lit (.bool true)], args := [d1, d2, d3] }
  | _ => none }
def washRoundsRow : OpenClaim := { program := "ytcgajpaohlggpaagreatdoor", sum := "861f307d0f4588ec3b368ec117a213196cfbe9d7c78dfb24af6b2ee6cff6a125", func := "combiner/combinerlaw08.WashRounds", spec := "washRounds", inPlace := ["internal/abi.NoEscape", "internal/bytealg.MakeNoZero", "internal/bytealg.IndexByteString", "internal/bytealg.CountString", "internal/bytealg.IndexString"], unfollowed := true, recurses := true, named := ["combiner/wash.criteria", "internal/strconv.uint64pow10", "math/bits.deBruijn32tab", "math/bits.deBruijn64tab", "unicode/utf8.first", "unicode/utf8.acceptRanges", "internal/bytealg.MaxLen"], apart := false, laid := [("math/bits.deBruijn32tab", laid_math_bits_deBruijn32tab), ("math/bits.deBruijn64tab", laid_math_bits_deBruijn64tab), ("internal/strconv.uint64pow10", laid_internal_strconv_uint64pow10), ("unicode/utf8.acceptRanges", laid_unicode_utf8_acceptRanges), ("combiner/wash.criteria", laid_combiner_wash_criteria), ("unicode/utf8.first", laid_unicode_utf8_first)] }
def WashRoundsSaid : Prop := washRoundsRow.holds Tryz.pinned (OpenSpec.ofChange washRoundsSpec)

/-- ITS FALSE NEIGHBOUR: 'it returns false'. Refute it at one input. -/
def washRoundsWrong : ChangeSpec := { name := "washRounds", fn := fun _ => fun
  | [d1, d2, d3] => { results := [.lit (.bool false)], args := [d1, d2, d3] }
  | _ => none }
def WashRoundsWrongFalsely : Prop := washRoundsRow.holds Tryz.pinned (OpenSpec.ofChange washRoundsWrong)

/-- 'combinerlaw08.WashParts': WHATEVER THE INPUT: true; the input reads as it did. -/
def washPartsSpec : ChangeSpec := { name := "washParts", fn := fun _ => fun
  | [d1, d2] => { results := [.lit (.bool true)], args := [d1, d2] }
  | _ => none }
def washPartsRow : OpenClaim := { program := "ytcgajpaohlggpaagreatdoor", sum := "861f307d0f4588ec3b368ec117a213196cfbe9d7c78dfb24af6b2ee6cff6a125", func := "combiner/combinerlaw08.WashParts", spec := "washParts", inPlace := ["internal/abi.NoEscape", "internal/bytealg.MakeNoZero", "internal/bytealg.IndexByteString", "internal/bytealg.CountString", "internal/bytealg.IndexString"], unfollowed := true, recurses := true, named := ["combiner/wash.criteria", "internal/strconv.uint64pow10", "math/bits.deBruijn32tab", "math/bits.deBruijn64tab", "unicode/utf8.first", "unicode/utf8.acceptRanges", "internal/bytealg.MaxLen"], apart := false, laid := [("math/bits.deBruijn32tab", laid_math_bits_deBruijn32tab), ("math/bits.deBruijn64tab", laid_math_bits_deBruijn64tab), ("internal/strconv.uint64pow10", laid_internal_strconv_uint64pow10), ("unicode/utf8.acceptRanges", laid_unicode_utf8_acceptRanges), ("combiner/wash.criteria", laid_combiner_wash_criteria), ("unicode/utf8.first", laid_unicode_utf8_first)] }
def WashPartsSaid : Prop := washPartsRow.holds Tryz.pinned (OpenSpec.ofChange washPartsSpec)

/-- ITS FALSE NEIGHBOUR: 'it returns false'. Refute it at one input. -/
def washPartsWrong : ChangeSpec := { name := "washParts", fn := fun _ => fun
  | [d1, d2] => { results := [.lit (.bool false)], args := [d1, d2] }
  | _ => none }
def WashPartsWrongFalsely : Prop := washPartsRow.holds Tryz.pinned (OpenSpec.ofChange washPartsWrong)

/-- 'combinerlaw08.WashStrings': WHATEVER THE INPUT: true; the input reads as it did. -/
def washStringsSpec : ChangeSpec := { name := "washStrings", fn := fun _ => fun
  | [d1, d2] => { results := [.lit (.bool true)], args := [d1, d2] }
  | _ => none }
def washStringsRow : OpenClaim := { program := "ytcgajpaohlggpaagreatdoor", sum := "861f307d0f4588ec3b368ec117a213196cfbe9d7c78dfb24af6b2ee6cff6a125", func := "combiner/combinerlaw08.WashStrings", spec := "washStrings", inPlace := ["internal/abi.NoEscape", "internal/bytealg.MakeNoZero", "internal/bytealg.IndexByteString", "internal/bytealg.CountString", "internal/bytealg.IndexString"], unfollowed := true, recurses := true, named := ["combiner/wash.criteria", "internal/strconv.uint64pow10", "math/bits.deBruijn32tab", "math/bits.deBruijn64tab", "unicode/utf8.first", "unicode/utf8.acceptRanges", "internal/bytealg.MaxLen"], apart := false, laid := [("math/bits.deBruijn32tab", laid_math_bits_deBruijn32tab), ("math/bits.deBruijn64tab", laid_math_bits_deBruijn64tab), ("internal/strconv.uint64pow10", laid_internal_strconv_uint64pow10), ("unicode/utf8.acceptRanges", laid_unicode_utf8_acceptRanges), ("combiner/wash.criteria", laid_combiner_wash_criteria), ("unicode/utf8.first", laid_unicode_utf8_first)] }
def WashStringsSaid : Prop := washStringsRow.holds Tryz.pinned (OpenSpec.ofChange washStringsSpec)

/-- ITS FALSE NEIGHBOUR: 'it returns false'. Refute it at one input. -/
def washStringsWrong : ChangeSpec := { name := "washStrings", fn := fun _ => fun
  | [d1, d2] => { results := [.lit (.bool false)], args := [d1, d2] }
  | _ => none }
def WashStringsWrongFalsely : Prop := washStringsRow.holds Tryz.pinned (OpenSpec.ofChange washStringsWrong)

/-- 'combinerlaw08.WashSoils': WHATEVER THE INPUT: true; the input reads as it did. -/
def washSoilsSpec : ChangeSpec := { name := "washSoils", fn := fun _ => fun
  | [d1, d2] => { results := [.lit (.bool true)], args := [d1, d2] }
  | _ => none }
def washSoilsRow : OpenClaim := { program := "ytcgajpaohlggpaagreatdoor", sum := "861f307d0f4588ec3b368ec117a213196cfbe9d7c78dfb24af6b2ee6cff6a125", func := "combiner/combinerlaw08.WashSoils", spec := "washSoils", inPlace := ["internal/abi.NoEscape", "internal/bytealg.MakeNoZero", "internal/bytealg.IndexByteString", "internal/bytealg.CountString", "internal/bytealg.IndexString"], unfollowed := true, recurses := true, named := ["combiner/wash.criteria", "internal/strconv.uint64pow10", "math/bits.deBruijn32tab", "math/bits.deBruijn64tab", "unicode/utf8.first", "unicode/utf8.acceptRanges", "internal/bytealg.MaxLen"], apart := false, laid := [("math/bits.deBruijn32tab", laid_math_bits_deBruijn32tab), ("math/bits.deBruijn64tab", laid_math_bits_deBruijn64tab), ("internal/strconv.uint64pow10", laid_internal_strconv_uint64pow10), ("unicode/utf8.acceptRanges", laid_unicode_utf8_acceptRanges), ("combiner/wash.criteria", laid_combiner_wash_criteria), ("unicode/utf8.first", laid_unicode_utf8_first)] }
def WashSoilsSaid : Prop := washSoilsRow.holds Tryz.pinned (OpenSpec.ofChange washSoilsSpec)

/-- ITS FALSE NEIGHBOUR: 'it returns false'. Refute it at one input. -/
def washSoilsWrong : ChangeSpec := { name := "washSoils", fn := fun _ => fun
  | [d1, d2] => { results := [.lit (.bool false)], args := [d1, d2] }
  | _ => none }
def WashSoilsWrongFalsely : Prop := washSoilsRow.holds Tryz.pinned (OpenSpec.ofChange washSoilsWrong)

/-- 'combinerlaw08.WashBest': WHATEVER THE INPUT: true; the input reads as it did. -/
def washBestSpec : ChangeSpec := { name := "washBest", fn := fun _ => fun
  | [d1, d2] => { results := [.lit (.bool true)], args := [d1, d2] }
  | _ => none }
def washBestRow : OpenClaim := { program := "ytcgajpaohlggpaagreatdoor", sum := "861f307d0f4588ec3b368ec117a213196cfbe9d7c78dfb24af6b2ee6cff6a125", func := "combiner/combinerlaw08.WashBest", spec := "washBest", inPlace := ["internal/abi.NoEscape", "internal/bytealg.MakeNoZero", "internal/bytealg.IndexByteString", "internal/bytealg.CountString", "internal/bytealg.IndexString"], unfollowed := true, recurses := true, named := ["combiner/wash.criteria", "internal/strconv.uint64pow10", "math/bits.deBruijn32tab", "math/bits.deBruijn64tab", "unicode/utf8.first", "unicode/utf8.acceptRanges", "internal/bytealg.MaxLen"], apart := false, laid := [("math/bits.deBruijn32tab", laid_math_bits_deBruijn32tab), ("math/bits.deBruijn64tab", laid_math_bits_deBruijn64tab), ("internal/strconv.uint64pow10", laid_internal_strconv_uint64pow10), ("unicode/utf8.acceptRanges", laid_unicode_utf8_acceptRanges), ("combiner/wash.criteria", laid_combiner_wash_criteria), ("unicode/utf8.first", laid_unicode_utf8_first)] }
def WashBestSaid : Prop := washBestRow.holds Tryz.pinned (OpenSpec.ofChange washBestSpec)

/-- ITS FALSE NEIGHBOUR: 'it returns false'. Refute it at one input. -/
def washBestWrong : ChangeSpec := { name := "washBest", fn := fun _ => fun
  | [d1, d2] => { results := [.lit (.bool false)], args := [d1, d2] }
  | _ => none }
def WashBestWrongFalsely : Prop := washBestRow.holds Tryz.pinned (OpenSpec.ofChange washBestWrong)

/-- 'combinerlaw08.WashCrews': WHATEVER THE INPUT: true; the input reads as it did. -/
def washCrewsSpec : ChangeSpec := { name := "washCrews", fn := fun _ => fun
  | [d1, d2, d3] => { results := [.lit (.bool true)], args := [d1, d2, d3] }
  | _ => none }
def washCrewsRow : OpenClaim := { program := "ytcgajpaohlggpaagreatdoor", sum := "861f307d0f4588ec3b368ec117a213196cfbe9d7c78dfb24af6b2ee6cff6a125", func := "combiner/combinerlaw08.WashCrews", spec := "washCrews", inPlace := ["internal/abi.NoEscape", "internal/bytealg.MakeNoZero", "internal/bytealg.IndexByteString", "internal/bytealg.CountString", "internal/bytealg.IndexString"], unfollowed := true, recurses := true, named := ["combiner/wash.criteria", "internal/strconv.uint64pow10", "math/bits.deBruijn32tab", "math/bits.deBruijn64tab", "unicode/utf8.first", "unicode/utf8.acceptRanges", "internal/bytealg.MaxLen"], apart := false, laid := [("math/bits.deBruijn32tab", laid_math_bits_deBruijn32tab), ("math/bits.deBruijn64tab", laid_math_bits_deBruijn64tab), ("internal/strconv.uint64pow10", laid_internal_strconv_uint64pow10), ("unicode/utf8.acceptRanges", laid_unicode_utf8_acceptRanges), ("combiner/wash.criteria", laid_combiner_wash_criteria), ("unicode/utf8.first", laid_unicode_utf8_first)] }
def WashCrewsSaid : Prop := washCrewsRow.holds Tryz.pinned (OpenSpec.ofChange washCrewsSpec)

/-- ITS FALSE NEIGHBOUR: 'it returns false'. Refute it at one input. -/
def washCrewsWrong : ChangeSpec := { name := "washCrews", fn := fun _ => fun
  | [d1, d2, d3] => { results := [.lit (.bool false)], args := [d1, d2, d3] }
  | _ => none }
def WashCrewsWrongFalsely : Prop := washCrewsRow.holds Tryz.pinned (OpenSpec.ofChange washCrewsWrong)

/-- 'combinerlaw08.WashBack': WHATEVER THE INPUT: true; the input reads as it did. -/
def washBackSpec : ChangeSpec := { name := "washBack", fn := fun _ => fun
  | [d1, d2, d3] => { results := [.lit (.bool true)], args := [d1, d2, d3] }
  | _ => none }
def washBackRow : OpenClaim := { program := "ytcgajpaohlggpaagreatdoor", sum := "861f307d0f4588ec3b368ec117a213196cfbe9d7c78dfb24af6b2ee6cff6a125", func := "combiner/combinerlaw08.WashBack", spec := "washBack", inPlace := ["internal/abi.NoEscape", "internal/bytealg.MakeNoZero", "internal/bytealg.IndexByteString", "internal/bytealg.CountString", "internal/bytealg.IndexString"], unfollowed := true, recurses := true, named := ["combiner/wash.criteria", "internal/strconv.uint64pow10", "math/bits.deBruijn32tab", "math/bits.deBruijn64tab", "unicode/utf8.first", "unicode/utf8.acceptRanges", "internal/bytealg.MaxLen"], apart := false, laid := [("math/bits.deBruijn32tab", laid_math_bits_deBruijn32tab), ("math/bits.deBruijn64tab", laid_math_bits_deBruijn64tab), ("internal/strconv.uint64pow10", laid_internal_strconv_uint64pow10), ("unicode/utf8.acceptRanges", laid_unicode_utf8_acceptRanges), ("combiner/wash.criteria", laid_combiner_wash_criteria), ("unicode/utf8.first", laid_unicode_utf8_first)] }
def WashBackSaid : Prop := washBackRow.holds Tryz.pinned (OpenSpec.ofChange washBackSpec)

/-- ITS FALSE NEIGHBOUR: 'it returns false'. Refute it at one input. -/
def washBackWrong : ChangeSpec := { name := "washBack", fn := fun _ => fun
  | [d1, d2, d3] => { results := [.lit (.bool false)], args := [d1, d2, d3] }
  | _ => none }
def WashBackWrongFalsely : Prop := washBackRow.holds Tryz.pinned (OpenSpec.ofChange washBackWrong)

/- THE SECOND FORM. 'bulk': how many values and letters a reading holds, each counted each time it is reached (what is shared counts as often as it is met; a slice's spare places count too). A statement '..UptoSaid' is the law's where the arguments, and the package variables that the reading takes, are together of bulk at most 1048576: NARROWER than '..Said'. Prove '..Said' where nothing that the law and all that it calls make is longer than what came in: it says more and counts as full. Else prove '..UptoSaid'. A law counts once. -/
mutual
def uptoBulk {H : Type} : DataW H → Nat
  | .lit (.string bytes) => bytes.length + 1
  | .lit _ => 1
  | .nil => 1
  | .ptr d => uptoBulk d + 1
  | .slice elems spare => uptoBulkAll elems + uptoBulkAll spare + 1
  | .agg parts => uptoBulkAll parts + 1
  | .iface _ d => uptoBulk d + 1
  | .map entries => uptoBulkEntries entries + 1
  | .held _ => 1
def uptoBulkAll {H : Type} : List (DataW H) → Nat
  | [] => 0
  | d :: r => uptoBulk d + uptoBulkAll r
def uptoBulkEntries {H : Type} : List (Lit × DataW H) → Nat
  | [] => 0
  | x :: r => uptoBulkEntry x + uptoBulkEntries r
def uptoBulkEntry {H : Type} : Lit × DataW H → Nat
  | (.string bytes, d) => bytes.length + uptoBulk d + 1
  | (_, d) => uptoBulk d + 1
 end
def uptoSmall : (H : Type) → List (DataW H) → Bool := fun _ ds => decide (uptoBulkAll ds ≤ 1048576)
def OpenSpec.upto (s : _root_.Go.ChangeSpec) : _root_.Go.OpenSpec := { _root_.Go.OpenSpec.ofChange s with cond := some uptoSmall }

/-- 'combinerlaw08.WashSeasons', WHERE WHAT IT READS IS OF BULK AT MOST 1048576: true; the input reads as it did. -/
def washSeasonsUptoRow : OpenClaim := { program := "ytcgajpaohlggpaagreatdoor", sum := "861f307d0f4588ec3b368ec117a213196cfbe9d7c78dfb24af6b2ee6cff6a125", func := "combiner/combinerlaw08.WashSeasons", spec := "washSeasons", inPlace := ["internal/abi.NoEscape", "internal/bytealg.MakeNoZero", "internal/bytealg.IndexByteString", "internal/bytealg.CountString", "internal/bytealg.IndexString"], unfollowed := true, recurses := true, named := ["combiner/wash.criteria", "internal/strconv.uint64pow10", "math/bits.deBruijn32tab", "math/bits.deBruijn64tab", "unicode/utf8.first", "unicode/utf8.acceptRanges", "internal/bytealg.MaxLen"], apart := false, laid := [("math/bits.deBruijn32tab", laid_math_bits_deBruijn32tab), ("math/bits.deBruijn64tab", laid_math_bits_deBruijn64tab), ("internal/strconv.uint64pow10", laid_internal_strconv_uint64pow10), ("unicode/utf8.acceptRanges", laid_unicode_utf8_acceptRanges), ("combiner/wash.criteria", laid_combiner_wash_criteria), ("unicode/utf8.first", laid_unicode_utf8_first)], narrowed := true }
def WashSeasonsUptoSaid : Prop := washSeasonsUptoRow.holds Tryz.pinned (OpenSpec.upto washSeasonsSpec)

/-- 'combinerlaw08.WashGains', WHERE WHAT IT READS IS OF BULK AT MOST 1048576: true; the input reads as it did. -/
def washGainsUptoRow : OpenClaim := { program := "ytcgajpaohlggpaagreatdoor", sum := "861f307d0f4588ec3b368ec117a213196cfbe9d7c78dfb24af6b2ee6cff6a125", func := "combiner/combinerlaw08.WashGains", spec := "washGains", inPlace := ["internal/abi.NoEscape", "internal/bytealg.MakeNoZero", "internal/bytealg.IndexByteString", "internal/bytealg.CountString", "internal/bytealg.IndexString"], unfollowed := true, recurses := true, named := ["combiner/wash.criteria", "internal/strconv.uint64pow10", "math/bits.deBruijn32tab", "math/bits.deBruijn64tab", "unicode/utf8.first", "unicode/utf8.acceptRanges", "internal/bytealg.MaxLen"], apart := false, laid := [("math/bits.deBruijn32tab", laid_math_bits_deBruijn32tab), ("math/bits.deBruijn64tab", laid_math_bits_deBruijn64tab), ("internal/strconv.uint64pow10", laid_internal_strconv_uint64pow10), ("unicode/utf8.acceptRanges", laid_unicode_utf8_acceptRanges), ("combiner/wash.criteria", laid_combiner_wash_criteria), ("unicode/utf8.first", laid_unicode_utf8_first)], narrowed := true }
def WashGainsUptoSaid : Prop := washGainsUptoRow.holds Tryz.pinned (OpenSpec.upto washGainsSpec)

/-- 'combinerlaw08.WashPlans', WHERE WHAT IT READS IS OF BULK AT MOST 1048576: true; the input reads as it did. -/
def washPlansUptoRow : OpenClaim := { program := "ytcgajpaohlggpaagreatdoor", sum := "861f307d0f4588ec3b368ec117a213196cfbe9d7c78dfb24af6b2ee6cff6a125", func := "combiner/combinerlaw08.WashPlans", spec := "washPlans", inPlace := ["internal/abi.NoEscape", "internal/bytealg.MakeNoZero", "internal/bytealg.IndexByteString", "internal/bytealg.CountString", "internal/bytealg.IndexString"], unfollowed := true, recurses := true, named := ["combiner/wash.criteria", "internal/strconv.uint64pow10", "math/bits.deBruijn32tab", "math/bits.deBruijn64tab", "unicode/utf8.first", "unicode/utf8.acceptRanges", "internal/bytealg.MaxLen"], apart := false, laid := [("math/bits.deBruijn32tab", laid_math_bits_deBruijn32tab), ("math/bits.deBruijn64tab", laid_math_bits_deBruijn64tab), ("internal/strconv.uint64pow10", laid_internal_strconv_uint64pow10), ("unicode/utf8.acceptRanges", laid_unicode_utf8_acceptRanges), ("combiner/wash.criteria", laid_combiner_wash_criteria), ("unicode/utf8.first", laid_unicode_utf8_first)], narrowed := true }
def WashPlansUptoSaid : Prop := washPlansUptoRow.holds Tryz.pinned (OpenSpec.upto washPlansSpec)

/-- 'combinerlaw08.WashTables', WHERE WHAT IT READS IS OF BULK AT MOST 1048576: true; the input reads as it did. -/
def washTablesUptoRow : OpenClaim := { program := "ytcgajpaohlggpaagreatdoor", sum := "861f307d0f4588ec3b368ec117a213196cfbe9d7c78dfb24af6b2ee6cff6a125", func := "combiner/combinerlaw08.WashTables", spec := "washTables", inPlace := ["internal/abi.NoEscape", "internal/bytealg.MakeNoZero", "internal/bytealg.IndexByteString", "internal/bytealg.CountString", "internal/bytealg.IndexString"], unfollowed := true, recurses := true, named := ["combiner/wash.criteria", "internal/strconv.uint64pow10", "math/bits.deBruijn32tab", "math/bits.deBruijn64tab", "unicode/utf8.first", "unicode/utf8.acceptRanges", "internal/bytealg.MaxLen"], apart := false, laid := [("math/bits.deBruijn32tab", laid_math_bits_deBruijn32tab), ("math/bits.deBruijn64tab", laid_math_bits_deBruijn64tab), ("internal/strconv.uint64pow10", laid_internal_strconv_uint64pow10), ("unicode/utf8.acceptRanges", laid_unicode_utf8_acceptRanges), ("combiner/wash.criteria", laid_combiner_wash_criteria), ("unicode/utf8.first", laid_unicode_utf8_first)], narrowed := true }
def WashTablesUptoSaid : Prop := washTablesUptoRow.holds Tryz.pinned (OpenSpec.upto washTablesSpec)

/-- 'combinerlaw08.WashWays', WHERE WHAT IT READS IS OF BULK AT MOST 1048576: true; the input reads as it did. -/
def washWaysUptoRow : OpenClaim := { program := "ytcgajpaohlggpaagreatdoor", sum := "861f307d0f4588ec3b368ec117a213196cfbe9d7c78dfb24af6b2ee6cff6a125", func := "combiner/combinerlaw08.WashWays", spec := "washWays", inPlace := ["internal/abi.NoEscape", "internal/bytealg.MakeNoZero", "internal/bytealg.IndexByteString", "internal/bytealg.CountString", "internal/bytealg.IndexString"], unfollowed := true, recurses := true, named := ["combiner/wash.criteria", "internal/strconv.uint64pow10", "math/bits.deBruijn32tab", "math/bits.deBruijn64tab", "unicode/utf8.first", "unicode/utf8.acceptRanges", "internal/bytealg.MaxLen"], apart := false, laid := [("math/bits.deBruijn32tab", laid_math_bits_deBruijn32tab), ("math/bits.deBruijn64tab", laid_math_bits_deBruijn64tab), ("internal/strconv.uint64pow10", laid_internal_strconv_uint64pow10), ("unicode/utf8.acceptRanges", laid_unicode_utf8_acceptRanges), ("combiner/wash.criteria", laid_combiner_wash_criteria), ("unicode/utf8.first", laid_unicode_utf8_first)], narrowed := true }
def WashWaysUptoSaid : Prop := washWaysUptoRow.holds Tryz.pinned (OpenSpec.upto washWaysSpec)

/-- 'combinerlaw08.WashRounds', WHERE WHAT IT READS IS OF BULK AT MOST 1048576: true; the input reads as it did. -/
def washRoundsUptoRow : OpenClaim := { program := "ytcgajpaohlggpaagreatdoor", sum := "861f307d0f4588ec3b368ec117a213196cfbe9d7c78dfb24af6b2ee6cff6a125", func := "combiner/combinerlaw08.WashRounds", spec := "washRounds", inPlace := ["internal/abi.NoEscape", "internal/bytealg.MakeNoZero", "internal/bytealg.IndexByteString", "internal/bytealg.CountString", "internal/bytealg.IndexString"], unfollowed := true, recurses := true, named := ["combiner/wash.criteria", "internal/strconv.uint64pow10", "math/bits.deBruijn32tab", "math/bits.deBruijn64tab", "unicode/utf8.first", "unicode/utf8.acceptRanges", "internal/bytealg.MaxLen"], apart := false, laid := [("math/bits.deBruijn32tab", laid_math_bits_deBruijn32tab), ("math/bits.deBruijn64tab", laid_math_bits_deBruijn64tab), ("internal/strconv.uint64pow10", laid_internal_strconv_uint64pow10), ("unicode/utf8.acceptRanges", laid_unicode_utf8_acceptRanges), ("combiner/wash.criteria", laid_combiner_wash_criteria), ("unicode/utf8.first", laid_unicode_utf8_first)], narrowed := true }
def WashRoundsUptoSaid : Prop := washRoundsUptoRow.holds Tryz.pinned (OpenSpec.upto washRoundsSpec)

/-- 'combinerlaw08.WashParts', WHERE WHAT IT READS IS OF BULK AT MOST 1048576: true; the input reads as it did. -/
def washPartsUptoRow : OpenClaim := { program := "ytcgajpaohlggpaagreatdoor", sum := "861f307d0f4588ec3b368ec117a213196cfbe9d7c78dfb24af6b2ee6cff6a125", func := "combiner/combinerlaw08.WashParts", spec := "washParts", inPlace := ["internal/abi.NoEscape", "internal/bytealg.MakeNoZero", "internal/bytealg.IndexByteString", "internal/bytealg.CountString", "internal/bytealg.IndexString"], unfollowed := true, recurses := true, named := ["combiner/wash.criteria", "internal/strconv.uint64pow10", "math/bits.deBruijn32tab", "math/bits.deBruijn64tab", "unicode/utf8.first", "unicode/utf8.acceptRanges", "internal/bytealg.MaxLen"], apart := false, laid := [("math/bits.deBruijn32tab", laid_math_bits_deBruijn32tab), ("math/bits.deBruijn64tab", laid_math_bits_deBruijn64tab), ("internal/strconv.uint64pow10", laid_internal_strconv_uint64pow10), ("unicode/utf8.acceptRanges", laid_unicode_utf8_acceptRanges), ("combiner/wash.criteria", laid_combiner_wash_criteria), ("unicode/utf8.first", laid_unicode_utf8_first)], narrowed := true }
def WashPartsUptoSaid : Prop := washPartsUptoRow.holds Tryz.pinned (OpenSpec.upto washPartsSpec)

/-- 'combinerlaw08.WashStrings', WHERE WHAT IT READS IS OF BULK AT MOST 1048576: true; the input reads as it did. -/
def washStringsUptoRow : OpenClaim := { program := "ytcgajpaohlggpaagreatdoor", sum := "861f307d0f4588ec3b368ec117a213196cfbe9d7c78dfb24af6b2ee6cff6a125", func := "combiner/combinerlaw08.WashStrings", spec := "washStrings", inPlace := ["internal/abi.NoEscape", "internal/bytealg.MakeNoZero", "internal/bytealg.IndexByteString", "internal/bytealg.CountString", "internal/bytealg.IndexString"], unfollowed := true, recurses := true, named := ["combiner/wash.criteria", "internal/strconv.uint64pow10", "math/bits.deBruijn32tab", "math/bits.deBruijn64tab", "unicode/utf8.first", "unicode/utf8.acceptRanges", "internal/bytealg.MaxLen"], apart := false, laid := [("math/bits.deBruijn32tab", laid_math_bits_deBruijn32tab), ("math/bits.deBruijn64tab", laid_math_bits_deBruijn64tab), ("internal/strconv.uint64pow10", laid_internal_strconv_uint64pow10), ("unicode/utf8.acceptRanges", laid_unicode_utf8_acceptRanges), ("combiner/wash.criteria", laid_combiner_wash_criteria), ("unicode/utf8.first", laid_unicode_utf8_first)], narrowed := true }
def WashStringsUptoSaid : Prop := washStringsUptoRow.holds Tryz.pinned (OpenSpec.upto washStringsSpec)

/-- 'combinerlaw08.WashSoils', WHERE WHAT IT READS IS OF BULK AT MOST 1048576: true; the input reads as it did. -/
def washSoilsUptoRow : OpenClaim := { program := "ytcgajpaohlggpaagreatdoor", sum := "861f307d0f4588ec3b368ec117a213196cfbe9d7c78dfb24af6b2ee6cff6a125", func := "combiner/combinerlaw08.WashSoils", spec := "washSoils", inPlace := ["internal/abi.NoEscape", "internal/bytealg.MakeNoZero", "internal/bytealg.IndexByteString", "internal/bytealg.CountString", "internal/bytealg.IndexString"], unfollowed := true, recurses := true, named := ["combiner/wash.criteria", "internal/strconv.uint64pow10", "math/bits.deBruijn32tab", "math/bits.deBruijn64tab", "unicode/utf8.first", "unicode/utf8.acceptRanges", "internal/bytealg.MaxLen"], apart := false, laid := [("math/bits.deBruijn32tab", laid_math_bits_deBruijn32tab), ("math/bits.deBruijn64tab", laid_math_bits_deBruijn64tab), ("internal/strconv.uint64pow10", laid_internal_strconv_uint64pow10), ("unicode/utf8.acceptRanges", laid_unicode_utf8_acceptRanges), ("combiner/wash.criteria", laid_combiner_wash_criteria), ("unicode/utf8.first", laid_unicode_utf8_first)], narrowed := true }
def WashSoilsUptoSaid : Prop := washSoilsUptoRow.holds Tryz.pinned (OpenSpec.upto washSoilsSpec)

/-- 'combinerlaw08.WashBest', WHERE WHAT IT READS IS OF BULK AT MOST 1048576: true; the input reads as it did. -/
def washBestUptoRow : OpenClaim := { program := "ytcgajpaohlggpaagreatdoor", sum := "861f307d0f4588ec3b368ec117a213196cfbe9d7c78dfb24af6b2ee6cff6a125", func := "combiner/combinerlaw08.WashBest", spec := "washBest", inPlace := ["internal/abi.NoEscape", "internal/bytealg.MakeNoZero", "internal/bytealg.IndexByteString", "internal/bytealg.CountString", "internal/bytealg.IndexString"], unfollowed := true, recurses := true, named := ["combiner/wash.criteria", "internal/strconv.uint64pow10", "math/bits.deBruijn32tab", "math/bits.deBruijn64tab", "unicode/utf8.first", "unicode/utf8.acceptRanges", "internal/bytealg.MaxLen"], apart := false, laid := [("math/bits.deBruijn32tab", laid_math_bits_deBruijn32tab), ("math/bits.deBruijn64tab", laid_math_bits_deBruijn64tab), ("internal/strconv.uint64pow10", laid_internal_strconv_uint64pow10), ("unicode/utf8.acceptRanges", laid_unicode_utf8_acceptRanges), ("combiner/wash.criteria", laid_combiner_wash_criteria), ("unicode/utf8.first", laid_unicode_utf8_first)], narrowed := true }
def WashBestUptoSaid : Prop := washBestUptoRow.holds Tryz.pinned (OpenSpec.upto washBestSpec)

/-- 'combinerlaw08.WashCrews', WHERE WHAT IT READS IS OF BULK AT MOST 1048576: true; the input reads as it did. -/
def washCrewsUptoRow : OpenClaim := { program := "ytcgajpaohlggpaagreatdoor", sum := "861f307d0f4588ec3b368ec117a213196cfbe9d7c78dfb24af6b2ee6cff6a125", func := "combiner/combinerlaw08.WashCrews", spec := "washCrews", inPlace := ["internal/abi.NoEscape", "internal/bytealg.MakeNoZero", "internal/bytealg.IndexByteString", "internal/bytealg.CountString", "internal/bytealg.IndexString"], unfollowed := true, recurses := true, named := ["combiner/wash.criteria", "internal/strconv.uint64pow10", "math/bits.deBruijn32tab", "math/bits.deBruijn64tab", "unicode/utf8.first", "unicode/utf8.acceptRanges", "internal/bytealg.MaxLen"], apart := false, laid := [("math/bits.deBruijn32tab", laid_math_bits_deBruijn32tab), ("math/bits.deBruijn64tab", laid_math_bits_deBruijn64tab), ("internal/strconv.uint64pow10", laid_internal_strconv_uint64pow10), ("unicode/utf8.acceptRanges", laid_unicode_utf8_acceptRanges), ("combiner/wash.criteria", laid_combiner_wash_criteria), ("unicode/utf8.first", laid_unicode_utf8_first)], narrowed := true }
def WashCrewsUptoSaid : Prop := washCrewsUptoRow.holds Tryz.pinned (OpenSpec.upto washCrewsSpec)

/-- 'combinerlaw08.WashBack', WHERE WHAT IT READS IS OF BULK AT MOST 1048576: true; the input reads as it did. -/
def washBackUptoRow : OpenClaim := { program := "ytcgajpaohlggpaagreatdoor", sum := "861f307d0f4588ec3b368ec117a213196cfbe9d7c78dfb24af6b2ee6cff6a125", func := "combiner/combinerlaw08.WashBack", spec := "washBack", inPlace := ["internal/abi.NoEscape", "internal/bytealg.MakeNoZero", "internal/bytealg.IndexByteString", "internal/bytealg.CountString", "internal/bytealg.IndexString"], unfollowed := true, recurses := true, named := ["combiner/wash.criteria", "internal/strconv.uint64pow10", "math/bits.deBruijn32tab", "math/bits.deBruijn64tab", "unicode/utf8.first", "unicode/utf8.acceptRanges", "internal/bytealg.MaxLen"], apart := false, laid := [("math/bits.deBruijn32tab", laid_math_bits_deBruijn32tab), ("math/bits.deBruijn64tab", laid_math_bits_deBruijn64tab), ("internal/strconv.uint64pow10", laid_internal_strconv_uint64pow10), ("unicode/utf8.acceptRanges", laid_unicode_utf8_acceptRanges), ("combiner/wash.criteria", laid_combiner_wash_criteria), ("unicode/utf8.first", laid_unicode_utf8_first)], narrowed := true }
def WashBackUptoSaid : Prop := washBackUptoRow.holds Tryz.pinned (OpenSpec.upto washBackSpec)

end Rows
end Go.Proofs.YtcgajpaohlggpaaGreatDoor
