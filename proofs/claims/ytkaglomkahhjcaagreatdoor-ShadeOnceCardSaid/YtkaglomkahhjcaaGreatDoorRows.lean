/-
  NARROWER THAN 'FOR EVERY INPUT', by the rows' own cells (each row's printed sentence says how): ShadeSpots: laid · ShadeCells: laid · ShadeOutlines: laid · ShadeTilts: laid · ShadeRules: laid · ShadeStrings: laid · ShadeOnce: laid · ShadeSame: laid · ShadeTracked: laid · ShadePrinted: laid.
  DERIVED. THE GIVEN ROWS OF THIS SEAT. 10 by the template 'for every input the law returns true; each argument reads behind the call as it read before'; 0 by the template 'total and deterministic' (their statements: YtkaglomkahhjcaaGreatDoorTotals.lean).
  GIVEN WITH THE SEED: the statements are not yours to turn. If you find one false, say at which input.
  Laid BY PROGRAM, IN A SANDBOX (cutbox-rows.mjs): the forced cells as the released guide's own fill.sh prints them over the translation 190ae9561d60610a… (all of the seat's roots in one cut). By AI agents, Wed Nov 11 2026. No macro, syntax, notation, axiom, sorry.
-/
import Derived.Test.YtkaglomkahhjcaaGreatDoorChecked
import GoSem.PinnedTables
import GoSem.Claim
import GoSem.ClaimJoined
import GoSem.ClaimMapViews
import Derived.JoinedTies
import Derived.KernelRfl
namespace Go.Proofs.YtkaglomkahhjcaaGreatDoor
/- THE CELL 'sum', in the pinned program and in every row, IS THE sha256 OF THE DUMP (.gsa) THAT YtkaglomkahhjcaaGreatDoorProg.lean LOADS. Nothing in Lean hashes anything: it is a label: what it is worth is what the hold of that sum in a sandbox is worth. -/
noncomputable def Tryz.pinned : Pinned := { name := "ytkaglomkahhjcaagreatdoor", sum := "190ae9561d60610a19540eb3e2bce3afce01498ebd84f1595063e9aeacf43d69", checked := Tryz.checked }
namespace Rows
def none {H : Type} : Left H := { results := [], args := [] }

/- WHAT THE LISTED PACKAGE-LEVEL VARIABLES READ AS WHEN THE CALL BEGINS. Each datum BY PROGRAM (the guide's laid-datum.mjs) off the statement by which the dump's own 'gosem.cut.vars' lays the variable. In a bare row this is a premise. The card (YtkaglomkahhjcaaGreatDoorCards.lean) ties it to the program's text. -/
def laid_math_bits_deBruijn32tab {H : Type} : DataW H := .agg [.lit (.int .u8 0), .lit (.int .u8 1), .lit (.int .u8 28), .lit (.int .u8 2), .lit (.int .u8 29), .lit (.int .u8 14), .lit (.int .u8 24), .lit (.int .u8 3), .lit (.int .u8 30), .lit (.int .u8 22), .lit (.int .u8 20), .lit (.int .u8 15), .lit (.int .u8 25), .lit (.int .u8 17), .lit (.int .u8 4), .lit (.int .u8 8), .lit (.int .u8 31), .lit (.int .u8 27), .lit (.int .u8 13), .lit (.int .u8 23), .lit (.int .u8 21), .lit (.int .u8 19), .lit (.int .u8 16), .lit (.int .u8 7), .lit (.int .u8 26), .lit (.int .u8 12), .lit (.int .u8 18), .lit (.int .u8 6), .lit (.int .u8 11), .lit (.int .u8 5), .lit (.int .u8 10), .lit (.int .u8 9)]
def laid_math_bits_deBruijn64tab {H : Type} : DataW H := .agg [.lit (.int .u8 0), .lit (.int .u8 1), .lit (.int .u8 56), .lit (.int .u8 2), .lit (.int .u8 57), .lit (.int .u8 49), .lit (.int .u8 28), .lit (.int .u8 3), .lit (.int .u8 61), .lit (.int .u8 58), .lit (.int .u8 42), .lit (.int .u8 50), .lit (.int .u8 38), .lit (.int .u8 29), .lit (.int .u8 17), .lit (.int .u8 4), .lit (.int .u8 62), .lit (.int .u8 47), .lit (.int .u8 59), .lit (.int .u8 36), .lit (.int .u8 45), .lit (.int .u8 43), .lit (.int .u8 51), .lit (.int .u8 22), .lit (.int .u8 53), .lit (.int .u8 39), .lit (.int .u8 33), .lit (.int .u8 30), .lit (.int .u8 24), .lit (.int .u8 18), .lit (.int .u8 12), .lit (.int .u8 5), .lit (.int .u8 63), .lit (.int .u8 55), .lit (.int .u8 48), .lit (.int .u8 27), .lit (.int .u8 60), .lit (.int .u8 41), .lit (.int .u8 37), .lit (.int .u8 16), .lit (.int .u8 46), .lit (.int .u8 35), .lit (.int .u8 44), .lit (.int .u8 21), .lit (.int .u8 52), .lit (.int .u8 32), .lit (.int .u8 23), .lit (.int .u8 11), .lit (.int .u8 54), .lit (.int .u8 26), .lit (.int .u8 40), .lit (.int .u8 15), .lit (.int .u8 34), .lit (.int .u8 20), .lit (.int .u8 31), .lit (.int .u8 10), .lit (.int .u8 25), .lit (.int .u8 14), .lit (.int .u8 19), .lit (.int .u8 9), .lit (.int .u8 13), .lit (.int .u8 8), .lit (.int .u8 7), .lit (.int .u8 6)]
def laid_internal_strconv_uint64pow10 {H : Type} : DataW H := .agg [.lit (.int .u64 1), .lit (.int .u64 10), .lit (.int .u64 100), .lit (.int .u64 1000), .lit (.int .u64 10000), .lit (.int .u64 100000), .lit (.int .u64 1000000), .lit (.int .u64 10000000), .lit (.int .u64 100000000), .lit (.int .u64 1000000000), .lit (.int .u64 10000000000), .lit (.int .u64 100000000000), .lit (.int .u64 1000000000000), .lit (.int .u64 10000000000000), .lit (.int .u64 100000000000000), .lit (.int .u64 1000000000000000), .lit (.int .u64 10000000000000000), .lit (.int .u64 100000000000000000), .lit (.int .u64 1000000000000000000), .lit (.int .u64 10000000000000000000)]
def laid_unicode_utf8_acceptRanges {H : Type} : DataW H := .agg [.agg [.lit (.int .u8 128), .lit (.int .u8 191)], .agg [.lit (.int .u8 160), .lit (.int .u8 191)], .agg [.lit (.int .u8 128), .lit (.int .u8 159)], .agg [.lit (.int .u8 144), .lit (.int .u8 191)], .agg [.lit (.int .u8 128), .lit (.int .u8 143)], .agg [.lit (.int .u8 0), .lit (.int .u8 0)], .agg [.lit (.int .u8 0), .lit (.int .u8 0)], .agg [.lit (.int .u8 0), .lit (.int .u8 0)], .agg [.lit (.int .u8 0), .lit (.int .u8 0)], .agg [.lit (.int .u8 0), .lit (.int .u8 0)], .agg [.lit (.int .u8 0), .lit (.int .u8 0)], .agg [.lit (.int .u8 0), .lit (.int .u8 0)], .agg [.lit (.int .u8 0), .lit (.int .u8 0)], .agg [.lit (.int .u8 0), .lit (.int .u8 0)], .agg [.lit (.int .u8 0), .lit (.int .u8 0)], .agg [.lit (.int .u8 0), .lit (.int .u8 0)]]
def laid_combiner_shade_axes {H : Type} : DataW H := .iface "func table" (.agg [.agg [.iface "func" (.lit (.string [99, 111, 109, 98, 105, 110, 101, 114, 47, 115, 104, 97, 100, 101, 46, 97, 120, 101, 115, 36, 49]))], .agg [.iface "func" (.lit (.string [99, 111, 109, 98, 105, 110, 101, 114, 47, 115, 104, 97, 100, 101, 46, 97, 120, 101, 115, 36, 50]))]])
/-- One of Go's own tables, pinned by name: the form's constant. -/
def laid_unicode_utf8_first : DataW Unit := Go.Pinned.utf8First

/-- 'combinerlaw03.ShadeSpots': WHATEVER THE INPUT: true; the input reads as it did. -/
def shadeSpotsSpec : ChangeSpec := { name := "shadeSpots", fn := fun _ => fun
  | [d1, d2, d3] => { results := [.lit (.bool true)], args := [d1, d2, d3] }
  | _ => none }
def shadeSpotsRow : OpenClaim := { program := "ytkaglomkahhjcaagreatdoor", sum := "190ae9561d60610a19540eb3e2bce3afce01498ebd84f1595063e9aeacf43d69", func := "combiner/combinerlaw03.ShadeSpots", spec := "shadeSpots", inPlace := ["internal/abi.NoEscape", "internal/bytealg.IndexByteString", "internal/bytealg.CountString", "internal/bytealg.IndexString"], unfollowed := true, recurses := true, named := ["combiner/shade.axes", "internal/strconv.uint64pow10", "math/bits.deBruijn32tab", "math/bits.deBruijn64tab", "unicode/utf8.first", "unicode/utf8.acceptRanges", "internal/bytealg.MaxLen"], plainKeys := false, apart := false, laid := [("math/bits.deBruijn32tab", laid_math_bits_deBruijn32tab), ("math/bits.deBruijn64tab", laid_math_bits_deBruijn64tab), ("internal/strconv.uint64pow10", laid_internal_strconv_uint64pow10), ("unicode/utf8.acceptRanges", laid_unicode_utf8_acceptRanges), ("combiner/shade.axes", laid_combiner_shade_axes), ("unicode/utf8.first", laid_unicode_utf8_first)] }
def ShadeSpotsSaid : Prop := shadeSpotsRow.holds Tryz.pinned (OpenSpec.ofChange shadeSpotsSpec)

/-- ITS FALSE NEIGHBOUR: 'it returns false'. Refute it at one input. -/
def shadeSpotsWrong : ChangeSpec := { name := "shadeSpots", fn := fun _ => fun
  | [d1, d2, d3] => { results := [.lit (.bool false)], args := [d1, d2, d3] }
  | _ => none }
def ShadeSpotsWrongFalsely : Prop := shadeSpotsRow.holds Tryz.pinned (OpenSpec.ofChange shadeSpotsWrong)

/-- 'combinerlaw03.ShadeCells': WHATEVER THE INPUT: true; the input reads as it did. -/
def shadeCellsSpec : ChangeSpec := { name := "shadeCells", fn := fun _ => fun
  | [d1, d2, d3] => { results := [.lit (.bool true)], args := [d1, d2, d3] }
  | _ => none }
def shadeCellsRow : OpenClaim := { program := "ytkaglomkahhjcaagreatdoor", sum := "190ae9561d60610a19540eb3e2bce3afce01498ebd84f1595063e9aeacf43d69", func := "combiner/combinerlaw03.ShadeCells", spec := "shadeCells", inPlace := ["internal/abi.NoEscape", "internal/bytealg.IndexByteString", "internal/bytealg.CountString", "internal/bytealg.IndexString"], unfollowed := true, recurses := true, named := ["combiner/shade.axes", "internal/strconv.uint64pow10", "math/bits.deBruijn32tab", "math/bits.deBruijn64tab", "unicode/utf8.first", "unicode/utf8.acceptRanges", "internal/bytealg.MaxLen"], plainKeys := false, apart := false, laid := [("math/bits.deBruijn32tab", laid_math_bits_deBruijn32tab), ("math/bits.deBruijn64tab", laid_math_bits_deBruijn64tab), ("internal/strconv.uint64pow10", laid_internal_strconv_uint64pow10), ("unicode/utf8.acceptRanges", laid_unicode_utf8_acceptRanges), ("combiner/shade.axes", laid_combiner_shade_axes), ("unicode/utf8.first", laid_unicode_utf8_first)] }
def ShadeCellsSaid : Prop := shadeCellsRow.holds Tryz.pinned (OpenSpec.ofChange shadeCellsSpec)

/-- ITS FALSE NEIGHBOUR: 'it returns false'. Refute it at one input. -/
def shadeCellsWrong : ChangeSpec := { name := "shadeCells", fn := fun _ => fun
  | [d1, d2, d3] => { results := [.lit (.bool false)], args := [d1, d2, d3] }
  | _ => none }
def ShadeCellsWrongFalsely : Prop := shadeCellsRow.holds Tryz.pinned (OpenSpec.ofChange shadeCellsWrong)

/-- 'combinerlaw03.ShadeOutlines': WHATEVER THE INPUT: true; the input reads as it did. -/
def shadeOutlinesSpec : ChangeSpec := { name := "shadeOutlines", fn := fun _ => fun
  | [d1, d2, d3] => { results := [.lit (.bool true)], args := [d1, d2, d3] }
  | _ => none }
def shadeOutlinesRow : OpenClaim := { program := "ytkaglomkahhjcaagreatdoor", sum := "190ae9561d60610a19540eb3e2bce3afce01498ebd84f1595063e9aeacf43d69", func := "combiner/combinerlaw03.ShadeOutlines", spec := "shadeOutlines", inPlace := ["internal/abi.NoEscape", "internal/bytealg.IndexByteString", "internal/bytealg.CountString", "internal/bytealg.IndexString"], unfollowed := true, recurses := true, named := ["combiner/shade.axes", "internal/strconv.uint64pow10", "math/bits.deBruijn32tab", "math/bits.deBruijn64tab", "unicode/utf8.first", "unicode/utf8.acceptRanges", "internal/bytealg.MaxLen"], plainKeys := false, apart := false, laid := [("math/bits.deBruijn32tab", laid_math_bits_deBruijn32tab), ("math/bits.deBruijn64tab", laid_math_bits_deBruijn64tab), ("internal/strconv.uint64pow10", laid_internal_strconv_uint64pow10), ("unicode/utf8.acceptRanges", laid_unicode_utf8_acceptRanges), ("combiner/shade.axes", laid_combiner_shade_axes), ("unicode/utf8.first", laid_unicode_utf8_first)] }
def ShadeOutlinesSaid : Prop := shadeOutlinesRow.holds Tryz.pinned (OpenSpec.ofChange shadeOutlinesSpec)

/-- ITS FALSE NEIGHBOUR: 'it returns false'. Refute it at one input. -/
def shadeOutlinesWrong : ChangeSpec := { name := "shadeOutlines", fn := fun _ => fun
  | [d1, d2, d3] => { results := [.lit (.bool false)], args := [d1, d2, d3] }
  | _ => none }
def ShadeOutlinesWrongFalsely : Prop := shadeOutlinesRow.holds Tryz.pinned (OpenSpec.ofChange shadeOutlinesWrong)

/-- 'combinerlaw03.ShadeTilts': WHATEVER THE INPUT: true; the input reads as it did. -/
def shadeTiltsSpec : ChangeSpec := { name := "shadeTilts", fn := fun _ => fun
  | [d] => { results := [.lit (.bool true)], args := [d] }
  | _ => none }
def shadeTiltsRow : OpenClaim := { program := "ytkaglomkahhjcaagreatdoor", sum := "190ae9561d60610a19540eb3e2bce3afce01498ebd84f1595063e9aeacf43d69", func := "combiner/combinerlaw03.ShadeTilts", spec := "shadeTilts", inPlace := ["internal/abi.NoEscape", "internal/bytealg.IndexByteString", "internal/bytealg.CountString", "internal/bytealg.IndexString"], unfollowed := true, recurses := true, named := ["combiner/shade.axes", "internal/strconv.uint64pow10", "math/bits.deBruijn32tab", "math/bits.deBruijn64tab", "unicode/utf8.first", "unicode/utf8.acceptRanges", "internal/bytealg.MaxLen"], plainKeys := false, apart := false, laid := [("math/bits.deBruijn32tab", laid_math_bits_deBruijn32tab), ("math/bits.deBruijn64tab", laid_math_bits_deBruijn64tab), ("internal/strconv.uint64pow10", laid_internal_strconv_uint64pow10), ("unicode/utf8.acceptRanges", laid_unicode_utf8_acceptRanges), ("combiner/shade.axes", laid_combiner_shade_axes), ("unicode/utf8.first", laid_unicode_utf8_first)] }
def ShadeTiltsSaid : Prop := shadeTiltsRow.holds Tryz.pinned (OpenSpec.ofChange shadeTiltsSpec)

/-- ITS FALSE NEIGHBOUR: 'it returns false'. Refute it at one input. -/
def shadeTiltsWrong : ChangeSpec := { name := "shadeTilts", fn := fun _ => fun
  | [d] => { results := [.lit (.bool false)], args := [d] }
  | _ => none }
def ShadeTiltsWrongFalsely : Prop := shadeTiltsRow.holds Tryz.pinned (OpenSpec.ofChange shadeTiltsWrong)

/-- 'combinerlaw03.ShadeRules': WHATEVER THE INPUT: true; the input reads as it did. -/
def shadeRulesSpec : ChangeSpec := { name := "shadeRules", fn := fun _ => fun
  | [d1, d2, d3] => { results := [.lit (.bool true)], args := [d1, d2, d3] }
  | _ => none }
def shadeRulesRow : OpenClaim := { program := "ytkaglomkahhjcaagreatdoor", sum := "190ae9561d60610a19540eb3e2bce3afce01498ebd84f1595063e9aeacf43d69", func := "combiner/combinerlaw03.ShadeRules", spec := "shadeRules", inPlace := ["internal/abi.NoEscape", "internal/bytealg.IndexByteString", "internal/bytealg.CountString", "internal/bytealg.IndexString"], unfollowed := true, recurses := true, named := ["combiner/shade.axes", "internal/strconv.uint64pow10", "math/bits.deBruijn32tab", "math/bits.deBruijn64tab", "unicode/utf8.first", "unicode/utf8.acceptRanges", "internal/bytealg.MaxLen"], plainKeys := false, apart := false, laid := [("math/bits.deBruijn32tab", laid_math_bits_deBruijn32tab), ("math/bits.deBruijn64tab", laid_math_bits_deBruijn64tab), ("internal/strconv.uint64pow10", laid_internal_strconv_uint64pow10), ("unicode/utf8.acceptRanges", laid_unicode_utf8_acceptRanges), ("combiner/shade.axes", laid_combiner_shade_axes), ("unicode/utf8.first", laid_unicode_utf8_first)] }
def ShadeRulesSaid : Prop := shadeRulesRow.holds Tryz.pinned (OpenSpec.ofChange shadeRulesSpec)

/-- ITS FALSE NEIGHBOUR: 'it returns false'. Refute it at one input. -/
def shadeRulesWrong : ChangeSpec := { name := "shadeRules", fn := fun _ => fun
  | [d1, d2, d3] => { results := [.lit (.bool false)], args := [d1, d2, d3] }
  | _ => none }
def ShadeRulesWrongFalsely : Prop := shadeRulesRow.holds Tryz.pinned (OpenSpec.ofChange shadeRulesWrong)

/-- 'combinerlaw03.ShadeStrings': WHATEVER THE INPUT: true; the input reads as it did. -/
def shadeStringsSpec : ChangeSpec := { name := "shadeStrings", fn := fun _ => fun
  | [d1, d2] => { results := [.lit (.bool true)], args := [d1, d2] }
  | _ => none }
def shadeStringsRow : OpenClaim := { program := "ytkaglomkahhjcaagreatdoor", sum := "190ae9561d60610a19540eb3e2bce3afce01498ebd84f1595063e9aeacf43d69", func := "combiner/combinerlaw03.ShadeStrings", spec := "shadeStrings", inPlace := ["internal/abi.NoEscape", "internal/bytealg.IndexByteString", "internal/bytealg.CountString", "internal/bytealg.IndexString"], unfollowed := true, recurses := true, named := ["combiner/shade.axes", "internal/strconv.uint64pow10", "math/bits.deBruijn32tab", "math/bits.deBruijn64tab", "unicode/utf8.first", "unicode/utf8.acceptRanges", "internal/bytealg.MaxLen"], plainKeys := false, apart := false, laid := [("math/bits.deBruijn32tab", laid_math_bits_deBruijn32tab), ("math/bits.deBruijn64tab", laid_math_bits_deBruijn64tab), ("internal/strconv.uint64pow10", laid_internal_strconv_uint64pow10), ("unicode/utf8.acceptRanges", laid_unicode_utf8_acceptRanges), ("combiner/shade.axes", laid_combiner_shade_axes), ("unicode/utf8.first", laid_unicode_utf8_first)] }
def ShadeStringsSaid : Prop := shadeStringsRow.holds Tryz.pinned (OpenSpec.ofChange shadeStringsSpec)

/-- ITS FALSE NEIGHBOUR: 'it returns false'. Refute it at one input. -/
def shadeStringsWrong : ChangeSpec := { name := "shadeStrings", fn := fun _ => fun
  | [d1, d2] => { results := [.lit (.bool false)], args := [d1, d2] }
  | _ => none }
def ShadeStringsWrongFalsely : Prop := shadeStringsRow.holds Tryz.pinned (OpenSpec.ofChange shadeStringsWrong)

/-- 'combinerlaw03.ShadeOnce': WHATEVER THE INPUT: true; the input reads as it did. -/
def shadeOnceSpec : ChangeSpec := { name := "shadeOnce", fn := fun _ => fun
  | [d1, d2, d3] => { results := [.lit (.bool true)], args := [d1, d2, d3] }
  | _ => none }
def shadeOnceRow : OpenClaim := { program := "ytkaglomkahhjcaagreatdoor", sum := "190ae9561d60610a19540eb3e2bce3afce01498ebd84f1595063e9aeacf43d69", func := "combiner/combinerlaw03.ShadeOnce", spec := "shadeOnce", inPlace := ["internal/abi.NoEscape", "internal/bytealg.IndexByteString", "internal/bytealg.CountString", "internal/bytealg.IndexString"], unfollowed := true, recurses := true, named := ["combiner/shade.axes", "internal/strconv.uint64pow10", "math/bits.deBruijn32tab", "math/bits.deBruijn64tab", "unicode/utf8.first", "unicode/utf8.acceptRanges", "internal/bytealg.MaxLen"], plainKeys := false, apart := false, laid := [("math/bits.deBruijn32tab", laid_math_bits_deBruijn32tab), ("math/bits.deBruijn64tab", laid_math_bits_deBruijn64tab), ("internal/strconv.uint64pow10", laid_internal_strconv_uint64pow10), ("unicode/utf8.acceptRanges", laid_unicode_utf8_acceptRanges), ("combiner/shade.axes", laid_combiner_shade_axes), ("unicode/utf8.first", laid_unicode_utf8_first)] }
def ShadeOnceSaid : Prop := shadeOnceRow.holds Tryz.pinned (OpenSpec.ofChange shadeOnceSpec)

/-- ITS FALSE NEIGHBOUR: 'it returns false'. Refute it at one input. -/
def shadeOnceWrong : ChangeSpec := { name := "shadeOnce", fn := fun _ => fun
  | [d1, d2, d3] => { results := [.lit (.bool false)], args := [d1, d2, d3] }
  | _ => none }
def ShadeOnceWrongFalsely : Prop := shadeOnceRow.holds Tryz.pinned (OpenSpec.ofChange shadeOnceWrong)

/-- 'combinerlaw03.ShadeSame': WHATEVER THE INPUT: true; the input reads as it did. -/
def shadeSameSpec : ChangeSpec := { name := "shadeSame", fn := fun _ => fun
  | [d1, d2, d3] => { results := [.lit (.bool true)], args := [d1, d2, d3] }
  | _ => none }
def shadeSameRow : OpenClaim := { program := "ytkaglomkahhjcaagreatdoor", sum := "190ae9561d60610a19540eb3e2bce3afce01498ebd84f1595063e9aeacf43d69", func := "combiner/combinerlaw03.ShadeSame", spec := "shadeSame", inPlace := ["internal/abi.NoEscape", "internal/bytealg.IndexByteString", "internal/bytealg.CountString", "internal/bytealg.IndexString"], unfollowed := true, recurses := true, named := ["combiner/shade.axes", "internal/strconv.uint64pow10", "math/bits.deBruijn32tab", "math/bits.deBruijn64tab", "unicode/utf8.first", "unicode/utf8.acceptRanges", "internal/bytealg.MaxLen"], plainKeys := false, apart := false, laid := [("math/bits.deBruijn32tab", laid_math_bits_deBruijn32tab), ("math/bits.deBruijn64tab", laid_math_bits_deBruijn64tab), ("internal/strconv.uint64pow10", laid_internal_strconv_uint64pow10), ("unicode/utf8.acceptRanges", laid_unicode_utf8_acceptRanges), ("combiner/shade.axes", laid_combiner_shade_axes), ("unicode/utf8.first", laid_unicode_utf8_first)] }
def ShadeSameSaid : Prop := shadeSameRow.holds Tryz.pinned (OpenSpec.ofChange shadeSameSpec)

/-- ITS FALSE NEIGHBOUR: 'it returns false'. Refute it at one input. -/
def shadeSameWrong : ChangeSpec := { name := "shadeSame", fn := fun _ => fun
  | [d1, d2, d3] => { results := [.lit (.bool false)], args := [d1, d2, d3] }
  | _ => none }
def ShadeSameWrongFalsely : Prop := shadeSameRow.holds Tryz.pinned (OpenSpec.ofChange shadeSameWrong)

/-- 'combinerlaw03.ShadeTracked': WHATEVER THE INPUT: true; the input reads as it did. -/
def shadeTrackedSpec : ChangeSpec := { name := "shadeTracked", fn := fun _ => fun
  | [d1, d2, d3] => { results := [.lit (.bool true)], args := [d1, d2, d3] }
  | _ => none }
def shadeTrackedRow : OpenClaim := { program := "ytkaglomkahhjcaagreatdoor", sum := "190ae9561d60610a19540eb3e2bce3afce01498ebd84f1595063e9aeacf43d69", func := "combiner/combinerlaw03.ShadeTracked", spec := "shadeTracked", inPlace := ["internal/abi.NoEscape", "internal/bytealg.IndexByteString", "internal/bytealg.CountString", "internal/bytealg.IndexString"], unfollowed := true, recurses := true, named := ["combiner/shade.axes", "internal/strconv.uint64pow10", "math/bits.deBruijn32tab", "math/bits.deBruijn64tab", "unicode/utf8.first", "unicode/utf8.acceptRanges", "internal/bytealg.MaxLen"], plainKeys := false, apart := false, laid := [("math/bits.deBruijn32tab", laid_math_bits_deBruijn32tab), ("math/bits.deBruijn64tab", laid_math_bits_deBruijn64tab), ("internal/strconv.uint64pow10", laid_internal_strconv_uint64pow10), ("unicode/utf8.acceptRanges", laid_unicode_utf8_acceptRanges), ("combiner/shade.axes", laid_combiner_shade_axes), ("unicode/utf8.first", laid_unicode_utf8_first)] }
def ShadeTrackedSaid : Prop := shadeTrackedRow.holds Tryz.pinned (OpenSpec.ofChange shadeTrackedSpec)

/-- ITS FALSE NEIGHBOUR: 'it returns false'. Refute it at one input. -/
def shadeTrackedWrong : ChangeSpec := { name := "shadeTracked", fn := fun _ => fun
  | [d1, d2, d3] => { results := [.lit (.bool false)], args := [d1, d2, d3] }
  | _ => none }
def ShadeTrackedWrongFalsely : Prop := shadeTrackedRow.holds Tryz.pinned (OpenSpec.ofChange shadeTrackedWrong)

/-- 'combinerlaw03.ShadePrinted': WHATEVER THE INPUT: true; the input reads as it did. -/
def shadePrintedSpec : ChangeSpec := { name := "shadePrinted", fn := fun _ => fun
  | [d1, d2] => { results := [.lit (.bool true)], args := [d1, d2] }
  | _ => none }
def shadePrintedRow : OpenClaim := { program := "ytkaglomkahhjcaagreatdoor", sum := "190ae9561d60610a19540eb3e2bce3afce01498ebd84f1595063e9aeacf43d69", func := "combiner/combinerlaw03.ShadePrinted", spec := "shadePrinted", inPlace := ["internal/abi.NoEscape", "internal/bytealg.IndexByteString", "internal/bytealg.CountString", "internal/bytealg.IndexString"], unfollowed := true, recurses := true, named := ["combiner/shade.axes", "internal/strconv.uint64pow10", "math/bits.deBruijn32tab", "math/bits.deBruijn64tab", "unicode/utf8.first", "unicode/utf8.acceptRanges", "internal/bytealg.MaxLen"], plainKeys := false, apart := false, laid := [("math/bits.deBruijn32tab", laid_math_bits_deBruijn32tab), ("math/bits.deBruijn64tab", laid_math_bits_deBruijn64tab), ("internal/strconv.uint64pow10", laid_internal_strconv_uint64pow10), ("unicode/utf8.acceptRanges", laid_unicode_utf8_acceptRanges), ("combiner/shade.axes", laid_combiner_shade_axes), ("unicode/utf8.first", laid_unicode_utf8_first)] }
def ShadePrintedSaid : Prop := shadePrintedRow.holds Tryz.pinned (OpenSpec.ofChange shadePrintedSpec)

/-- ITS FALSE NEIGHBOUR: 'it returns false'. Refute it at one input. -/
def shadePrintedWrong : ChangeSpec := { name := "shadePrinted", fn := fun _ => fun
  | [d1, d2] => { results := [.lit (.bool false)], args := [d1, d2] }
  | _ => none }
def ShadePrintedWrongFalsely : Prop := shadePrintedRow.holds Tryz.pinned (OpenSpec.ofChange shadePrintedWrong)

/- THE SECOND FORM. 'bulk': how many values and letters a reading holds, each counted each time it is reached (what is shared counts as often as it is met; a slice's spare places count too). A statement '..UptoSaid' is the law's where the arguments, and the package variables that the reading takes, are together of bulk at most 1048576: NARROWER than '..Said'. Prove '..Said' where nothing that the law and all that it calls make is longer than what came in: it says more and counts as full. Else prove '..UptoSaid'. A law counts once. -/
mutual
def uptoBulk {H : Type} : DataW H → Nat
  | .lit (.string bytes) => bytes.length + 1
  | .lit _ => 1
  | .nil => 1
  | .ptr d => uptoBulk d + 1
  | .slice elems spare => uptoBulkAll elems + uptoBulkAll spare + 1
  | .agg parts => uptoBulkAll parts + 1
  | .iface _ d => uptoBulk d + 1
  | .map entries => uptoBulkEntries entries + 1
  | .held _ => 1
def uptoBulkAll {H : Type} : List (DataW H) → Nat
  | [] => 0
  | d :: r => uptoBulk d + uptoBulkAll r
def uptoBulkEntries {H : Type} : List (Lit × DataW H) → Nat
  | [] => 0
  | x :: r => uptoBulkEntry x + uptoBulkEntries r
def uptoBulkEntry {H : Type} : Lit × DataW H → Nat
  | (.string bytes, d) => bytes.length + uptoBulk d + 1
  | (_, d) => uptoBulk d + 1
 end
def uptoSmall : (H : Type) → List (DataW H) → Bool := fun _ ds => decide (uptoBulkAll ds ≤ 1048576)
def OpenSpec.upto (s : _root_.Go.ChangeSpec) : _root_.Go.OpenSpec := { _root_.Go.OpenSpec.ofChange s with cond := some uptoSmall }

/-- 'combinerlaw03.ShadeSpots', WHERE WHAT IT READS IS OF BULK AT MOST 1048576: true; the input reads as it did. -/
def shadeSpotsUptoRow : OpenClaim := { program := "ytkaglomkahhjcaagreatdoor", sum := "190ae9561d60610a19540eb3e2bce3afce01498ebd84f1595063e9aeacf43d69", func := "combiner/combinerlaw03.ShadeSpots", spec := "shadeSpots", inPlace := ["internal/abi.NoEscape", "internal/bytealg.IndexByteString", "internal/bytealg.CountString", "internal/bytealg.IndexString"], unfollowed := true, recurses := true, named := ["combiner/shade.axes", "internal/strconv.uint64pow10", "math/bits.deBruijn32tab", "math/bits.deBruijn64tab", "unicode/utf8.first", "unicode/utf8.acceptRanges", "internal/bytealg.MaxLen"], plainKeys := false, apart := false, laid := [("math/bits.deBruijn32tab", laid_math_bits_deBruijn32tab), ("math/bits.deBruijn64tab", laid_math_bits_deBruijn64tab), ("internal/strconv.uint64pow10", laid_internal_strconv_uint64pow10), ("unicode/utf8.acceptRanges", laid_unicode_utf8_acceptRanges), ("combiner/shade.axes", laid_combiner_shade_axes), ("unicode/utf8.first", laid_unicode_utf8_first)], narrowed := true }
def ShadeSpotsUptoSaid : Prop := shadeSpotsUptoRow.holds Tryz.pinned (OpenSpec.upto shadeSpotsSpec)

/-- 'combinerlaw03.ShadeCells', WHERE WHAT IT READS IS OF BULK AT MOST 1048576: true; the input reads as it did. -/
def shadeCellsUptoRow : OpenClaim := { program := "ytkaglomkahhjcaagreatdoor", sum := "190ae9561d60610a19540eb3e2bce3afce01498ebd84f1595063e9aeacf43d69", func := "combiner/combinerlaw03.ShadeCells", spec := "shadeCells", inPlace := ["internal/abi.NoEscape", "internal/bytealg.IndexByteString", "internal/bytealg.CountString", "internal/bytealg.IndexString"], unfollowed := true, recurses := true, named := ["combiner/shade.axes", "internal/strconv.uint64pow10", "math/bits.deBruijn32tab", "math/bits.deBruijn64tab", "unicode/utf8.first", "unicode/utf8.acceptRanges", "internal/bytealg.MaxLen"], plainKeys := false, apart := false, laid := [("math/bits.deBruijn32tab", laid_math_bits_deBruijn32tab), ("math/bits.deBruijn64tab", laid_math_bits_deBruijn64tab), ("internal/strconv.uint64pow10", laid_internal_strconv_uint64pow10), ("unicode/utf8.acceptRanges", laid_unicode_utf8_acceptRanges), ("combiner/shade.axes", laid_combiner_shade_axes), ("unicode/utf8.first", laid_unicode_utf8_first)], narrowed := true }
def ShadeCellsUptoSaid : Prop := shadeCellsUptoRow.holds Tryz.pinned (OpenSpec.upto shadeCellsSpec)

/-- 'combinerlaw03.ShadeOutlines', WHERE WHAT IT READS IS OF BULK AT MOST 1048576: true; the input reads as it did. -/
def shadeOutlinesUptoRow : OpenClaim := { program := "ytkaglomkahhjcaagreatdoor", sum := "190ae9561d60610a19540eb3e2bce3afce01498ebd84f1595063e9aeacf43d69", func := "combiner/combinerlaw03.ShadeOutlines", spec := "shadeOutlines", inPlace := ["internal/abi.NoEscape", "internal/bytealg.IndexByteString", "internal/bytealg.CountString", "internal/bytealg.IndexString"], unfollowed := true, recurses := true, named := ["combiner/shade.axes", "internal/strconv.uint64pow10", "math/bits.deBruijn32tab", "math/bits.deBruijn64tab", "unicode/utf8.first", "unicode/utf8.acceptRanges", "internal/bytealg.MaxLen"], plainKeys := false, apart := false, laid := [("math/bits.deBruijn32tab", laid_math_bits_deBruijn32tab), ("math/bits.deBruijn64tab", laid_math_bits_deBruijn64tab), ("internal/strconv.uint64pow10", laid_internal_strconv_uint64pow10), ("unicode/utf8.acceptRanges", laid_unicode_utf8_acceptRanges), ("combiner/shade.axes", laid_combiner_shade_axes), ("unicode/utf8.first", laid_unicode_utf8_first)], narrowed := true }
def ShadeOutlinesUptoSaid : Prop := shadeOutlinesUptoRow.holds Tryz.pinned (OpenSpec.upto shadeOutlinesSpec)

/-- 'combinerlaw03.ShadeTilts', WHERE WHAT IT READS IS OF BULK AT MOST 1048576: true; the input reads as it did. -/
def shadeTiltsUptoRow : OpenClaim := { program := "ytkaglomkahhjcaagreatdoor", sum := "190ae9561d60610a19540eb3e2bce3afce01498ebd84f1595063e9aeacf43d69", func := "combiner/combinerlaw03.ShadeTilts", spec := "shadeTilts", inPlace := ["internal/abi.NoEscape", "internal/bytealg.IndexByteString", "internal/bytealg.CountString", "internal/bytealg.IndexString"], unfollowed := true, recurses := true, named := ["combiner/shade.axes", "internal/strconv.uint64pow10", "math/bits.deBruijn32tab", "math/bits.deBruijn64tab", "unicode/utf8.first", "unicode/utf8.acceptRanges", "internal/bytealg.MaxLen"], plainKeys := false, apart := false, laid := [("math/bits.deBruijn32tab", laid_math_bits_deBruijn32tab), ("math/bits.deBruijn64tab", laid_math_bits_deBruijn64tab), ("internal/strconv.uint64pow10", laid_internal_strconv_uint64pow10), ("unicode/utf8.acceptRanges", laid_unicode_utf8_acceptRanges), ("combiner/shade.axes", laid_combiner_shade_axes), ("unicode/utf8.first", laid_unicode_utf8_first)], narrowed := true }
def ShadeTiltsUptoSaid : Prop := shadeTiltsUptoRow.holds Tryz.pinned (OpenSpec.upto shadeTiltsSpec)

/-- 'combinerlaw03.ShadeRules', WHERE WHAT IT READS IS OF BULK AT MOST 1048576: true; the input reads as it did. -/
def shadeRulesUptoRow : OpenClaim := { program := "ytkaglomkahhjcaagreatdoor", sum := "190ae9561d60610a19540eb3e2bce3afce01498ebd84f1595063e9aeacf43d69", func := "combiner/combinerlaw03.ShadeRules", spec := "shadeRules", inPlace := ["internal/abi.NoEscape", "internal/bytealg.IndexByteString", "internal/bytealg.CountString", "internal/bytealg.IndexString"], unfollowed := true, recurses := true, named := ["combiner/shade.axes", "internal/strconv.uint64pow10", "math/bits.deBruijn32tab", "math/bits.deBruijn64tab", "unicode/utf8.first", "unicode/utf8.acceptRanges", "internal/bytealg.MaxLen"], plainKeys := false, apart := false, laid := [("math/bits.deBruijn32tab", laid_math_bits_deBruijn32tab), ("math/bits.deBruijn64tab", laid_math_bits_deBruijn64tab), ("internal/strconv.uint64pow10", laid_internal_strconv_uint64pow10), ("unicode/utf8.acceptRanges", laid_unicode_utf8_acceptRanges), ("combiner/shade.axes", laid_combiner_shade_axes), ("unicode/utf8.first", laid_unicode_utf8_first)], narrowed := true }
def ShadeRulesUptoSaid : Prop := shadeRulesUptoRow.holds Tryz.pinned (OpenSpec.upto shadeRulesSpec)

/-- 'combinerlaw03.ShadeStrings', WHERE WHAT IT READS IS OF BULK AT MOST 1048576: true; the input reads as it did. -/
def shadeStringsUptoRow : OpenClaim := { program := "ytkaglomkahhjcaagreatdoor", sum := "190ae9561d60610a19540eb3e2bce3afce01498ebd84f1595063e9aeacf43d69", func := "combiner/combinerlaw03.ShadeStrings", spec := "shadeStrings", inPlace := ["internal/abi.NoEscape", "internal/bytealg.IndexByteString", "internal/bytealg.CountString", "internal/bytealg.IndexString"], unfollowed := true, recurses := true, named := ["combiner/shade.axes", "internal/strconv.uint64pow10", "math/bits.deBruijn32tab", "math/bits.deBruijn64tab", "unicode/utf8.first", "unicode/utf8.acceptRanges", "internal/bytealg.MaxLen"], plainKeys := false, apart := false, laid := [("math/bits.deBruijn32tab", laid_math_bits_deBruijn32tab), ("math/bits.deBruijn64tab", laid_math_bits_deBruijn64tab), ("internal/strconv.uint64pow10", laid_internal_strconv_uint64pow10), ("unicode/utf8.acceptRanges", laid_unicode_utf8_acceptRanges), ("combiner/shade.axes", laid_combiner_shade_axes), ("unicode/utf8.first", laid_unicode_utf8_first)], narrowed := true }
def ShadeStringsUptoSaid : Prop := shadeStringsUptoRow.holds Tryz.pinned (OpenSpec.upto shadeStringsSpec)

/-- 'combinerlaw03.ShadeOnce', WHERE WHAT IT READS IS OF BULK AT MOST 1048576: true; the input reads as it did. -/
def shadeOnceUptoRow : OpenClaim := { program := "ytkaglomkahhjcaagreatdoor", sum := "190ae9561d60610a19540eb3e2bce3afce01498ebd84f1595063e9aeacf43d69", func := "combiner/combinerlaw03.ShadeOnce", spec := "shadeOnce", inPlace := ["internal/abi.NoEscape", "internal/bytealg.IndexByteString", "internal/bytealg.CountString", "internal/bytealg.IndexString"], unfollowed := true, recurses := true, named := ["combiner/shade.axes", "internal/strconv.uint64pow10", "math/bits.deBruijn32tab", "math/bits.deBruijn64tab", "unicode/utf8.first", "unicode/utf8.acceptRanges", "internal/bytealg.MaxLen"], plainKeys := false, apart := false, laid := [("math/bits.deBruijn32tab", laid_math_bits_deBruijn32tab), ("math/bits.deBruijn64tab", laid_math_bits_deBruijn64tab), ("internal/strconv.uint64pow10", laid_internal_strconv_uint64pow10), ("unicode/utf8.acceptRanges", laid_unicode_utf8_acceptRanges), ("combiner/shade.axes", laid_combiner_shade_axes), ("unicode/utf8.first", laid_unicode_utf8_first)], narrowed := true }
def ShadeOnceUptoSaid : Prop := shadeOnceUptoRow.holds Tryz.pinned (OpenSpec.upto shadeOnceSpec)

/-- 'combinerlaw03.ShadeSame', WHERE WHAT IT READS IS OF BULK AT MOST 1048576: true; the input reads as it did. -/
def shadeSameUptoRow : OpenClaim := { program := "ytkaglomkahhjcaagreatdoor", sum := "190ae9561d60610a19540eb3e2bce3afce01498ebd84f1595063e9aeacf43d69", func := "combiner/combinerlaw03.ShadeSame", spec := "shadeSame", inPlace := ["internal/abi.NoEscape", "internal/bytealg.IndexByteString", "internal/bytealg.CountString", "internal/bytealg.IndexString"], unfollowed := true, recurses := true, named := ["combiner/shade.axes", "internal/strconv.uint64pow10", "math/bits.deBruijn32tab", "math/bits.deBruijn64tab", "unicode/utf8.first", "unicode/utf8.acceptRanges", "internal/bytealg.MaxLen"], plainKeys := false, apart := false, laid := [("math/bits.deBruijn32tab", laid_math_bits_deBruijn32tab), ("math/bits.deBruijn64tab", laid_math_bits_deBruijn64tab), ("internal/strconv.uint64pow10", laid_internal_strconv_uint64pow10), ("unicode/utf8.acceptRanges", laid_unicode_utf8_acceptRanges), ("combiner/shade.axes", laid_combiner_shade_axes), ("unicode/utf8.first", laid_unicode_utf8_first)], narrowed := true }
def ShadeSameUptoSaid : Prop := shadeSameUptoRow.holds Tryz.pinned (OpenSpec.upto shadeSameSpec)

/-- 'combinerlaw03.ShadeTracked', WHERE WHAT IT READS IS OF BULK AT MOST 1048576: true; the input reads as it did. -/
def shadeTrackedUptoRow : OpenClaim := { program := "ytkaglomkahhjcaagreatdoor", sum := "190ae9561d60610a19540eb3e2bce3afce01498ebd84f1595063e9aeacf43d69", func := "combiner/combinerlaw03.ShadeTracked", spec := "shadeTracked", inPlace := ["internal/abi.NoEscape", "internal/bytealg.IndexByteString", "internal/bytealg.CountString", "internal/bytealg.IndexString"], unfollowed := true, recurses := true, named := ["combiner/shade.axes", "internal/strconv.uint64pow10", "math/bits.deBruijn32tab", "math/bits.deBruijn64tab", "unicode/utf8.first", "unicode/utf8.acceptRanges", "internal/bytealg.MaxLen"], plainKeys := false, apart := false, laid := [("math/bits.deBruijn32tab", laid_math_bits_deBruijn32tab), ("math/bits.deBruijn64tab", laid_math_bits_deBruijn64tab), ("internal/strconv.uint64pow10", laid_internal_strconv_uint64pow10), ("unicode/utf8.acceptRanges", laid_unicode_utf8_acceptRanges), ("combiner/shade.axes", laid_combiner_shade_axes), ("unicode/utf8.first", laid_unicode_utf8_first)], narrowed := true }
def ShadeTrackedUptoSaid : Prop := shadeTrackedUptoRow.holds Tryz.pinned (OpenSpec.upto shadeTrackedSpec)

/-- 'combinerlaw03.ShadePrinted', WHERE WHAT IT READS IS OF BULK AT MOST 1048576: true; the input reads as it did. -/
def shadePrintedUptoRow : OpenClaim := { program := "ytkaglomkahhjcaagreatdoor", sum := "190ae9561d60610a19540eb3e2bce3afce01498ebd84f1595063e9aeacf43d69", func := "combiner/combinerlaw03.ShadePrinted", spec := "shadePrinted", inPlace := ["internal/abi.NoEscape", "internal/bytealg.IndexByteString", "internal/bytealg.CountString", "internal/bytealg.IndexString"], unfollowed := true, recurses := true, named := ["combiner/shade.axes", "internal/strconv.uint64pow10", "math/bits.deBruijn32tab", "math/bits.deBruijn64tab", "unicode/utf8.first", "unicode/utf8.acceptRanges", "internal/bytealg.MaxLen"], plainKeys := false, apart := false, laid := [("math/bits.deBruijn32tab", laid_math_bits_deBruijn32tab), ("math/bits.deBruijn64tab", laid_math_bits_deBruijn64tab), ("internal/strconv.uint64pow10", laid_internal_strconv_uint64pow10), ("unicode/utf8.acceptRanges", laid_unicode_utf8_acceptRanges), ("combiner/shade.axes", laid_combiner_shade_axes), ("unicode/utf8.first", laid_unicode_utf8_first)], narrowed := true }
def ShadePrintedUptoSaid : Prop := shadePrintedUptoRow.holds Tryz.pinned (OpenSpec.upto shadePrintedSpec)

end Rows
end Go.Proofs.YtkaglomkahhjcaaGreatDoor
