/-
  NARROWER THAN 'FOR EVERY INPUT', by the rows' own cells (each row's printed sentence says how): CurveCells: laid · CurveChains: laid · CurveFields: laid · CurveBounds: laid · CurvePeaks: laid · CurveHighest: laid · CurveDarker: laid · CurveStrings: laid · CurveFalls: laid.
  DERIVED. THE GIVEN ROWS OF THIS SEAT. 9 by the template 'for every input the law returns true; each argument reads behind the call as it read before'; 0 by the template 'total and deterministic' (their statements: YtbkginjiknnobaaGreatDoorTotals.lean).
  GIVEN WITH THE SEED: the statements are not yours to turn. If you find one false, say at which input.
  Laid BY PROGRAM, IN A SANDBOX (cutbox-rows.mjs): the forced cells as the released guide's own fill.sh prints them over the translation 369fb2883b41483b… (all of the seat's roots in one cut). By AI agents, Wed Nov 11 2026. No macro, syntax, notation, axiom, sorry.
-/
import Derived.Test.YtbkginjiknnobaaGreatDoorChecked
import GoSem.PinnedTables
import GoSem.Claim
import GoSem.ClaimJoined
import GoSem.ClaimMapViews
import Derived.JoinedTies
import Derived.KernelRfl
namespace Go.Proofs.YtbkginjiknnobaaGreatDoor
/- THE CELL 'sum', in the pinned program and in every row, IS THE sha256 OF THE DUMP (.gsa) THAT YtbkginjiknnobaaGreatDoorProg.lean LOADS. Nothing in Lean hashes anything: it is a label: what it is worth is what the hold of that sum in a sandbox is worth. -/
noncomputable def Tryz.pinned : Pinned := { name := "ytbkginjiknnobaagreatdoor", sum := "369fb2883b41483b93a9bb70a71c92bed5eff423740aea7f8e48aedc2968961e", checked := Tryz.checked }
namespace Rows
def none {H : Type} : Left H := { results := [], args := [] }

/- WHAT THE LISTED PACKAGE-LEVEL VARIABLES READ AS WHEN THE CALL BEGINS. Each datum BY PROGRAM (the guide's laid-datum.mjs) off the statement by which the dump's own 'gosem.cut.vars' lays the variable. In a bare row this is a premise. The card (YtbkginjiknnobaaGreatDoorCards.lean) ties it to the program's text. -/
def laid_math_bits_deBruijn32tab {H : Type} : DataW H := .agg [.lit (.int .u8 0), .lit (.int .u8 1), .lit (.int .u8 28), .lit (.int .u8 2), .lit (.int .u8 29), .lit (.int .u8 14), .lit (.int .u8 24), .lit (.int .u8 3), .lit (.int .u8 30), .lit (.int .u8 22), .lit (.int .u8 20), .lit (.int .u8 15), .lit (.int .u8 25), .lit (.int .u8 17), .lit (.int .u8 4), .lit (.int .u8 8), .lit (.int .u8 31), .lit (.int .u8 27), .lit (.int .u8 13), .lit (.int .u8 23), .lit (.int .u8 21), .lit (.int .u8 19), .lit (.int .u8 16), .lit (.int .u8 7), .lit (.int .u8 26), .lit (.int .u8 12), .lit (.int .u8 18), .lit (.int .u8 6), .lit (.int .u8 11), .lit (.int .u8 5), .lit (.int .u8 10), .lit (.int .u8 9)]
def laid_math_bits_deBruijn64tab {H : Type} : DataW H := .agg [.lit (.int .u8 0), .lit (.int .u8 1), .lit (.int .u8 56), .lit (.int .u8 2), .lit (.int .u8 57), .lit (.int .u8 49), .lit (.int .u8 28), .lit (.int .u8 3), .lit (.int .u8 61), .lit (.int .u8 58), .lit (.int .u8 42), .lit (.int .u8 50), .lit (.int .u8 38), .lit (.int .u8 29), .lit (.int .u8 17), .lit (.int .u8 4), .lit (.int .u8 62), .lit (.int .u8 47), .lit (.int .u8 59), .lit (.int .u8 36), .lit (.int .u8 45), .lit (.int .u8 43), .lit (.int .u8 51), .lit (.int .u8 22), .lit (.int .u8 53), .lit (.int .u8 39), .lit (.int .u8 33), .lit (.int .u8 30), .lit (.int .u8 24), .lit (.int .u8 18), .lit (.int .u8 12), .lit (.int .u8 5), .lit (.int .u8 63), .lit (.int .u8 55), .lit (.int .u8 48), .lit (.int .u8 27), .lit (.int .u8 60), .lit (.int .u8 41), .lit (.int .u8 37), .lit (.int .u8 16), .lit (.int .u8 46), .lit (.int .u8 35), .lit (.int .u8 44), .lit (.int .u8 21), .lit (.int .u8 52), .lit (.int .u8 32), .lit (.int .u8 23), .lit (.int .u8 11), .lit (.int .u8 54), .lit (.int .u8 26), .lit (.int .u8 40), .lit (.int .u8 15), .lit (.int .u8 34), .lit (.int .u8 20), .lit (.int .u8 31), .lit (.int .u8 10), .lit (.int .u8 25), .lit (.int .u8 14), .lit (.int .u8 19), .lit (.int .u8 9), .lit (.int .u8 13), .lit (.int .u8 8), .lit (.int .u8 7), .lit (.int .u8 6)]
def laid_internal_strconv_uint64pow10 {H : Type} : DataW H := .agg [.lit (.int .u64 1), .lit (.int .u64 10), .lit (.int .u64 100), .lit (.int .u64 1000), .lit (.int .u64 10000), .lit (.int .u64 100000), .lit (.int .u64 1000000), .lit (.int .u64 10000000), .lit (.int .u64 100000000), .lit (.int .u64 1000000000), .lit (.int .u64 10000000000), .lit (.int .u64 100000000000), .lit (.int .u64 1000000000000), .lit (.int .u64 10000000000000), .lit (.int .u64 100000000000000), .lit (.int .u64 1000000000000000), .lit (.int .u64 10000000000000000), .lit (.int .u64 100000000000000000), .lit (.int .u64 1000000000000000000), .lit (.int .u64 10000000000000000000)]
def laid_combiner_curve_words {H : Type} : DataW H := .iface "func table" (.agg [.agg [.lit (.string [115, 97, 109, 101]), .iface "func" (.lit (.string [99, 111, 109, 98, 105, 110, 101, 114, 47, 99, 117, 114, 118, 101, 46, 119, 111, 114, 100, 115, 36, 49]))], .agg [.lit (.string [109, 111, 114, 101]), .iface "func" (.lit (.string [99, 111, 109, 98, 105, 110, 101, 114, 47, 99, 117, 114, 118, 101, 46, 119, 111, 114, 100, 115, 36, 50]))], .agg [.lit (.string [111, 112, 101, 110]), .iface "func" (.lit (.string [99, 111, 109, 98, 105, 110, 101, 114, 47, 99, 117, 114, 118, 101, 46, 119, 111, 114, 100, 115, 36, 51]))], .agg [.lit (.string [100, 97, 114, 107]), .iface "func" (.lit (.string [99, 111, 109, 98, 105, 110, 101, 114, 47, 99, 117, 114, 118, 101, 46, 119, 111, 114, 100, 115, 36, 52]))], .agg [.lit (.string [98, 121, 112, 97, 115, 115, 101, 100]), .iface "func" (.lit (.string [99, 111, 109, 98, 105, 110, 101, 114, 47, 99, 117, 114, 118, 101, 46, 119, 111, 114, 100, 115, 36, 53]))]])
def laid_unicode_utf8_acceptRanges {H : Type} : DataW H := .agg [.agg [.lit (.int .u8 128), .lit (.int .u8 191)], .agg [.lit (.int .u8 160), .lit (.int .u8 191)], .agg [.lit (.int .u8 128), .lit (.int .u8 159)], .agg [.lit (.int .u8 144), .lit (.int .u8 191)], .agg [.lit (.int .u8 128), .lit (.int .u8 143)], .agg [.lit (.int .u8 0), .lit (.int .u8 0)], .agg [.lit (.int .u8 0), .lit (.int .u8 0)], .agg [.lit (.int .u8 0), .lit (.int .u8 0)], .agg [.lit (.int .u8 0), .lit (.int .u8 0)], .agg [.lit (.int .u8 0), .lit (.int .u8 0)], .agg [.lit (.int .u8 0), .lit (.int .u8 0)], .agg [.lit (.int .u8 0), .lit (.int .u8 0)], .agg [.lit (.int .u8 0), .lit (.int .u8 0)], .agg [.lit (.int .u8 0), .lit (.int .u8 0)], .agg [.lit (.int .u8 0), .lit (.int .u8 0)], .agg [.lit (.int .u8 0), .lit (.int .u8 0)]]
/-- One of Go's own tables, pinned by name: the form's constant. -/
def laid_unicode_utf8_first : DataW Unit := Go.Pinned.utf8First

/-- 'combinerlaw04.CurveCells': WHATEVER THE INPUT: true; the input reads as it did. -/
def curveCellsSpec : ChangeSpec := { name := "curveCells", fn := fun _ => fun
  | [d1, d2, d3] => { results := [.lit (.bool true)], args := [d1, d2, d3] }
  | _ => none }
def curveCellsRow : OpenClaim := { program := "ytbkginjiknnobaagreatdoor", sum := "369fb2883b41483b93a9bb70a71c92bed5eff423740aea7f8e48aedc2968961e", func := "combiner/combinerlaw04.CurveCells", spec := "curveCells", inPlace := ["internal/abi.NoEscape", "internal/bytealg.MakeNoZero"], unfollowed := true, recurses := true, named := ["combiner/curve.words", "internal/strconv.uint64pow10", "math/bits.deBruijn32tab", "math/bits.deBruijn64tab"], apart := false, laid := [("math/bits.deBruijn32tab", laid_math_bits_deBruijn32tab), ("math/bits.deBruijn64tab", laid_math_bits_deBruijn64tab), ("internal/strconv.uint64pow10", laid_internal_strconv_uint64pow10), ("combiner/curve.words", laid_combiner_curve_words)] }
def CurveCellsSaid : Prop := curveCellsRow.holds Tryz.pinned (OpenSpec.ofChange curveCellsSpec)

/-- ITS FALSE NEIGHBOUR: 'it returns false'. Refute it at one input. -/
def curveCellsWrong : ChangeSpec := { name := "curveCells", fn := fun _ => fun
  | [d1, d2, d3] => { results := [.lit (.bool false)], args := [d1, d2, d3] }
  | _ => none }
def CurveCellsWrongFalsely : Prop := curveCellsRow.holds Tryz.pinned (OpenSpec.ofChange curveCellsWrong)

/-- 'combinerlaw04.CurveChains': WHATEVER THE INPUT: true; the input reads as it did. -/
def curveChainsSpec : ChangeSpec := { name := "curveChains", fn := fun _ => fun
  | [d1, d2, d3] => { results := [.lit (.bool true)], args := [d1, d2, d3] }
  | _ => none }
def curveChainsRow : OpenClaim := { program := "ytbkginjiknnobaagreatdoor", sum := "369fb2883b41483b93a9bb70a71c92bed5eff423740aea7f8e48aedc2968961e", func := "combiner/combinerlaw04.CurveChains", spec := "curveChains", inPlace := ["internal/abi.NoEscape", "internal/bytealg.MakeNoZero"], unfollowed := true, recurses := true, named := ["combiner/curve.words", "internal/strconv.uint64pow10", "math/bits.deBruijn32tab", "math/bits.deBruijn64tab"], apart := false, laid := [("math/bits.deBruijn32tab", laid_math_bits_deBruijn32tab), ("math/bits.deBruijn64tab", laid_math_bits_deBruijn64tab), ("internal/strconv.uint64pow10", laid_internal_strconv_uint64pow10), ("combiner/curve.words", laid_combiner_curve_words)] }
def CurveChainsSaid : Prop := curveChainsRow.holds Tryz.pinned (OpenSpec.ofChange curveChainsSpec)

/-- ITS FALSE NEIGHBOUR: 'it returns false'. Refute it at one input. -/
def curveChainsWrong : ChangeSpec := { name := "curveChains", fn := fun _ => fun
  | [d1, d2, d3] => { results := [.lit (.bool false)], args := [d1, d2, d3] }
  | _ => none }
def CurveChainsWrongFalsely : Prop := curveChainsRow.holds Tryz.pinned (OpenSpec.ofChange curveChainsWrong)

/-- 'combinerlaw04.CurveFields': WHATEVER THE INPUT: true; the input reads as it did. -/
def curveFieldsSpec : ChangeSpec := { name := "curveFields", fn := fun _ => fun
  | [d1, d2] => { results := [.lit (.bool true)], args := [d1, d2] }
  | _ => none }
def curveFieldsRow : OpenClaim := { program := "ytbkginjiknnobaagreatdoor", sum := "369fb2883b41483b93a9bb70a71c92bed5eff423740aea7f8e48aedc2968961e", func := "combiner/combinerlaw04.CurveFields", spec := "curveFields", inPlace := ["internal/abi.NoEscape", "internal/bytealg.MakeNoZero"], unfollowed := true, recurses := true, named := ["combiner/curve.words", "internal/strconv.uint64pow10", "math/bits.deBruijn32tab", "math/bits.deBruijn64tab"], apart := false, laid := [("math/bits.deBruijn32tab", laid_math_bits_deBruijn32tab), ("math/bits.deBruijn64tab", laid_math_bits_deBruijn64tab), ("internal/strconv.uint64pow10", laid_internal_strconv_uint64pow10), ("combiner/curve.words", laid_combiner_curve_words)] }
def CurveFieldsSaid : Prop := curveFieldsRow.holds Tryz.pinned (OpenSpec.ofChange curveFieldsSpec)

/-- ITS FALSE NEIGHBOUR: 'it returns false'. Refute it at one input. -/
def curveFieldsWrong : ChangeSpec := { name := "curveFields", fn := fun _ => fun
  | [d1, d2] => { results := [.lit (.bool false)], args := [d1, d2] }
  | _ => none }
def CurveFieldsWrongFalsely : Prop := curveFieldsRow.holds Tryz.pinned (OpenSpec.ofChange curveFieldsWrong)

/-- 'combinerlaw04.CurveBounds': WHATEVER THE INPUT: true; the input reads as it did. -/
def curveBoundsSpec : ChangeSpec := { name := "curveBounds", fn := fun _ => fun
  | [d1, d2, d3] => { results := [.lit (.bool true)], args := [d1, d2, d3] }
  | _ => none }
def curveBoundsRow : OpenClaim := { program := "ytbkginjiknnobaagreatdoor", sum := "369fb2883b41483b93a9bb70a71c92bed5eff423740aea7f8e48aedc2968961e", func := "combiner/combinerlaw04.CurveBounds", spec := "curveBounds", inPlace := ["internal/abi.NoEscape", "internal/bytealg.MakeNoZero"], unfollowed := true, recurses := true, named := ["combiner/curve.words", "internal/strconv.uint64pow10", "math/bits.deBruijn32tab", "math/bits.deBruijn64tab"], apart := false, laid := [("math/bits.deBruijn32tab", laid_math_bits_deBruijn32tab), ("math/bits.deBruijn64tab", laid_math_bits_deBruijn64tab), ("internal/strconv.uint64pow10", laid_internal_strconv_uint64pow10), ("combiner/curve.words", laid_combiner_curve_words)] }
def CurveBoundsSaid : Prop := curveBoundsRow.holds Tryz.pinned (OpenSpec.ofChange curveBoundsSpec)

/-- ITS FALSE NEIGHBOUR: 'it returns false'. Refute it at one input. -/
def curveBoundsWrong : ChangeSpec := { name := "curveBounds", fn := fun _ => fun
  | [d1, d2, d3] => { results := [.lit (.bool false)], args := [d1, d2, d3] }
  | _ => none }
def CurveBoundsWrongFalsely : Prop := curveBoundsRow.holds Tryz.pinned (OpenSpec.ofChange curveBoundsWrong)

/-- 'combinerlaw04.CurvePeaks': WHATEVER THE INPUT: true; the input reads as it did. -/
def curvePeaksSpec : ChangeSpec := { name := "curvePeaks", fn := fun _ => fun
  | [d1, d2, d3] => { results := [.lit (.bool true)], args := [d1, d2, d3] }
  | _ => none }
def curvePeaksRow : OpenClaim := { program := "ytbkginjiknnobaagreatdoor", sum := "369fb2883b41483b93a9bb70a71c92bed5eff423740aea7f8e48aedc2968961e", func := "combiner/combinerlaw04.CurvePeaks", spec := "curvePeaks", inPlace := ["internal/abi.NoEscape", "internal/bytealg.MakeNoZero"], unfollowed := true, recurses := true, named := ["combiner/curve.words", "internal/strconv.uint64pow10", "math/bits.deBruijn32tab", "math/bits.deBruijn64tab"], apart := false, laid := [("math/bits.deBruijn32tab", laid_math_bits_deBruijn32tab), ("math/bits.deBruijn64tab", laid_math_bits_deBruijn64tab), ("internal/strconv.uint64pow10", laid_internal_strconv_uint64pow10), ("combiner/curve.words", laid_combiner_curve_words)] }
def CurvePeaksSaid : Prop := curvePeaksRow.holds Tryz.pinned (OpenSpec.ofChange curvePeaksSpec)

/-- ITS FALSE NEIGHBOUR: 'it returns false'. Refute it at one input. -/
def curvePeaksWrong : ChangeSpec := { name := "curvePeaks", fn := fun _ => fun
  | [d1, d2, d3] => { results := [.lit (.bool false)], args := [d1, d2, d3] }
  | _ => none }
def CurvePeaksWrongFalsely : Prop := curvePeaksRow.holds Tryz.pinned (OpenSpec.ofChange curvePeaksWrong)

/-- 'combinerlaw04.CurveHighest': WHATEVER THE INPUT: true; the input reads as it did. -/
def curveHighestSpec : ChangeSpec := { name := "curveHighest", fn := fun _ => fun
  | [d] => { results := [.lit (.bool true)], args := [d] }
  | _ => none }
def curveHighestRow : OpenClaim := { program := "ytbkginjiknnobaagreatdoor", sum := "369fb2883b41483b93a9bb70a71c92bed5eff423740aea7f8e48aedc2968961e", func := "combiner/combinerlaw04.CurveHighest", spec := "curveHighest", inPlace := ["internal/abi.NoEscape", "internal/bytealg.MakeNoZero"], unfollowed := true, recurses := true, named := ["combiner/curve.words", "internal/strconv.uint64pow10", "math/bits.deBruijn32tab", "math/bits.deBruijn64tab"], apart := false, laid := [("math/bits.deBruijn32tab", laid_math_bits_deBruijn32tab), ("math/bits.deBruijn64tab", laid_math_bits_deBruijn64tab), ("internal/strconv.uint64pow10", laid_internal_strconv_uint64pow10), ("combiner/curve.words", laid_combiner_curve_words)] }
def CurveHighestSaid : Prop := curveHighestRow.holds Tryz.pinned (OpenSpec.ofChange curveHighestSpec)

/-- ITS FALSE NEIGHBOUR: 'it returns false'. Refute it at one input. -/
def curveHighestWrong : ChangeSpec := { name := "curveHighest", fn := fun _ => fun
  | [d] => { results := [.lit (.bool false)], args := [d] }
  | _ => none }
def CurveHighestWrongFalsely : Prop := curveHighestRow.holds Tryz.pinned (OpenSpec.ofChange curveHighestWrong)

/-- 'combinerlaw04.CurveDarker': WHATEVER THE INPUT: true; the input reads as it did. -/
def curveDarkerSpec : ChangeSpec := { name := "curveDarker", fn := fun _ => fun
  | [d1, d2, d3] => { results := [.lit (.bool true)], args := [d1, d2, d3] }
  | _ => none }
def curveDarkerRow : OpenClaim := { program := "ytbkginjiknnobaagreatdoor", sum := "369fb2883b41483b93a9bb70a71c92bed5eff423740aea7f8e48aedc2968961e", func := "combiner/combinerlaw04.CurveDarker", spec := "curveDarker", inPlace := ["internal/abi.NoEscape", "internal/bytealg.MakeNoZero"], unfollowed := true, recurses := true, named := ["combiner/curve.words", "internal/strconv.uint64pow10", "math/bits.deBruijn32tab", "math/bits.deBruijn64tab"], apart := false, laid := [("math/bits.deBruijn32tab", laid_math_bits_deBruijn32tab), ("math/bits.deBruijn64tab", laid_math_bits_deBruijn64tab), ("internal/strconv.uint64pow10", laid_internal_strconv_uint64pow10), ("combiner/curve.words", laid_combiner_curve_words)] }
def CurveDarkerSaid : Prop := curveDarkerRow.holds Tryz.pinned (OpenSpec.ofChange curveDarkerSpec)

/-- ITS FALSE NEIGHBOUR: 'it returns false'. Refute it at one input. -/
def curveDarkerWrong : ChangeSpec := { name := "curveDarker", fn := fun _ => fun
  | [d1, d2, d3] => { results := [.lit (.bool false)], args := [d1, d2, d3] }
  | _ => none }
def CurveDarkerWrongFalsely : Prop := curveDarkerRow.holds Tryz.pinned (OpenSpec.ofChange curveDarkerWrong)

/-- 'combinerlaw04.CurveStrings': WHATEVER THE INPUT: true; the input reads as it did. -/
def curveStringsSpec : ChangeSpec := { name := "curveStrings", fn := fun _ => fun
  | [d1, d2] => { results := [.lit (.bool true)], args := [d1, d2] }
  | _ => none }
def curveStringsRow : OpenClaim := { program := "ytbkginjiknnobaagreatdoor", sum := "369fb2883b41483b93a9bb70a71c92bed5eff423740aea7f8e48aedc2968961e", func := "combiner/combinerlaw04.CurveStrings", spec := "curveStrings", inPlace := ["internal/abi.NoEscape", "internal/bytealg.MakeNoZero", "internal/bytealg.IndexByteString", "internal/bytealg.CountString", "internal/bytealg.IndexString"], unfollowed := true, recurses := true, named := ["combiner/curve.words", "internal/strconv.uint64pow10", "math/bits.deBruijn32tab", "math/bits.deBruijn64tab", "unicode/utf8.first", "unicode/utf8.acceptRanges", "internal/bytealg.MaxLen"], apart := false, laid := [("math/bits.deBruijn32tab", laid_math_bits_deBruijn32tab), ("math/bits.deBruijn64tab", laid_math_bits_deBruijn64tab), ("internal/strconv.uint64pow10", laid_internal_strconv_uint64pow10), ("unicode/utf8.acceptRanges", laid_unicode_utf8_acceptRanges), ("combiner/curve.words", laid_combiner_curve_words), ("unicode/utf8.first", laid_unicode_utf8_first)] }
def CurveStringsSaid : Prop := curveStringsRow.holds Tryz.pinned (OpenSpec.ofChange curveStringsSpec)

/-- ITS FALSE NEIGHBOUR: 'it returns false'. Refute it at one input. -/
def curveStringsWrong : ChangeSpec := { name := "curveStrings", fn := fun _ => fun
  | [d1, d2] => { results := [.lit (.bool false)], args := [d1, d2] }
  | _ => none }
def CurveStringsWrongFalsely : Prop := curveStringsRow.holds Tryz.pinned (OpenSpec.ofChange curveStringsWrong)

/-- 'combinerlaw04.CurveFalls': WHATEVER THE INPUT: true; the input reads as it did. -/
def curveFallsSpec : ChangeSpec := { name := "curveFalls", fn := fun _ => fun
  | [d1, d2] => { results := [.lit (.bool true)], args := [d1, d2] }
  | _ => none }
def curveFallsRow : OpenClaim := { program := "ytbkginjiknnobaagreatdoor", sum := "369fb2883b41483b93a9bb70a71c92bed5eff423740aea7f8e48aedc2968961e", func := "combiner/combinerlaw04.CurveFalls", spec := "curveFalls", inPlace := ["internal/abi.NoEscape", "internal/bytealg.MakeNoZero", "internal/bytealg.IndexByteString", "internal/bytealg.CountString", "internal/bytealg.IndexString"], unfollowed := true, recurses := true, named := ["combiner/curve.words", "internal/strconv.uint64pow10", "math/bits.deBruijn32tab", "math/bits.deBruijn64tab", "unicode/utf8.first", "unicode/utf8.acceptRanges", "internal/bytealg.MaxLen"], apart := false, laid := [("math/bits.deBruijn32tab", laid_math_bits_deBruijn32tab), ("math/bits.deBruijn64tab", laid_math_bits_deBruijn64tab), ("internal/strconv.uint64pow10", laid_internal_strconv_uint64pow10), ("unicode/utf8.acceptRanges", laid_unicode_utf8_acceptRanges), ("combiner/curve.words", laid_combiner_curve_words), ("unicode/utf8.first", laid_unicode_utf8_first)] }
def CurveFallsSaid : Prop := curveFallsRow.holds Tryz.pinned (OpenSpec.ofChange curveFallsSpec)

/-- ITS FALSE NEIGHBOUR: 'it returns false'. Refute it at one input. -/
def curveFallsWrong : ChangeSpec := { name := "curveFalls", fn := fun _ => fun
  | [d1, d2] => { results := [.lit (.bool false)], args := [d1, d2] }
  | _ => none }
def CurveFallsWrongFalsely : Prop := curveFallsRow.holds Tryz.pinned (OpenSpec.ofChange curveFallsWrong)

/- THE SECOND FORM. 'bulk': how many values and letters a reading holds, each counted each time it is reached (what is shared counts as often as it is met; a slice's spare places count too). A statement '..UptoSaid' is the law's where the arguments, and the package variables that the reading takes, are together of bulk at most 1048576: NARROWER than '..Said'. Prove '..Said' where nothing that the law and all that it calls make is longer than what came in: it says more and counts as full. Else prove '..UptoSaid'. A law counts once. -/
mutual
def uptoBulk {H : Type} : DataW H → Nat
  | .lit (.string bytes) => bytes.length + 1
  | .lit _ => 1
  | .nil => 1
  | .ptr d => uptoBulk d + 1
  | .slice elems spare => uptoBulkAll elems + uptoBulkAll spare + 1
  | .agg parts => uptoBulkAll parts + 1
  | .iface _ d => uptoBulk d + 1
  | .map entries => uptoBulkEntries entries + 1
  | .held _ => 1
def uptoBulkAll {H : Type} : List (DataW H) → Nat
  | [] => 0
  | d :: r => uptoBulk d + uptoBulkAll r
def uptoBulkEntries {H : Type} : List (Lit × DataW H) → Nat
  | [] => 0
  | x :: r => uptoBulkEntry x + uptoBulkEntries r
def uptoBulkEntry {H : Type} : Lit × DataW H → Nat
  | (.string bytes, d) => bytes.length + uptoBulk d + 1
  | (_, d) => uptoBulk d + 1
 end
def uptoSmall : (H : Type) → List (DataW H) → Bool := fun _ ds => decide (uptoBulkAll ds ≤ 1048576)
def OpenSpec.upto (s : _root_.Go.ChangeSpec) : _root_.Go.OpenSpec := { _root_.Go.OpenSpec.ofChange s with cond := some uptoSmall }

/-- 'combinerlaw04.CurveCells', WHERE WHAT IT READS IS OF BULK AT MOST 1048576: true; the input reads as it did. -/
def curveCellsUptoRow : OpenClaim := { program := "ytbkginjiknnobaagreatdoor", sum := "369fb2883b41483b93a9bb70a71c92bed5eff423740aea7f8e48aedc2968961e", func := "combiner/combinerlaw04.CurveCells", spec := "curveCells", inPlace := ["internal/abi.NoEscape", "internal/bytealg.MakeNoZero"], unfollowed := true, recurses := true, named := ["combiner/curve.words", "internal/strconv.uint64pow10", "math/bits.deBruijn32tab", "math/bits.deBruijn64tab"], apart := false, laid := [("math/bits.deBruijn32tab", laid_math_bits_deBruijn32tab), ("math/bits.deBruijn64tab", laid_math_bits_deBruijn64tab), ("internal/strconv.uint64pow10", laid_internal_strconv_uint64pow10), ("combiner/curve.words", laid_combiner_curve_words)], narrowed := true }
def CurveCellsUptoSaid : Prop := curveCellsUptoRow.holds Tryz.pinned (OpenSpec.upto curveCellsSpec)

/-- 'combinerlaw04.CurveChains', WHERE WHAT IT READS IS OF BULK AT MOST 1048576: true; the input reads as it did. -/
def curveChainsUptoRow : OpenClaim := { program := "ytbkginjiknnobaagreatdoor", sum := "369fb2883b41483b93a9bb70a71c92bed5eff423740aea7f8e48aedc2968961e", func := "combiner/combinerlaw04.CurveChains", spec := "curveChains", inPlace := ["internal/abi.NoEscape", "internal/bytealg.MakeNoZero"], unfollowed := true, recurses := true, named := ["combiner/curve.words", "internal/strconv.uint64pow10", "math/bits.deBruijn32tab", "math/bits.deBruijn64tab"], apart := false, laid := [("math/bits.deBruijn32tab", laid_math_bits_deBruijn32tab), ("math/bits.deBruijn64tab", laid_math_bits_deBruijn64tab), ("internal/strconv.uint64pow10", laid_internal_strconv_uint64pow10), ("combiner/curve.words", laid_combiner_curve_words)], narrowed := true }
def CurveChainsUptoSaid : Prop := curveChainsUptoRow.holds Tryz.pinned (OpenSpec.upto curveChainsSpec)

/-- 'combinerlaw04.CurveFields', WHERE WHAT IT READS IS OF BULK AT MOST 1048576: true; the input reads as it did. -/
def curveFieldsUptoRow : OpenClaim := { program := "ytbkginjiknnobaagreatdoor", sum := "369fb2883b41483b93a9bb70a71c92bed5eff423740aea7f8e48aedc2968961e", func := "combiner/combinerlaw04.CurveFields", spec := "curveFields", inPlace := ["internal/abi.NoEscape", "internal/bytealg.MakeNoZero"], unfollowed := true, recurses := true, named := ["combiner/curve.words", "internal/strconv.uint64pow10", "math/bits.deBruijn32tab", "math/bits.deBruijn64tab"], apart := false, laid := [("math/bits.deBruijn32tab", laid_math_bits_deBruijn32tab), ("math/bits.deBruijn64tab", laid_math_bits_deBruijn64tab), ("internal/strconv.uint64pow10", laid_internal_strconv_uint64pow10), ("combiner/curve.words", laid_combiner_curve_words)], narrowed := true }
def CurveFieldsUptoSaid : Prop := curveFieldsUptoRow.holds Tryz.pinned (OpenSpec.upto curveFieldsSpec)

/-- 'combinerlaw04.CurveBounds', WHERE WHAT IT READS IS OF BULK AT MOST 1048576: true; the input reads as it did. -/
def curveBoundsUptoRow : OpenClaim := { program := "ytbkginjiknnobaagreatdoor", sum := "369fb2883b41483b93a9bb70a71c92bed5eff423740aea7f8e48aedc2968961e", func := "combiner/combinerlaw04.CurveBounds", spec := "curveBounds", inPlace := ["internal/abi.NoEscape", "internal/bytealg.MakeNoZero"], unfollowed := true, recurses := true, named := ["combiner/curve.words", "internal/strconv.uint64pow10", "math/bits.deBruijn32tab", "math/bits.deBruijn64tab"], apart := false, laid := [("math/bits.deBruijn32tab", laid_math_bits_deBruijn32tab), ("math/bits.deBruijn64tab", laid_math_bits_deBruijn64tab), ("internal/strconv.uint64pow10", laid_internal_strconv_uint64pow10), ("combiner/curve.words", laid_combiner_curve_words)], narrowed := true }
def CurveBoundsUptoSaid : Prop := curveBoundsUptoRow.holds Tryz.pinned (OpenSpec.upto curveBoundsSpec)

/-- 'combinerlaw04.CurvePeaks', WHERE WHAT IT READS IS OF BULK AT MOST 1048576: true; the input reads as it did. -/
def curvePeaksUptoRow : OpenClaim := { program := "ytbkginjiknnobaagreatdoor", sum := "369fb2883b41483b93a9bb70a71c92bed5eff423740aea7f8e48aedc2968961e", func := "combiner/combinerlaw04.CurvePeaks", spec := "curvePeaks", inPlace := ["internal/abi.NoEscape", "internal/bytealg.MakeNoZero"], unfollowed := true, recurses := true, named := ["combiner/curve.words", "internal/strconv.uint64pow10", "math/bits.deBruijn32tab", "math/bits.deBruijn64tab"], apart := false, laid := [("math/bits.deBruijn32tab", laid_math_bits_deBruijn32tab), ("math/bits.deBruijn64tab", laid_math_bits_deBruijn64tab), ("internal/strconv.uint64pow10", laid_internal_strconv_uint64pow10), ("combiner/curve.words", laid_combiner_curve_words)], narrowed := true }
def CurvePeaksUptoSaid : Prop := curvePeaksUptoRow.holds Tryz.pinned (OpenSpec.upto curvePeaksSpec)

/-- 'combinerlaw04.CurveHighest', WHERE WHAT IT READS IS OF BULK AT MOST 1048576: true; the input reads as it did. -/
def curveHighestUptoRow : OpenClaim := { program := "ytbkginjiknnobaagreatdoor", sum := "369fb2883b41483b93a9bb70a71c92bed5eff423740aea7f8e48aedc2968961e", func := "combiner/combinerlaw04.CurveHighest", spec := "curveHighest", inPlace := ["internal/abi.NoEscape", "internal/bytealg.MakeNoZero"], unfollowed := true, recurses := true, named := ["combiner/curve.words", "internal/strconv.uint64pow10", "math/bits.deBruijn32tab", "math/bits.deBruijn64tab"], apart := false, laid := [("math/bits.deBruijn32tab", laid_math_bits_deBruijn32tab), ("math/bits.deBruijn64tab", laid_math_bits_deBruijn64tab), ("internal/strconv.uint64pow10", laid_internal_strconv_uint64pow10), ("combiner/curve.words", laid_combiner_curve_words)], narrowed := true }
def CurveHighestUptoSaid : Prop := curveHighestUptoRow.holds Tryz.pinned (OpenSpec.upto curveHighestSpec)

/-- 'combinerlaw04.CurveDarker', WHERE WHAT IT READS IS OF BULK AT MOST 1048576: true; the input reads as it did. -/
def curveDarkerUptoRow : OpenClaim := { program := "ytbkginjiknnobaagreatdoor", sum := "369fb2883b41483b93a9bb70a71c92bed5eff423740aea7f8e48aedc2968961e", func := "combiner/combinerlaw04.CurveDarker", spec := "curveDarker", inPlace := ["internal/abi.NoEscape", "internal/bytealg.MakeNoZero"], unfollowed := true, recurses := true, named := ["combiner/curve.words", "internal/strconv.uint64pow10", "math/bits.deBruijn32tab", "math/bits.deBruijn64tab"], apart := false, laid := [("math/bits.deBruijn32tab", laid_math_bits_deBruijn32tab), ("math/bits.deBruijn64tab", laid_math_bits_deBruijn64tab), ("internal/strconv.uint64pow10", laid_internal_strconv_uint64pow10), ("combiner/curve.words", laid_combiner_curve_words)], narrowed := true }
def CurveDarkerUptoSaid : Prop := curveDarkerUptoRow.holds Tryz.pinned (OpenSpec.upto curveDarkerSpec)

/-- 'combinerlaw04.CurveStrings', WHERE WHAT IT READS IS OF BULK AT MOST 1048576: true; the input reads as it did. -/
def curveStringsUptoRow : OpenClaim := { program := "ytbkginjiknnobaagreatdoor", sum := "369fb2883b41483b93a9bb70a71c92bed5eff423740aea7f8e48aedc2968961e", func := "combiner/combinerlaw04.CurveStrings", spec := "curveStrings", inPlace := ["internal/abi.NoEscape", "internal/bytealg.MakeNoZero", "internal/bytealg.IndexByteString", "internal/bytealg.CountString", "internal/bytealg.IndexString"], unfollowed := true, recurses := true, named := ["combiner/curve.words", "internal/strconv.uint64pow10", "math/bits.deBruijn32tab", "math/bits.deBruijn64tab", "unicode/utf8.first", "unicode/utf8.acceptRanges", "internal/bytealg.MaxLen"], apart := false, laid := [("math/bits.deBruijn32tab", laid_math_bits_deBruijn32tab), ("math/bits.deBruijn64tab", laid_math_bits_deBruijn64tab), ("internal/strconv.uint64pow10", laid_internal_strconv_uint64pow10), ("unicode/utf8.acceptRanges", laid_unicode_utf8_acceptRanges), ("combiner/curve.words", laid_combiner_curve_words), ("unicode/utf8.first", laid_unicode_utf8_first)], narrowed := true }
def CurveStringsUptoSaid : Prop := curveStringsUptoRow.holds Tryz.pinned (OpenSpec.upto curveStringsSpec)

/-- 'combinerlaw04.CurveFalls', WHERE WHAT IT READS IS OF BULK AT MOST 1048576: true; the input reads as it did. -/
def curveFallsUptoRow : OpenClaim := { program := "ytbkginjiknnobaagreatdoor", sum := "369fb2883b41483b93a9bb70a71c92bed5eff423740aea7f8e48aedc2968961e", func := "combiner/combinerlaw04.CurveFalls", spec := "curveFalls", inPlace := ["internal/abi.NoEscape", "internal/bytealg.MakeNoZero", "internal/bytealg.IndexByteString", "internal/bytealg.CountString", "internal/bytealg.IndexString"], unfollowed := true, recurses := true, named := ["combiner/curve.words", "internal/strconv.uint64pow10", "math/bits.deBruijn32tab", "math/bits.deBruijn64tab", "unicode/utf8.first", "unicode/utf8.acceptRanges", "internal/bytealg.MaxLen"], apart := false, laid := [("math/bits.deBruijn32tab", laid_math_bits_deBruijn32tab), ("math/bits.deBruijn64tab", laid_math_bits_deBruijn64tab), ("internal/strconv.uint64pow10", laid_internal_strconv_uint64pow10), ("unicode/utf8.acceptRanges", laid_unicode_utf8_acceptRanges), ("combiner/curve.words", laid_combiner_curve_words), ("unicode/utf8.first", laid_unicode_utf8_first)], narrowed := true }
def CurveFallsUptoSaid : Prop := curveFallsUptoRow.holds Tryz.pinned (OpenSpec.upto curveFallsSpec)

end Rows
end Go.Proofs.YtbkginjiknnobaaGreatDoor
